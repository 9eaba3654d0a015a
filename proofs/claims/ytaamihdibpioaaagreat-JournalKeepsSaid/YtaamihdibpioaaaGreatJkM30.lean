/- A float's text: all that is asked of it is its first byte. -/
import Derived.Test.YtaamihdibpioaaaGreatJkM7
import Derived.Laws.BytesArg
import Derived.BigGuardPart
import Derived.Deep.DeepCutAuto
namespace Go.Proofs.YtaamihdibpioaaaGreat
set_option linter.unusedVariables false
open Go.RowKit

end Go.Proofs.YtaamihdibpioaaaGreat
