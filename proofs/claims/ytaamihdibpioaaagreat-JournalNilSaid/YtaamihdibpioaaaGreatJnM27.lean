/- The document's answers: names. -/
import Derived.Test.YtaamihdibpioaaaGreatJnM9
import Derived.Test.YtaamihdibpioaaaGreatJnM25
import Derived.BigGuardPart
import Derived.Deep.DeepCutAuto
namespace Go.Proofs.YtaamihdibpioaaaGreat
set_option linter.unusedVariables false
open Go.RowKit

end Go.Proofs.YtaamihdibpioaaaGreat
