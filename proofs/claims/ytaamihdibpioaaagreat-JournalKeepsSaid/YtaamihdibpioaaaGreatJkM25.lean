/- The document's answers: names. -/
import Derived.Test.YtaamihdibpioaaaGreatJkM7
import Derived.Test.YtaamihdibpioaaaGreatJkM8
import Derived.Test.YtaamihdibpioaaaGreatJkM10
import Derived.Test.YtaamihdibpioaaaGreatJkM23
import Derived.BigGuardPart
import Derived.Deep.DeepCutAuto
namespace Go.Proofs.YtaamihdibpioaaaGreat
set_option linter.unusedVariables false
open Go.RowKit

end Go.Proofs.YtaamihdibpioaaaGreat

/- The document's answers: which values are right. -/
namespace Go.Proofs.YtaamihdibpioaaaGreat
set_option linter.unusedVariables false
open Go.RowKit

-- TAIL

end Go.Proofs.YtaamihdibpioaaaGreat
