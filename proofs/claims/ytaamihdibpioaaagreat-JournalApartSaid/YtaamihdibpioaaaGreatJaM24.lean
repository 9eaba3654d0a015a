/- The document's answers: names. -/
import Derived.Test.YtaamihdibpioaaaGreatJaM7
import Derived.Test.YtaamihdibpioaaaGreatJaM8
import Derived.Test.YtaamihdibpioaaaGreatJaM10
import Derived.Test.YtaamihdibpioaaaGreatJaM22
import Derived.BigGuardPart
import Derived.Deep.DeepCutAuto
namespace Go.Proofs.YtaamihdibpioaaaGreat
set_option linter.unusedVariables false
open Go.RowKit

end Go.Proofs.YtaamihdibpioaaaGreat

/- The document's answers: which values are right. -/
namespace Go.Proofs.YtaamihdibpioaaaGreat
set_option linter.unusedVariables false
open Go.RowKit

-- TAIL

end Go.Proofs.YtaamihdibpioaaaGreat
