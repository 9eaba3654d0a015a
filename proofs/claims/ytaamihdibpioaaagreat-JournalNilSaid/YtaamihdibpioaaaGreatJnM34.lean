/- The document's answers: which values are right. -/
import Derived.Test.YtaamihdibpioaaaGreatJnM8
import Derived.Test.YtaamihdibpioaaaGreatJnM11
import Derived.Test.YtaamihdibpioaaaGreatJnM25
import Derived.Test.YtaamihdibpioaaaGreatJnM27
import Derived.BigGuardPart
import Derived.Deep.DeepCutAuto
namespace Go.Proofs.YtaamihdibpioaaaGreat
set_option linter.unusedVariables false
open Go.RowKit

-- TAIL

end Go.Proofs.YtaamihdibpioaaaGreat
