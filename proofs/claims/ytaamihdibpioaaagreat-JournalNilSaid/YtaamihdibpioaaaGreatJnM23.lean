/- The code's reader: a type, whatever the bytes (printed by wip/gen_rdtyp.py). -/
import Derived.Test.YtaamihdibpioaaaGreatJnM22
namespace Go.Proofs.YtaamihdibpioaaaGreat
set_option linter.unusedVariables false
open Go.RowKit

end Go.Proofs.YtaamihdibpioaaaGreat
