/- The reference's writer of values (printed by wip/gen_refwrval.py). -/
import Derived.Test.YtaamihdibpioaaaGreatJnM8
import Derived.Test.YtaamihdibpioaaaGreatJnM25
import Derived.Test.YtaamihdibpioaaaGreatJnM26
import Derived.Test.YtaamihdibpioaaaGreatJnM29
import Derived.Test.YtaamihdibpioaaaGreatJnM42
namespace Go.Proofs.YtaamihdibpioaaaGreat
set_option linter.unusedVariables false
open Go.RowKit

/-- Bytes as a string. -/
def strB (l : List UInt8) : ByteArray := ⟨l.toArray⟩
theorem strB_append (a b : List UInt8) : strB a ++ strB b = strB (a ++ b) := by
  apply ByteArray.ext
  simp [strB, ByteArray.data_append]

end Go.Proofs.YtaamihdibpioaaaGreat
