/- A float's text: all that is asked of it is its first byte. -/
import Derived.Test.YtaamihdibpioaaaGreatJpM7
import Derived.Laws.BytesArg
import Derived.Deep.DeepCutAuto
set_option maxRecDepth 100000
set_option maxHeartbeats 40000000
namespace Go.Proofs.YtaamihdibpioaaaGreat
open Go.RowKit
end Go.Proofs.YtaamihdibpioaaaGreat
