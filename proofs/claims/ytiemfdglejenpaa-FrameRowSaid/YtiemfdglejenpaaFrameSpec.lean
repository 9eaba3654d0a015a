/- What a frame is, in plain terms. -/
import Derived.Test.YtiemfdglejenpaaFrame
import Derived.Laws.BytesArg
namespace Go.Proofs.Ytiemfdglejenpaa
open Go.RowKit Go.Proofs.Ytiemfdglejenpaa.Crc

/-- The length ahead of a payload. -/
def headOf (s : ByteArray) : ByteArray := strOfNums [(s.size : Int) / 256, (s.size : Int) % 256]
/-- Four bytes of a sum, the lowest first. -/
def tailOf (c : Nat) : ByteArray := strOfNums [(c : Int) % 256, (c : Int) / 256 % 256, (c : Int) / 65536 % 256, (c : Int) / 16777216]
/-- The frame of a payload. -/
def frameOf (s : ByteArray) : ByteArray := headOf s ++ s ++ tailOf (sum (headOf s ++ s).data.toList)
/-- The frame is handed back; what was there is as it was. -/
def Framed (s : ByteArray) (w : World) (e : Ending) (w' : World) : Prop := e = .returned (.string (frameOf s)) ∧ Below w.heap.size w w'
theorem framed_eq {s : ByteArray} {c : Nat} (h : c = sum (strOfNums [(s.size : Int) / 256, (s.size : Int) % 256] ++ s).data.toList) : frameOf s = headOf s ++ s ++ tailOf c := by
  subst h; rfl
end Go.Proofs.Ytiemfdglejenpaa
