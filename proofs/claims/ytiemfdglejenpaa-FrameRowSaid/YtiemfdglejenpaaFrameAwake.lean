/- The law package's 'awake' of layer 6 answers true. -/
import Derived.Test.YtiemfdglejenpaaFrameNext
import Derived.Test.YtiemfdglejenpaaRow
namespace Go.Proofs.Ytiemfdglejenpaa
set_option linter.unusedVariables false
open Go.RowKit Go.Proofs.Ytiemfdglejenpaa.Crc

def aPay : ByteArray := ⟨#[97]⟩
def aFrame : ByteArray := frameOf aPay
theorem aFrame_size : aFrame.size = 7 := by decide +kernel
theorem aFrame_cut : aFrame.extract 0 3 = ⟨#[0, 1, 97]⟩ := by decide +kernel
theorem aNextP : nextP aFrame 0 = ⟨#[97]⟩ := by decide +kernel
theorem aNextTo : nextTo aFrame 0 = 7 := by decide +kernel
theorem aNextE : nextE aFrame 0 = 0 := by decide +kernel
theorem aNextE8 : nextE aFrame 8 = 3 := by decide +kernel
theorem sum9 : sum (⟨#[49, 50, 51, 52, 53, 54, 55, 56, 57]⟩ : ByteArray).data.toList = 3421780262 := by decide +kernel

def SumTo (c : Nat) (w : World) (e : Ending) (w' : World) : Prop := e = .returned (.int .u32 (c : Int)) ∧ Below w.heap.size w w'
theorem sum9_any (w : World) : Calls Try.prog 23 #[.string ⟨#[49, 50, 51, 52, 53, 54, 55, 56, 57]⟩] w fun e w' => SumTo 3421780262 w e w' := by
  have := sum_any ⟨#[49, 50, 51, 52, 53, 54, 55, 56, 57]⟩ w (by decide)
  unfold Summed at this
  rw [sum9] at this
  exact this
theorem next0_any (w : World) : Calls Try.prog 27 #[.string aFrame, .int .i64 0] w fun e w' => NextOut ⟨#[97]⟩ 7 0 w e w' := by
  have := next_any aFrame 0 w (by rw [aFrame_size]; omega)
  rw [aNextP, aNextTo, aNextE] at this
  exact this
theorem next8_any (w : World) : Calls Try.prog 27 #[.string aFrame, .int .i64 8] w fun e w' => NextOut (nextP aFrame 8) (nextTo aFrame 8) 3 w e w' := by
  have := next_any aFrame 8 w (by rw [aFrame_size]; omega)
  rw [aNextE8] at this
  exact this
theorem makeA_any (w : World) : Calls Try.prog 22 #[.string ⟨#[97]⟩] w fun e w' => Made aPay w e w' := make_ok aPay w (by decide) (by decide)

set_option maxHeartbeats 1000000 in
theorem awake06_any (w : World) : Calls Try.prog 21 #[] w fun e w' => TrueBelow w e w' := by
  have hz := aFrame_size
  have hcut := aFrame_cut
  go_enter Try.func21, Try.ntmps21
  go_wp2_with fail
  refine (makeA_any _).mono ?_
  rintro e w1 ⟨rfl, hl1⟩
  change _
  rw [show frameOf aPay = aFrame from rfl]
  go_wp2_with fail
  refine (next0_any _).mono ?_
  rintro e w2 ⟨rfl, hl2⟩
  have hl := hl1.trans (hl2.mono hl1.size)
  clear hl1 hl2
  go_wp2_with fail
  refine (next8_any _).mono ?_
  rintro e w3 ⟨rfl, hl3⟩
  have hl' := hl.trans (hl3.mono hl.size)
  clear hl hl3
  go_wp2_with fail
  refine (sum9_any _).mono ?_
  rintro e w4 ⟨rfl, hl4⟩
  have hl := hl'.trans (hl4.mono hl'.size)
  go_wp2
  go_ret
  exact ⟨rfl, hl⟩
end Go.Proofs.Ytiemfdglejenpaa
