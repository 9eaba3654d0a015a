/- The document's answers: are two values the same? -/
import Derived.Test.YtemhinagajfemaaRefOrd
namespace Go.Proofs.Ytemhinagajfemaa
set_option linter.unusedVariables false
open Go.RowKit

def Val.rsame (v u : Val) : Bool := v.rord u == 0
theorem rsamev_any (v u : Val) (w : World) (hv : v.In w) (hu : u.In w) : Calls Try.prog 24 #[v.agg, u.agg] w fun e w' => BoolBelow (v.rsame u) w e w' := by
  obtain ⟨W, hW⟩ : ∃ W, W = (w.alloc (.cells v.cells.toArray 46)).alloc (.cells u.cells.toArray 46) := ⟨_, rfl⟩
  have hbW : Below w.heap.size w W := by rw [hW]; exact ((Below.refl _ _).alloc (Nat.le_refl _) _).alloc (by simp) _
  have hc := rord_any v.sz v u W (Nat.le_refl _) (hv.below hbW) (hu.below hbW)
  obtain ⟨p4, q4, e4⟩ := hv.nslice
  obtain ⟨p5, q5, e5⟩ := hv.xslice
  obtain ⟨r4, t4, f4⟩ := hu.nslice
  obtain ⟨r5, t5, f5⟩ := hu.xslice
  unfold Val.rsame
  unfold Val.cells at hW
  unfold Val.agg at hc ⊢
  rw [e4, e5, f4, f5] at hW hc ⊢
  obtain ⟨R, hR⟩ : ∃ R, R = v.rord u := ⟨_, rfl⟩
  rw [← hR] at hc ⊢
  have HW := Lib.hid hW; have HBW := Lib.hid hbW; have HC := Lib.hid hc
  clear hW hbW hc e4 e5 f4 f5 hR hv hu
  go_enter Try.func24, Try.ntmps24
  go_wp2_with fail
  rw [← HW.out]
  refine HC.out.mono ?_
  rintro e w1 ⟨rfl, hb1⟩
  have HB1 := Lib.hid (HBW.out.trans (hb1.mono HBW.out.size))
  clear hb1
  go_wp2
  go_ret
  exact ⟨rfl, HB1.out⟩
end Go.Proofs.Ytemhinagajfemaa
