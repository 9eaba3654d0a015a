/- value.TypeRight. -/
import Derived.Test.YtemhinagajfemaaConeM39
namespace Go.Proofs.Ytemhinagajfemaa
set_option linter.unusedVariables false
open Go.RowKit

set_option maxHeartbeats 1000000 in
theorem tright_any (v : Ty) (w : World) (h : v.In w) : Calls Try.prog 71 #[v.agg] w fun e w' => BoolBelow v.RightB w e w' := by
  obtain ⟨W, hW⟩ : ∃ W, W = w.alloc (.cells #[.int .i64 v.k, v.na.val v.ns.length, v.xa.val v.xs.length] 61) := ⟨_, rfl⟩
  have hp : PTy W w.heap.size 0 v := by rw [hW]; exact PTy.new w v 61 h
  have hB : Below w.heap.size w W := by rw [hW]; exact (Below.refl _ _).alloc (Nat.le_refl _) _
  have hpa := tparts_any0 v.sz v w.heap.size 0 0 W (Nat.le_refl _) (by omega) hp
  have hty := fun (W' : World) (hb : Below W.heap.size W W') => typed_any v.sz v w.heap.size 0 1 W' (Nat.le_refl _) (by omega) (hp.below hb)
  obtain ⟨p4, q4, e4⟩ := hp.in.nslice
  obtain ⟨p5, q5, e5⟩ := hp.in.xslice
  have hcl := Ty.count_le v.sz v 0 (Nat.le_refl _) (by omega)
  obtain ⟨n, hn⟩ : ∃ n, n = v.count 0 := ⟨_, rfl⟩
  rw [← hn] at hcl hpa
  have hR : v.RightB = (decide (n ≤ 200) && v.rightB 1) := by rw [hn]; rfl
  have HW := Lib.hid hW; have HBL := Lib.hid hB; have HPA := Lib.hid hpa; have HTY := Lib.hid hty
  have HR := Lib.hid hR
  clear hW hp hB hpa hty hn hR e4 e5
  by_cases h200 : n ≤ 200
  · have i1 : decide ((n : Int) ≤ 200) = true := by simp; omega
    have HR2 : Hid (v.RightB = v.rightB 1) := Lib.hid (by rw [HR.out]; simp [h200])
    clear HR h
    go_enter Try.func71, Try.ntmps71
    go_wp2_with fail
    rw [← HW.out]
    refine HPA.out.mono ?_
    rintro e w2 ⟨rfl, rfl⟩
    have HC := Lib.hid (HTY.out W (Below.refl _ _))
    clear HTY HPA
    go_wp2_with fail
    refine HC.out.mono ?_
    rintro e w3 ⟨rfl, hl⟩
    have HL3 := Lib.hid (HBL.out.trans (hl.mono HBL.out.size))
    clear hl
    go_wp2
    go_ret
    exact ⟨by rw [HR2.out]; rfl, HL3.out⟩
  · have i1 : decide ((n : Int) ≤ 200) = false := by simp; omega
    have HR2 : Hid (v.RightB = false) := Lib.hid (by rw [HR.out]; simp [h200])
    clear HR h
    go_enter Try.func71, Try.ntmps71
    go_wp2_with fail
    rw [← HW.out]
    refine HPA.out.mono ?_
    rintro e w2 ⟨rfl, rfl⟩
    go_wp2
    go_ret
    exact ⟨by rw [HR2.out]; rfl, HBL.out⟩
end Go.Proofs.Ytemhinagajfemaa
