/- value.Right of any value. -/
import Derived.Test.YtemhinagajfemaaValRight2
namespace Go.Proofs.Ytemhinagajfemaa
set_option linter.unusedVariables false
open Go.RowKit

theorem right_any : ∀ (d : Nat) (v : Val) (b o deep : Nat) (w : World), v.sz ≤ d → deep ≤ 13 → PVal w b o v →
    Calls Try.prog 96 #[.pointer (some ⟨b, o, none⟩), .int .i64 deep] w fun e w' => BoolBelow (v.rightB deep) w e w'
  | 0, v, b, o, deep, w, hd, _, _ => by rw [Val.sz_eq] at hd; omega
  | d + 1, v, b, o, deep, w, hd, hdeep, hp => by
    by_cases h12 : 12 < deep
    · exact right_deep v b o deep w h12
    · have ih : ∀ x, x ∈ v.xs → ∀ (b o : Nat) (w : World), PVal w b o x → Calls Try.prog 96 #[.pointer (some ⟨b, o, none⟩), .int .i64 ((deep : Int) + 1)] w fun e w' => BoolBelow (x.rightB (deep + 1)) w e w' :=
        fun x hx b o w hp => right_any d x b o (deep + 1) w (by have := Val.size_mem hx; omega) (by omega) hp
      by_cases h5 : v.k = 5
      · exact right_list v b o deep w (by omega) hp h5 ih
      · by_cases h6 : v.k = 6
        · exact right_rec v b o deep w (by omega) hp h6 ih
        · exact right_leaf v b o deep w (by omega) hp ⟨h5, h6⟩

/-- A value by its six cells. -/
abbrev Val.agg (v : Val) : Value := .agg #[.int .i64 v.k, .int .i64 v.n, .float .f64 v.f, .string v.s, v.na.val v.ns.length, v.xa.val v.xs.length]
/-- May it be a value? -/
def Val.RightB (v : Val) : Bool := decide (v.count 0 ≤ 200) && v.rightB 1

def IntBelow (n : Int) (w : World) (e : Ending) (w' : World) : Prop := e = .returned (.int .i64 n) ∧ Below w.heap.size w w'
theorem parts_any (v : Val) (w : World) (h : v.In w) : Calls Try.prog 95 #[v.agg] w fun e w' => IntBelow (v.count 0 : Nat) w e w' := by
  have hc := Lib.hid (counted_any v.sz v w.heap.size 0 0 _ (Nat.le_refl _) (by omega) (PVal.new w v 46 h))
  clear h
  go_enter Try.func95, Try.ntmps95
  go_wp2_with fail
  refine hc.out.mono ?_
  rintro e w' ⟨rfl, rfl⟩
  go_wp2
  go_ret
  exact ⟨rfl, (Below.refl _ _).alloc (Nat.le_refl _) _⟩

set_option maxHeartbeats 1000000 in
theorem rightf_any (v : Val) (w : World) (h : v.In w) : Calls Try.prog 65 #[v.agg] w fun e w' => BoolBelow v.RightB w e w' := by
  obtain ⟨W, hW⟩ : ∃ W, W = w.alloc (.cells #[.int .i64 v.k, .int .i64 v.n, .float .f64 v.f, .string v.s, v.na.val v.ns.length, v.xa.val v.xs.length] 46) := ⟨_, rfl⟩
  have hp : PVal W w.heap.size 0 v := by rw [hW]; exact PVal.new w v 46 h
  have hB : Below w.heap.size w W := by rw [hW]; exact (Below.refl _ _).alloc (Nat.le_refl _) _
  have hpa := parts_any v W hp.in
  have c0 := hp.c0; have c1 := hp.c1; have c2 := hp.c2; have c3 := hp.c3; have c4 := hp.c4; have c5 := hp.c5
  simp only [Nat.zero_add] at c1 c2 c3 c4 c5
  obtain ⟨p4, q4, e4⟩ := hp.in.nslice
  obtain ⟨p5, q5, e5⟩ := hp.in.xslice
  have HW := Lib.hid hW; have HP := Lib.hid hp; have HBL := Lib.hid hB; have HPA := Lib.hid hpa
  have hcl := Val.count_le v.sz v 0 (Nat.le_refl _) (by omega)
  obtain ⟨n, hn⟩ : ∃ n, n = v.count 0 := ⟨_, rfl⟩
  rw [← hn] at hcl HPA
  have hR : v.RightB = (decide (n ≤ 200) && v.rightB 1) := by rw [hn]; rfl
  have HR := Lib.hid hR
  clear hW hp hB hpa hn hR e4 e5
  by_cases h200 : n ≤ 200
  · have i1 : decide ((n : Int) ≤ 200) = true := by simp; omega
    have HR2 : Hid (v.RightB = v.rightB 1) := Lib.hid (by rw [HR.out]; simp [h200])
    clear HR h
    go_enter Try.func65, Try.ntmps65
    go_wp2_with fail
    rw [← HW.out]
    go_wp2_with fail
    refine HPA.out.mono ?_
    rintro e w2 ⟨rfl, hl⟩
    have HC := Lib.hid (right_any v.sz v w.heap.size 0 1 w2 (Nat.le_refl _) (by omega) (HP.out.below (hl.mono (Nat.le_refl _))))
    have HL := Lib.hid (HBL.out.trans (hl.mono HBL.out.size))
    clear hl c0 c1 c2 c3 c4 c5
    go_wp2_with fail
    refine HC.out.mono ?_
    rintro e w3 ⟨rfl, hl⟩
    have HL3 := Lib.hid (HL.out.trans (hl.mono HL.out.size))
    clear hl
    go_wp2
    go_ret
    exact ⟨by rw [HR2.out]; rfl, HL3.out⟩
  · have i1 : decide ((n : Int) ≤ 200) = false := by simp; omega
    have HR2 : Hid (v.RightB = false) := Lib.hid (by rw [HR.out]; simp [h200])
    clear HR h
    go_enter Try.func65, Try.ntmps65
    go_wp2_with fail
    rw [← HW.out]
    go_wp2_with fail
    refine HPA.out.mono ?_
    rintro e w2 ⟨rfl, hl⟩
    have HL := Lib.hid (HBL.out.trans (hl.mono HBL.out.size))
    clear hl
    go_wp2
    go_ret
    exact ⟨by rw [HR2.out]; rfl, HL.out⟩
end Go.Proofs.Ytemhinagajfemaa
