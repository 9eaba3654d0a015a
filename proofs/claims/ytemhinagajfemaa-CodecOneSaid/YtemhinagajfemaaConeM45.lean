/- codec.Value at any value. -/
import Derived.Test.YtemhinagajfemaaConeM44
namespace Go.Proofs.Ytemhinagajfemaa
set_option linter.unusedVariables false
open Go.RowKit

/-- What codec.Value answers. -/
def ValuedOr (b : Bool) (s : List UInt8) (w : World) (e : Ending) (w' : World) : Prop := e = .returned (.tuple #[.string (bif b then ⟨s.toArray⟩ else ByteArray.empty), .int .i64 (bif b then 0 else 5)]) ∧ Below w.heap.size w w'

theorem Val.enc_ne (v : Val) : v.enc ≠ [] := by rw [Val.enc_eq]; simp
theorem Val.enc_bound {w : World} (v : Val) (h : v.RightB = true) (hin : v.In w) : v.enc.length ≤ 60000 := by
  unfold Val.RightB at h
  rw [Bool.and_eq_true, decide_eq_true_eq] at h
  have h1 := Val.count_sz v.sz v 0 (Nat.le_refl _) (by omega)
  have h2 := Val.enc_len v.sz v 1 (Nat.le_refl _) h.2 hin
  omega

set_option maxHeartbeats 1000000 in
theorem value_any (v : Val) (w : World) (h : v.In w) : Calls Try.prog 33 #[v.agg] w fun e w' => ValuedOr v.RightB v.enc w e w' := by
  obtain ⟨W, hW⟩ : ∃ W, W = w.alloc (.cells #[.int .i64 v.k, .int .i64 v.n, .float .f64 v.f, .string v.s, v.na.val v.ns.length, v.xa.val v.xs.length] 46) := ⟨_, rfl⟩
  have hp : PVal W w.heap.size 0 v := by rw [hW]; exact PVal.new w v 46 h
  have hB : Below w.heap.size w W := by rw [hW]; exact (Below.refl _ _).alloc (Nat.le_refl _) _
  have hr := rightf_any v W hp.in
  have c0 := hp.c0; have c1 := hp.c1; have c2 := hp.c2; have c3 := hp.c3; have c4 := hp.c4; have c5 := hp.c5
  simp only [Nat.zero_add] at c1 c2 c3 c4 c5
  obtain ⟨p4, q4, e4⟩ := hp.in.nslice
  obtain ⟨p5, q5, e5⟩ := hp.in.xslice
  have HEB := Lib.hid (fun hr : v.RightB = true => Val.enc_bound v hr h)
  have HW := Lib.hid hW; have HP := Lib.hid hp; have HBL := Lib.hid hB; have HR := Lib.hid hr
  have hlt := Lib.hid hp.2.1
  clear hW hp hB hr e4 e5 h
  by_cases hv : v.RightB = true
  · have HV := Lib.hid hv
    rw [hv] at HR
    clear hv
    go_enter Try.func33, Try.ntmps33
    go_wp2_with fail
    rw [← HW.out]
    go_wp2_with fail
    refine HR.out.mono ?_
    rintro e w2 ⟨rfl, hl⟩
    have hp2 := HP.out.below (hl.mono (Nat.le_refl _))
    have hL2 := HBL.out.trans (hl.mono HBL.out.size)
    have hen := HEB.out HV.out
    have hV1 : v.rightB 1 = true := by
      have := HV.out
      unfold Val.RightB at this
      rw [Bool.and_eq_true] at this
      exact this.2
    have HC := Lib.hid (wvalue_any w2 v.sz v 1 w.heap.size 0 w2.heap.size [] (w2.alloc (.cells #[.pointer none, .slice none 0 0] 89)) (Nat.le_refl _) hp2 ((Below.refl _ _).alloc (Nat.le_refl _) _) (wb_new w2 _ (Nat.le_refl _)) hV1 (by simp only [List.length_nil]; omega))
    have hz2 := hp2.2.1
    have HL := Lib.hid (hL2.alloc hL2.size (.cells #[.pointer none, .slice none 0 0] 89))
    clear hl hp2 hL2 hen hV1 HR HBL HEB HP c0 c1 c2 c3 c4 c5
    go_wp2_with fail
    refine HC.out.mono ?_
    rintro e w3 ⟨rfl, hw3, hb3⟩
    have hs := Lib.hid (string_some w2.heap.size w2.heap.size w3 ([] ++ v.enc) hw3 (by simpa using Val.enc_ne v))
    have hz3 : w.heap.size ≤ w2.heap.size := by omega
    have HL3 := Lib.hid (HL.out.trans (hb3.mono hz3))
    clear hw3 hb3 HC HL
    go_wp2_with fail
    refine hs.out.mono ?_
    rintro e w4 ⟨rfl, hb4⟩
    have hL4 := HL3.out.trans (hb4.mono hz3)
    clear hb4 HL3 hs
    go_wp2
    go_ret2
    exact ⟨by rw [HV.out]; rfl, hL4⟩
  · rw [Bool.not_eq_true] at hv
    have HV := Lib.hid hv
    rw [hv] at HR
    clear hv
    go_enter Try.func33, Try.ntmps33
    go_wp2_with fail
    rw [← HW.out]
    go_wp2_with fail
    refine HR.out.mono ?_
    rintro e w2 ⟨rfl, hl⟩
    have HL2 := Lib.hid (HBL.out.trans (hl.mono HBL.out.size))
    clear hl
    go_wp2
    go_ret2
    exact ⟨by rw [HV.out]; rfl, HL2.out⟩
end Go.Proofs.Ytemhinagajfemaa
