/- The document's answer: may it be a type? (printed by wip/gen_reftright.py) -/
import Derived.Test.YtjpdbhhjlnmacaaGreatTcM11
import Derived.Test.YtjpdbhhjlnmacaaGreatTcM12
import Derived.Test.YtjpdbhhjlnmacaaGreatTcM18
import Derived.BigGuardPart
namespace Go.Proofs.YtjpdbhhjlnmacaaGreat
set_option linter.unusedVariables false
open Go.RowKit

set_option maxHeartbeats 4000000 in
set_option maxRecDepth 100000 in
theorem tright_far (v : Ty) (w : World) (h : v.In w) : Calls Tryz.prog 40 #[v.agg, .int .i64 0] w fun e w' => BoolBelow (v.rightB 13) w e w' := by
  have HE := Lib.hid (show v.rightB 13 = false by rw [Ty.rightB_eq, if_pos (by omega)])
  clear h
  go_enter Tryz.func40, Tryz.ntmps40
  go_wp2
  go_ret
  exact ⟨by rw [HE.out]; rfl, (Below.refl _ _).alloc (Nat.le_refl _) _⟩

set_option maxHeartbeats 8000000 in
set_option maxRecDepth 100000 in
theorem tright_leaf (v : Ty) (far : Nat) (w : World) (hf1 : 1 ≤ far) (hf2 : far ≤ 12) (h : v.In w) (hk : v.k = 1 ∨ v.k = 2 ∨ v.k = 3 ∨ v.k = 4 ∨ v.k = 7) :
    Calls Tryz.prog 40 #[v.agg, .int .i64 far] w fun e w' => BoolBelow (v.rightB (13 - far)) w e w' := by
  have i1 : decide ((far : Int) < 1) = false := by simp; omega
  have i1' : decide (far < 1) = false := by simp; omega
  have e := Ty.rightB_eq v (13 - far)
  rw [if_neg (by omega)] at e
  obtain ⟨W, hW⟩ : ∃ W, W = w.alloc (.cells v.cells.toArray 36) := ⟨_, rfl⟩
  have hBW : Below w.heap.size w W := by rw [hW]; exact (Below.refl _ w).alloc (Nat.le_refl _) _
  have hb0 : Blk W w.heap.size 36 v.cells.toArray := by rw [hW]; exact Blk.new w 36 _
  have hin := h.below hBW
  obtain ⟨p4, q4, e4⟩ := h.nslice
  obtain ⟨p5, q5, e5, x5⟩ := titems_at hin
  have hnl := h.ok.2.1
  have hxl := h.ok.2.2.1
  have hNA := TNamesAt.of hin
  have hNS := h.ok.2.2.2
  unfold Ty.cells at hW hb0
  unfold Ty.agg
  rw [e4] at hNA
  rw [e4, e5] at hW hb0 ⊢
  obtain ⟨L, hL⟩ : ∃ L, L = v.ns.length := ⟨_, rfl⟩
  obtain ⟨M, hM⟩ : ∃ M, M = v.xs.length := ⟨_, rfl⟩
  rw [← hL] at hnl hNA hW hb0 ⊢
  rw [← hM] at hxl hW hb0 ⊢
  obtain ⟨K, hK⟩ : ∃ K, K = v.k := ⟨_, rfl⟩
  rw [← hK] at e hk hW hb0 ⊢
  have HW := Lib.hid hW; have HBW := Lib.hid hBW; have HB0 := Lib.hid hb0; have HX := Lib.hid x5; have HNA := Lib.hid hNA; have HNS := Lib.hid hNS; have HL := Lib.hid hL; have HM := Lib.hid hM
  have hlt := hb0.lt
  have a0 := hb0.cell 0; have a1 := hb0.cell 1; have a2 := hb0.cell 2
  simp only [List.getElem?_toArray, List.getElem?_cons_zero, List.getElem?_cons_succ] at a0 a1 a2
  clear hW hBW hb0 x5 hNA hNS h hin e4 e5 hK
  rw [if_neg (by omega), if_neg (by omega), if_pos (by omega), ← hL, ← hM] at e
  have HE := Lib.hid e
  clear e hL hM
  by_cases h1 : M = 0
  · subst h1
    by_cases h0 : L = 0
    · subst h0
      have HE2 : Hid (v.rightB (13 - far) = true) := Lib.hid (by rw [HE.out]; rfl)
      clear HE
      rcases hk with rfl | rfl | rfl | rfl | rfl
      all_goals
        go_enter Tryz.func40, Tryz.ntmps40
        go_wp2_with fail
        rw [← HW.out]
        go_wp2_with fail
        go_ret
        exact ⟨by rw [HE2.out]; rfl, HBW.out⟩
    · have HE2 : Hid (v.rightB (13 - far) = false) := Lib.hid (by rw [HE.out]; simp [h0])
      have j1 : ((L : Int) == 0) = false := by simp; omega
      have j2 : (L == 0) = false := by simp; omega
      clear HE
      rcases hk with rfl | rfl | rfl | rfl | rfl
      all_goals
        go_enter Tryz.func40, Tryz.ntmps40
        go_wp2_with fail
        rw [← HW.out]
        go_wp2_with fail
        go_ret
        exact ⟨by rw [HE2.out]; rfl, HBW.out⟩
  · have HE2 : Hid (v.rightB (13 - far) = false) := Lib.hid (by rw [HE.out]; simp [h1])
    have j1 : ((M : Int) == 0) = false := by simp; omega
    have j2 : (M == 0) = false := by simp; omega
    clear HE
    rcases hk with rfl | rfl | rfl | rfl | rfl
    all_goals
      go_enter Tryz.func40, Tryz.ntmps40
      go_wp2_with fail
      rw [← HW.out]
      go_wp2_with fail
      go_ret
      exact ⟨by rw [HE2.out]; rfl, HBW.out⟩

set_option maxHeartbeats 8000000 in
set_option maxRecDepth 100000 in
theorem tright_other (v : Ty) (far : Nat) (w : World) (hf1 : 1 ≤ far) (hf2 : far ≤ 12) (h : v.In w) (hk : v.k < 1 ∨ 7 < v.k) :
    Calls Tryz.prog 40 #[v.agg, .int .i64 far] w fun e w' => BoolBelow (v.rightB (13 - far)) w e w' := by
  have i1 : decide ((far : Int) < 1) = false := by simp; omega
  have i1' : decide (far < 1) = false := by simp; omega
  have e := Ty.rightB_eq v (13 - far)
  rw [if_neg (by omega)] at e
  obtain ⟨W, hW⟩ : ∃ W, W = w.alloc (.cells v.cells.toArray 36) := ⟨_, rfl⟩
  have hBW : Below w.heap.size w W := by rw [hW]; exact (Below.refl _ w).alloc (Nat.le_refl _) _
  have hb0 : Blk W w.heap.size 36 v.cells.toArray := by rw [hW]; exact Blk.new w 36 _
  have hin := h.below hBW
  obtain ⟨p4, q4, e4⟩ := h.nslice
  obtain ⟨p5, q5, e5, x5⟩ := titems_at hin
  have hnl := h.ok.2.1
  have hxl := h.ok.2.2.1
  have hNA := TNamesAt.of hin
  have hNS := h.ok.2.2.2
  unfold Ty.cells at hW hb0
  unfold Ty.agg
  rw [e4] at hNA
  rw [e4, e5] at hW hb0 ⊢
  obtain ⟨L, hL⟩ : ∃ L, L = v.ns.length := ⟨_, rfl⟩
  obtain ⟨M, hM⟩ : ∃ M, M = v.xs.length := ⟨_, rfl⟩
  rw [← hL] at hnl hNA hW hb0 ⊢
  rw [← hM] at hxl hW hb0 ⊢
  obtain ⟨K, hK⟩ : ∃ K, K = v.k := ⟨_, rfl⟩
  rw [← hK] at e hk hW hb0 ⊢
  have HW := Lib.hid hW; have HBW := Lib.hid hBW; have HB0 := Lib.hid hb0; have HX := Lib.hid x5; have HNA := Lib.hid hNA; have HNS := Lib.hid hNS; have HL := Lib.hid hL; have HM := Lib.hid hM
  have hlt := hb0.lt
  have a0 := hb0.cell 0; have a1 := hb0.cell 1; have a2 := hb0.cell 2
  simp only [List.getElem?_toArray, List.getElem?_cons_zero, List.getElem?_cons_succ] at a0 a1 a2
  clear hW hBW hb0 x5 hNA hNS h hin e4 e5 hK
  rw [if_neg (by omega), if_neg (by omega), if_neg (by omega)] at e
  have HE2 := Lib.hid e
  clear e hL hM
  rcases hk with hk | hk
  · have t1 : decide (K < 1) = true := by simp; omega
    go_enter Tryz.func40, Tryz.ntmps40
    go_wp2_with fail
    rw [← HW.out]
    go_wp2_with fail
    go_ret
    exact ⟨by rw [HE2.out]; rfl, HBW.out⟩
  · have t1 : decide (K < 1) = false := by simp; omega
    have t2 : decide (7 < K) = true := by simp; omega
    go_enter Tryz.func40, Tryz.ntmps40
    go_wp2_with fail
    rw [← HW.out]
    go_wp2_with fail
    go_ret
    exact ⟨by rw [HE2.out]; rfl, HBW.out⟩

set_option maxHeartbeats 8000000 in
set_option maxRecDepth 100000 in
theorem tright_list (v : Ty) (far : Nat) (w : World) (hf1 : 1 ≤ far) (hf2 : far ≤ 12) (h : v.In w) (hk : v.k = 5)
    (ih : ∀ x, x ∈ v.xs → ∀ w : World, x.In w → Calls Tryz.prog 40 #[x.agg, .int .i64 ((far : Int) - 1)] w fun e w' => BoolBelow (x.rightB (13 - far + 1)) w e w') :
    Calls Tryz.prog 40 #[v.agg, .int .i64 far] w fun e w' => BoolBelow (v.rightB (13 - far)) w e w' := by
  have i1 : decide ((far : Int) < 1) = false := by simp; omega
  have i1' : decide (far < 1) = false := by simp; omega
  have e := Ty.rightB_eq v (13 - far)
  rw [if_neg (by omega)] at e
  obtain ⟨W, hW⟩ : ∃ W, W = w.alloc (.cells v.cells.toArray 36) := ⟨_, rfl⟩
  have hBW : Below w.heap.size w W := by rw [hW]; exact (Below.refl _ w).alloc (Nat.le_refl _) _
  have hb0 : Blk W w.heap.size 36 v.cells.toArray := by rw [hW]; exact Blk.new w 36 _
  have hin := h.below hBW
  obtain ⟨p4, q4, e4⟩ := h.nslice
  obtain ⟨p5, q5, e5, x5⟩ := titems_at hin
  have hnl := h.ok.2.1
  have hxl := h.ok.2.2.1
  have hNA := TNamesAt.of hin
  have hNS := h.ok.2.2.2
  unfold Ty.cells at hW hb0
  unfold Ty.agg
  rw [e4] at hNA
  rw [e4, e5] at hW hb0 ⊢
  obtain ⟨L, hL⟩ : ∃ L, L = v.ns.length := ⟨_, rfl⟩
  obtain ⟨M, hM⟩ : ∃ M, M = v.xs.length := ⟨_, rfl⟩
  rw [← hL] at hnl hNA hW hb0 ⊢
  rw [← hM] at hxl hW hb0 ⊢
  obtain ⟨K, hK⟩ : ∃ K, K = v.k := ⟨_, rfl⟩
  rw [← hK] at e hk hW hb0 ⊢
  have HW := Lib.hid hW; have HBW := Lib.hid hBW; have HB0 := Lib.hid hb0; have HX := Lib.hid x5; have HNA := Lib.hid hNA; have HNS := Lib.hid hNS; have HL := Lib.hid hL; have HM := Lib.hid hM
  have hlt := hb0.lt
  have a0 := hb0.cell 0; have a1 := hb0.cell 1; have a2 := hb0.cell 2
  simp only [List.getElem?_toArray, List.getElem?_cons_zero, List.getElem?_cons_succ] at a0 a1 a2
  clear hW hBW hb0 x5 hNA hNS h hin e4 e5 hK
  rw [if_pos hk, ← hL, ← hM] at e
  have HE := Lib.hid e; have HIH := Lib.hid ih
  clear e hL hM ih
  subst hk
  by_cases h1 : M = 1
  · by_cases h0 : L = 0
    · have HE2 : Hid (v.rightB (13 - far) = Ty.rightAll v.xs (13 - far + 1)) := Lib.hid (by rw [HE.out, h0, h1]; simp)
      have j1 : ((M : Int) != 1) = false := by simp; omega
      have j2 : (M != 1) = false := by simp; omega
      have j3 : ((L : Int) != 0) = false := by simp; omega
      have j4 : (L != 0) = false := by simp; omega
      clear HE h0 h1
      go_enter Tryz.func40, Tryz.ntmps40
      go_wp2_with fail
      rw [← HW.out]
      have HBS := Lib.hid (Below.refl W.heap.size W)
      go_wp2_with fail
      go_loopw [5] (fun iv wr => ∃ i : Nat, iv = .int .i64 (i : Int) ∧ i ≤ M ∧ Hid (Ty.rightAll (v.xs.drop i) (13 - far + 1) = v.rightB (13 - far)) ∧ Hid (Below W.heap.size W wr)) (fun iv _ => M - (intOf iv).toNat)
      case atStart => exact ⟨0, rfl, by omega, Lib.hid (by rw [HE2.out]; rfl), HBS⟩
      case round =>
        obtain ⟨i, rfl, hi, HR, HB⟩ := hrel
        clear a0 a1 a2 HBS
        have a2 := (HB0.out.below HB.out HB0.out.lt).cell 2
        simp only [List.getElem?_toArray, List.getElem?_cons_zero, List.getElem?_cons_succ] at a2
        try rw [← HM.out] at a2
        by_cases hlt : i < M
        · have hil : i < v.xs.length := by rw [← HM.out]; exact hlt
          obtain ⟨xb, xo, rfl, hpx, hlc⟩ := HX.out i hil
          rw [← HM.out] at hlc
          have hdr := drop_cons hil
          have hrr := HR.out
          rw [hdr] at hrr
          have hxm : v.xs[i]'hil ∈ v.xs := by simp
          obtain ⟨x, hxx⟩ : ∃ x, x = v.xs[i]'hil := ⟨_, rfl⟩
          rw [← hxx] at hpx hrr hxm
          have hpw := hpx.below HB.out
          have d0 := hpw.c0; have d4 := hpw.c1; have d5 := hpw.c2
          obtain ⟨r4, t4, g4⟩ := hpw.in.nslice
          obtain ⟨r5, t5, g5⟩ := hpw.in.xslice
          rw [g4] at d4
          rw [g5] at d5
          have hc := HIH.out x hxm wr hpw.in
          unfold Ty.agg at hc
          rw [g4, g5] at hc
          have hk0 : (0 : Int) ≤ (i : Int) := by omega
          have hk1 : (i : Int) < (M : Int) := by omega
          cases hrb : x.rightB (13 - far + 1) with
          | false =>
            rw [hrb] at hc
            have HC2 := Lib.hid hc
            have HF : Hid (v.rightB (13 - far) = false) := Lib.hid (by rw [← hrr]; simp [Ty.rightAll, hrb])
            clear hil hpx hpw hc hxx g4 g5 hrb hrr hdr hxm HR
            go_wp2_with fail
            refine HC2.out.mono ?_
            rintro e w3 ⟨rfl, hb3⟩
            have HB3 := Lib.hid (HBW.out.trans ((HB.out.trans (hb3.mono HB.out.size)).mono HBW.out.size))
            clear hb3 d0 d4 d5 a2 HC2
            go_wp2
            go_ret
            exact ⟨by rw [HF.out]; rfl, HB3.out⟩
          | true =>
            rw [hrb] at hc
            have HC2 := Lib.hid hc
            have HR2 : Hid (Ty.rightAll (v.xs.drop (i + 1)) (13 - far + 1) = v.rightB (13 - far)) := Lib.hid (by rw [← hrr]; simp [Ty.rightAll, hrb])
            clear hil hpx hpw hc hxx g4 g5 hrb hrr hdr hxm HR
            go_wp2_with fail
            refine HC2.out.mono ?_
            rintro e w3 ⟨rfl, hb3⟩
            have HB3 := Lib.hid (HB.out.trans (hb3.mono HB.out.size))
            clear hb3 d0 d4 d5 a2 HC2
            go_wp2
            go_roundw
            case rel => exact ⟨i + 1, by go_num, by omega, HR2, HB3⟩
            case measure => simp [intOf]; omega
        · have HT : Hid (v.rightB (13 - far) = true) := Lib.hid (by rw [← HR.out, List.drop_eq_nil_of_le (by rw [← HM.out]; omega)]; simp [Ty.rightAll])
          go_wp2
          go_ret
          exact ⟨by rw [HT.out]; rfl, HBW.out.trans (HB.out.mono HBW.out.size)⟩
    · have HE2 : Hid (v.rightB (13 - far) = false) := Lib.hid (by rw [HE.out]; simp [h0])
      have j1 : ((M : Int) != 1) = false := by simp; omega
      have j2 : (M != 1) = false := by simp; omega
      have j3 : ((L : Int) != 0) = true := by simp; omega
      have j4 : (L != 0) = true := by simp; omega
      clear HE h0 h1
      go_enter Tryz.func40, Tryz.ntmps40
      go_wp2_with fail
      rw [← HW.out]
      go_wp2_with fail
      go_ret
      exact ⟨by rw [HE2.out]; rfl, HBW.out⟩
  · have HE2 : Hid (v.rightB (13 - far) = false) := Lib.hid (by rw [HE.out]; simp [h1])
    have j1 : ((M : Int) != 1) = true := by simp; omega
    have j2 : (M != 1) = true := by simp; omega
    clear HE h1
    go_enter Tryz.func40, Tryz.ntmps40
    go_wp2_with fail
    rw [← HW.out]
    go_wp2_with fail
    go_ret
    exact ⟨by rw [HE2.out]; rfl, HBW.out⟩

set_option maxHeartbeats 8000000 in
set_option maxRecDepth 100000 in
theorem tright_rec (v : Ty) (far : Nat) (w : World) (hf1 : 1 ≤ far) (hf2 : far ≤ 12) (h : v.In w) (hk : v.k = 6)
    (ih : ∀ x, x ∈ v.xs → ∀ w : World, x.In w → Calls Tryz.prog 40 #[x.agg, .int .i64 ((far : Int) - 1)] w fun e w' => BoolBelow (x.rightB (13 - far + 1)) w e w') :
    Calls Tryz.prog 40 #[v.agg, .int .i64 far] w fun e w' => BoolBelow (v.rightB (13 - far)) w e w' := by
  have i1 : decide ((far : Int) < 1) = false := by simp; omega
  have i1' : decide (far < 1) = false := by simp; omega
  have e := Ty.rightB_eq v (13 - far)
  rw [if_neg (by omega)] at e
  obtain ⟨W, hW⟩ : ∃ W, W = w.alloc (.cells v.cells.toArray 36) := ⟨_, rfl⟩
  have hBW : Below w.heap.size w W := by rw [hW]; exact (Below.refl _ w).alloc (Nat.le_refl _) _
  have hb0 : Blk W w.heap.size 36 v.cells.toArray := by rw [hW]; exact Blk.new w 36 _
  have hin := h.below hBW
  obtain ⟨p4, q4, e4⟩ := h.nslice
  obtain ⟨p5, q5, e5, x5⟩ := titems_at hin
  have hnl := h.ok.2.1
  have hxl := h.ok.2.2.1
  have hNA := TNamesAt.of hin
  have hNS := h.ok.2.2.2
  unfold Ty.cells at hW hb0
  unfold Ty.agg
  rw [e4] at hNA
  rw [e4, e5] at hW hb0 ⊢
  obtain ⟨L, hL⟩ : ∃ L, L = v.ns.length := ⟨_, rfl⟩
  obtain ⟨M, hM⟩ : ∃ M, M = v.xs.length := ⟨_, rfl⟩
  rw [← hL] at hnl hNA hW hb0 ⊢
  rw [← hM] at hxl hW hb0 ⊢
  obtain ⟨K, hK⟩ : ∃ K, K = v.k := ⟨_, rfl⟩
  rw [← hK] at e hk hW hb0 ⊢
  have HW := Lib.hid hW; have HBW := Lib.hid hBW; have HB0 := Lib.hid hb0; have HX := Lib.hid x5; have HNA := Lib.hid hNA; have HNS := Lib.hid hNS; have HL := Lib.hid hL; have HM := Lib.hid hM
  have hlt := hb0.lt
  have a0 := hb0.cell 0; have a1 := hb0.cell 1; have a2 := hb0.cell 2
  simp only [List.getElem?_toArray, List.getElem?_cons_zero, List.getElem?_cons_succ] at a0 a1 a2
  clear hW hBW hb0 x5 hNA hNS h hin e4 e5 hK
  rw [if_neg (by omega), if_pos hk] at e
  have HE := Lib.hid e; have HIH := Lib.hid ih
  have hrn := fun (W' : World) (h : NamesAt W' (.slice p4 L q4) v.ns) => rnames_any (.slice p4 L q4) v.ns (M : Int) W' h (by rw [← hL]; exact hnl) HNS.out
  have HRN := Lib.hid (hrn W HNA.out)
  clear e hL hM ih hrn
  subst hk
  obtain ⟨B, hB⟩ : ∃ B, B = (risingB v.ns && ((v.ns.length : Int) == (M : Int))) := ⟨_, rfl⟩
  rw [← hB] at HRN
  have hBE : B = (decide (v.ns.length = v.xs.length) && risingB v.ns) := by
    rw [hB, Bool.and_comm, HM.out]
    congr 1
    rw [Bool.eq_iff_iff, decide_eq_true_eq, beq_iff_eq]
    omega
  clear hB
  cases B with
  | true =>
    have HE2 : Hid (v.rightB (13 - far) = Ty.rightAll v.xs (13 - far + 1)) := Lib.hid (by rw [HE.out, ← hBE]; simp)
    clear HE hBE
    go_enter Tryz.func40, Tryz.ntmps40
    go_wp2_with fail
    rw [← HW.out]
    go_wp2_with fail
    refine HRN.out.mono ?_
    rintro e w2 ⟨rfl, kd, hkd⟩
    have HBS := Lib.hid (show Below W.heap.size W w2 by rw [hkd]; exact below_drewN (Below.refl _ _) _)
    have hb2 := HB0.out.below HBS.out HB0.out.lt
    clear hkd HRN a0 a1 a2
    have a2 := hb2.cell 2; have a0 := hb2.cell 0; have a1 := hb2.cell 1
    simp only [List.getElem?_toArray, List.getElem?_cons_zero, List.getElem?_cons_succ] at a0 a1 a2
    clear hb2
    go_wp2_with fail
    go_loopw [5] (fun iv wr => ∃ i : Nat, iv = .int .i64 (i : Int) ∧ i ≤ M ∧ Hid (Ty.rightAll (v.xs.drop i) (13 - far + 1) = v.rightB (13 - far)) ∧ Hid (Below W.heap.size W wr)) (fun iv _ => M - (intOf iv).toNat)
    case atStart => exact ⟨0, rfl, by omega, Lib.hid (by rw [HE2.out]; rfl), HBS⟩
    case round =>
      obtain ⟨i, rfl, hi, HR, HB⟩ := hrel
      clear a0 a1 a2 HBS
      have a2 := (HB0.out.below HB.out HB0.out.lt).cell 2
      simp only [List.getElem?_toArray, List.getElem?_cons_zero, List.getElem?_cons_succ] at a2
      try rw [← HM.out] at a2
      by_cases hlt : i < M
      · have hil : i < v.xs.length := by rw [← HM.out]; exact hlt
        obtain ⟨xb, xo, rfl, hpx, hlc⟩ := HX.out i hil
        rw [← HM.out] at hlc
        have hdr := drop_cons hil
        have hrr := HR.out
        rw [hdr] at hrr
        have hxm : v.xs[i]'hil ∈ v.xs := by simp
        obtain ⟨x, hxx⟩ : ∃ x, x = v.xs[i]'hil := ⟨_, rfl⟩
        rw [← hxx] at hpx hrr hxm
        have hpw := hpx.below HB.out
        have d0 := hpw.c0; have d4 := hpw.c1; have d5 := hpw.c2
        obtain ⟨r4, t4, g4⟩ := hpw.in.nslice
        obtain ⟨r5, t5, g5⟩ := hpw.in.xslice
        rw [g4] at d4
        rw [g5] at d5
        have hc := HIH.out x hxm wr hpw.in
        unfold Ty.agg at hc
        rw [g4, g5] at hc
        have hk0 : (0 : Int) ≤ (i : Int) := by omega
        have hk1 : (i : Int) < (M : Int) := by omega
        cases hrb : x.rightB (13 - far + 1) with
        | false =>
          rw [hrb] at hc
          have HC2 := Lib.hid hc
          have HF : Hid (v.rightB (13 - far) = false) := Lib.hid (by rw [← hrr]; simp [Ty.rightAll, hrb])
          clear hil hpx hpw hc hxx g4 g5 hrb hrr hdr hxm HR
          go_wp2_with fail
          refine HC2.out.mono ?_
          rintro e w3 ⟨rfl, hb3⟩
          have HB3 := Lib.hid (HBW.out.trans ((HB.out.trans (hb3.mono HB.out.size)).mono HBW.out.size))
          clear hb3 d0 d4 d5 a2 HC2
          go_wp2
          go_ret
          exact ⟨by rw [HF.out]; rfl, HB3.out⟩
        | true =>
          rw [hrb] at hc
          have HC2 := Lib.hid hc
          have HR2 : Hid (Ty.rightAll (v.xs.drop (i + 1)) (13 - far + 1) = v.rightB (13 - far)) := Lib.hid (by rw [← hrr]; simp [Ty.rightAll, hrb])
          clear hil hpx hpw hc hxx g4 g5 hrb hrr hdr hxm HR
          go_wp2_with fail
          refine HC2.out.mono ?_
          rintro e w3 ⟨rfl, hb3⟩
          have HB3 := Lib.hid (HB.out.trans (hb3.mono HB.out.size))
          clear hb3 d0 d4 d5 a2 HC2
          go_wp2
          go_roundw
          case rel => exact ⟨i + 1, by go_num, by omega, HR2, HB3⟩
          case measure => simp [intOf]; omega
      · have HT : Hid (v.rightB (13 - far) = true) := Lib.hid (by rw [← HR.out, List.drop_eq_nil_of_le (by rw [← HM.out]; omega)]; simp [Ty.rightAll])
        go_wp2
        go_ret
        exact ⟨by rw [HT.out]; rfl, HBW.out.trans (HB.out.mono HBW.out.size)⟩
  | false =>
    have HE2 : Hid (v.rightB (13 - far) = false) := Lib.hid (by rw [HE.out, ← hBE]; simp)
    clear HE hBE
    go_enter Tryz.func40, Tryz.ntmps40
    go_wp2_with fail
    rw [← HW.out]
    go_wp2_with fail
    refine HRN.out.mono ?_
    rintro e w2 ⟨rfl, kd, hkd⟩
    have HBS := Lib.hid (show Below W.heap.size W w2 by rw [hkd]; exact below_drewN (Below.refl _ _) _)
    clear hkd HRN a0 a1 a2
    go_wp2_with fail
    go_ret
    exact ⟨by rw [HE2.out]; rfl, HBW.out.trans (HBS.out.mono HBW.out.size)⟩

theorem rtright_any (d : Nat) : ∀ (v : Ty) (far : Nat) (w : World), v.sz ≤ d → far ≤ 12 → v.In w → Calls Tryz.prog 40 #[v.agg, .int .i64 far] w fun e w' => BoolBelow (v.rightB (13 - far)) w e w' := by
  induction d with
  | zero => intro v far w hd; rw [Ty.sz_eq] at hd; omega
  | succ d ih =>
    intro v far w hd hf h
    by_cases h0 : far = 0
    · subst h0
      exact tright_far v w h
    have hih : ∀ x, x ∈ v.xs → ∀ w : World, x.In w → Calls Tryz.prog 40 #[x.agg, .int .i64 ((far : Int) - 1)] w fun e w' => BoolBelow (x.rightB (13 - far + 1)) w e w' := fun x hx w h => by
      have := ih x (far - 1) w (by have := Ty.size_mem hx; omega) (by omega) h
      rw [show (((far - 1 : Nat) : Nat) : Int) = (far : Int) - 1 from by omega, show 13 - (far - 1) = 13 - far + 1 from by omega] at this
      exact this
    by_cases h5 : v.k = 5
    · exact tright_list v far w (by omega) hf h h5 hih
    by_cases h6 : v.k = 6
    · exact tright_rec v far w (by omega) hf h h6 hih
    by_cases h7 : v.k < 1 ∨ 7 < v.k
    · exact tright_other v far w (by omega) hf h h7
    · exact tright_leaf v far w (by omega) hf h (by omega)
end Go.Proofs.YtjpdbhhjlnmacaaGreat
