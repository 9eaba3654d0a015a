/- The document's answers: which values are right. -/
import Derived.Test.YtjpdbhhjlnmacaaGreatTcM3
import Derived.Test.YtjpdbhhjlnmacaaGreatTcM6
import Derived.Test.YtjpdbhhjlnmacaaGreatTcM10
import Derived.Test.YtjpdbhhjlnmacaaGreatTcM12
import Derived.BigGuardPart
import Derived.Deep.DeepCutAuto
namespace Go.Proofs.YtjpdbhhjlnmacaaGreat
set_option linter.unusedVariables false
open Go.RowKit

theorem bcell {W w1 : World} (hb : Below W.heap.size W w1) : (∀ b o, b < W.heap.size → w1.cell? ⟨b, o, none⟩ = W.cell? ⟨b, o, none⟩) ∧ (∀ b o, b < W.heap.size → w1.frozen? ⟨b, o, none⟩ = W.frozen? ⟨b, o, none⟩) :=
  ⟨fun b o h => hb.cell (p := ⟨b, o, none⟩) h, fun b o h => hb.frozen (p := ⟨b, o, none⟩) h⟩
theorem fsame_ford {a b : Nat} (ha : a < 18446744073709551616) (hb : b < 18446744073709551616) : fsame a b = (ford a b == 0) := by
  unfold fsame
  rw [Bool.eq_iff_iff, decide_eq_true_eq, beq_iff_eq]
  exact (ford_zero ha hb).symm
theorem rzero_agg (k n : Int) (f : Nat) (s : ByteArray) (p : Option Addr) (a c : Nat) (p' : Option Addr) (a' c' : Nat) (w : World) :
    Calls Tryz.prog 87 #[.agg #[.int .i64 k, .int .i64 n, .float .f64 f, .string s, .slice p a c, .slice p' a' c']] w fun e w' => BoolBelow (fsame f 0) w e w' := by
  have HS := Lib.hid (fun W : World => rsame_any f 0 W)
  go_enter Tryz.func87, Tryz.ntmps87
  go_wp2_with fail
  refine (HS.out _).mono ?_
  rintro e w' ⟨rfl, rfl⟩
  go_wp2
  go_ret
  exact ⟨rfl, (Below.refl _ _).alloc (Nat.le_refl _) _⟩

set_option maxHeartbeats 4000000 in
set_option maxRecDepth 100000 in
theorem rright_leaf (v : Val) (far : Nat) (w : World) (hf1 : 1 ≤ far) (hf2 : far ≤ 12) (h : v.In w) (hk : v.k ≠ 5 ∧ v.k ≠ 6) : Calls Tryz.prog 61 #[v.agg, .int .i64 far] w fun e w' => BoolBelow (v.rightB (13 - far)) w e w' := by
  have i1 : decide ((far : Int) < 1) = false := by simp; omega
  have e := Val.rightB_eq v (13 - far)
  rw [if_neg (by omega)] at e
  obtain ⟨W, hW⟩ : ∃ W, W = w.alloc (.cells v.cells.toArray 26) := ⟨_, rfl⟩
  have hBW : Below w.heap.size w W := by rw [hW]; exact (Below.refl _ w).alloc (Nat.le_refl _) _
  have hb0 : Blk W w.heap.size 26 v.cells.toArray := by rw [hW]; exact Blk.new w 26 _
  obtain ⟨p4, q4, e4⟩ := h.nslice
  obtain ⟨p5, q5, e5⟩ := h.xslice
  have hbare : ∀ (x y z t : Bool), bareB v x y z t = ((x || (v.n == 0)) && (y || fsame v.f 0) && (z || v.s.toList.isEmpty) && (t || (decide (v.ns.length = 0) && decide (v.xs.length = 0)))) := fun x y z t => by
    rw [fsame_ford h.ok.2.2.1 (by omega)]; rfl
  have hso := h.ok.2.2.2.1
  have hnl := h.ok.2.2.2.2.1
  have hxl := h.ok.2.2.2.2.2.1
  have hno := h.ok.2.1
  unfold strok at hso
  unfold i64r at hno
  obtain ⟨hn1, hn2⟩ := hno
  simp only [hbare] at e
  unfold Val.cells at hW hb0
  unfold Val.agg
  rw [e4, e5] at hW hb0 ⊢
  obtain ⟨R, hR⟩ : ∃ R, R = v.rightB (13 - far) := ⟨_, rfl⟩
  obtain ⟨K, hK⟩ : ∃ K, K = v.k := ⟨_, rfl⟩
  obtain ⟨N, hN⟩ : ∃ N, N = v.n := ⟨_, rfl⟩
  obtain ⟨F, hF⟩ : ∃ F, F = v.f := ⟨_, rfl⟩
  obtain ⟨T, hT⟩ : ∃ T, T = v.s := ⟨_, rfl⟩
  obtain ⟨L, hL⟩ : ∃ L, L = v.ns.length := ⟨_, rfl⟩
  obtain ⟨M, hM⟩ : ∃ M, M = v.xs.length := ⟨_, rfl⟩
  rw [← hR, ← hK, ← hN, ← hF, ← hT, ← hL, ← hM] at e
  rw [← hR]
  rw [← hK] at hk
  rw [← hK, ← hN, ← hF, ← hT, ← hL, ← hM] at hW hb0 ⊢
  rw [← hN] at hn1 hn2
  rw [← hT] at hso
  rw [← hL] at hnl
  rw [← hM] at hxl
  have HZ := Lib.hid (fun (k n : Int) (s : ByteArray) (p : Option Addr) (a c : Nat) (p' : Option Addr) (a' c' : Nat) (W : World) => rzero_agg k n F s p a c p' a' c' W)
  obtain ⟨Z, hZ⟩ : ∃ Z, Z = fsame F 0 := ⟨_, rfl⟩
  simp only [← hZ] at HZ e
  have HE := Lib.hid e; have HW := Lib.hid hW; have HBW := Lib.hid hBW; have HB0 := Lib.hid hb0
  clear e hbare hR hK hN hF hT hL hM h e4 e5 hZ hb0 hBW hW
  have hLn := int_eq0 L
  have hMn := int_eq0 M
  clear HB0 HW HBW
  rcases (by omega : K = 1 ∨ K = 2 ∨ K = 3 ∨ K = 4 ∨ ¬ (1 ≤ K ∧ K ≤ 4)) with h1 | h1 | h1 | h1 | h1
  · subst h1
    have hz2 : N / 2 = 0 ↔ (N = 0 ∨ N = 1) := by omega
    go_enter Tryz.func61, Tryz.ntmps61
    go_wp2_with (go_at_call 87; refine (HZ.out _ _ _ _ _ _ _ _ _ _).mono ?_; rintro e w1 ⟨rfl, hb1⟩; obtain ⟨hc, hfz⟩ := bcell hb1)
    all_goals
      go_ret
      refine ⟨ret_bool (a := _) ?_, by first | exact (Below.refl _ _).alloc (Nat.le_refl _) _ | exact ((Below.refl _ _).alloc (Nat.le_refl _) _).trans (hb1.mono (by simp))⟩
      rw [HE.out]
      clear HE HZ
      simp_all
      try (first | omega | (rw [Bool.eq_iff_iff, beq_iff_eq, beq_iff_eq]; omega))
  · subst h1
    have hz2 : N / 2 = 0 ↔ (N = 0 ∨ N = 1) := by omega
    go_enter Tryz.func61, Tryz.ntmps61
    go_wp2_with (go_at_call 87; refine (HZ.out _ _ _ _ _ _ _ _ _ _).mono ?_; rintro e w1 ⟨rfl, hb1⟩; obtain ⟨hc, hfz⟩ := bcell hb1)
    all_goals
      go_ret
      refine ⟨ret_bool (a := _) ?_, by first | exact (Below.refl _ _).alloc (Nat.le_refl _) _ | exact ((Below.refl _ _).alloc (Nat.le_refl _) _).trans (hb1.mono (by simp))⟩
      rw [HE.out]
      clear HE HZ
      simp_all
      try (first | omega | (rw [Bool.eq_iff_iff, beq_iff_eq, beq_iff_eq]; omega))
  · subst h1
    have hz2 : N / 2 = 0 ↔ (N = 0 ∨ N = 1) := by omega
    go_enter Tryz.func61, Tryz.ntmps61
    go_wp2_with (go_at_call 87; refine (HZ.out _ _ _ _ _ _ _ _ _ _).mono ?_; rintro e w1 ⟨rfl, hb1⟩; obtain ⟨hc, hfz⟩ := bcell hb1)
    all_goals
      go_ret
      refine ⟨ret_bool (a := _) ?_, by first | exact (Below.refl _ _).alloc (Nat.le_refl _) _ | exact ((Below.refl _ _).alloc (Nat.le_refl _) _).trans (hb1.mono (by simp))⟩
      rw [HE.out]
      clear HE HZ
      simp_all
      try (first | omega | (rw [Bool.eq_iff_iff, beq_iff_eq, beq_iff_eq]; omega))
  · subst h1
    have hz2 : N / 2 = 0 ↔ (N = 0 ∨ N = 1) := by omega
    go_enter Tryz.func61, Tryz.ntmps61
    go_wp2_with (go_at_call 87; refine (HZ.out _ _ _ _ _ _ _ _ _ _).mono ?_; rintro e w1 ⟨rfl, hb1⟩; obtain ⟨hc, hfz⟩ := bcell hb1)
    all_goals
      go_ret
      refine ⟨ret_bool (a := _) ?_, by first | exact (Below.refl _ _).alloc (Nat.le_refl _) _ | exact ((Below.refl _ _).alloc (Nat.le_refl _) _).trans (hb1.mono (by simp))⟩
      rw [HE.out]
      clear HE HZ
      simp_all
      try (first | omega | (rw [Bool.eq_iff_iff, beq_iff_eq, beq_iff_eq]; omega))
  · have j1 : (K == 1) = false := by simp; omega
    have j2 : (K == 2) = false := by simp; omega
    have j3 : (K == 3) = false := by simp; omega
    have j4 : (K == 4) = false := by simp; omega
    have j5 : (K == 5) = false := by simp; omega
    have j6 : (K == 6) = false := by simp; omega
    have HE2 : Hid (R = false) := Lib.hid (by rw [HE.out, if_neg (by omega), if_neg (by omega), if_neg (by omega), if_neg (by omega), if_neg (by omega), if_neg (by omega)])
    clear HE HZ
    go_enter Tryz.func61, Tryz.ntmps61
    go_wp2_with fail
    all_goals
      go_ret
      exact ⟨by rw [HE2.out]; rfl, (Below.refl _ _).alloc (Nat.le_refl _) _⟩
-- TAIL

set_option maxHeartbeats 8000000 in
set_option maxRecDepth 100000 in
theorem rright_list (v : Val) (far : Nat) (w : World) (hf1 : 1 ≤ far) (hf2 : far ≤ 12) (h : v.In w) (hk : v.k = 5)
    (ih : ∀ x, x ∈ v.xs → ∀ w : World, x.In w → Calls Tryz.prog 61 #[x.agg, .int .i64 ((far : Int) - 1)] w fun e w' => BoolBelow (x.rightB (13 - far + 1)) w e w') :
    Calls Tryz.prog 61 #[v.agg, .int .i64 far] w fun e w' => BoolBelow (v.rightB (13 - far)) w e w' := by
  have i1 : decide ((far : Int) < 1) = false := by simp; omega
  have e := Val.rightB_eq v (13 - far)
  rw [if_neg (by omega), if_neg (by omega), if_neg (by omega), if_neg (by omega), if_neg (by omega), if_pos hk] at e
  have hbare : bareB v false false false true = ((v.n == 0) && fsame v.f 0 && v.s.toList.isEmpty) := by
    rw [fsame_ford h.ok.2.2.1 (by omega)]; simp [bareB]
  rw [hbare] at e
  obtain ⟨p4, q4, e4⟩ := h.nslice
  obtain ⟨p5, q5, e5⟩ := h.xslice
  have hnl := h.ok.2.2.2.2.1
  have hxl := h.ok.2.2.2.2.2.1
  have hns := h.ok.2.2.2.2.2.2
  have hNA := fun (W : World) (hb : Below w.heap.size w W) => NamesAt.of (h.below hb)
  unfold Val.agg
  simp only [e4] at hNA
  rw [e4, e5, hk]
  obtain ⟨R, hR⟩ : ∃ R, R = v.rightB (13 - far) := ⟨_, rfl⟩
  obtain ⟨N, hN⟩ : ∃ N, N = v.n := ⟨_, rfl⟩
  obtain ⟨F, hF⟩ : ∃ F, F = v.f := ⟨_, rfl⟩
  obtain ⟨T, hT⟩ : ∃ T, T = v.s := ⟨_, rfl⟩
  obtain ⟨L, hL⟩ : ∃ L, L = v.ns.length := ⟨_, rfl⟩
  obtain ⟨M, hM⟩ : ∃ M, M = v.xs.length := ⟨_, rfl⟩
  rw [← hR, ← hN, ← hF, ← hT, ← hL] at e
  rw [← hR, ← hN, ← hF, ← hT, ← hL, ← hM]
  simp only [← hL] at hNA
  rw [← hL] at hnl
  rw [← hM] at hxl e5
  have HZ := Lib.hid (fun (W : World) => rzero_agg 5 N F T p4 L q4 p5 M q5 W)
  obtain ⟨Z, hZ⟩ : ∃ Z, Z = fsame F 0 := ⟨_, rfl⟩
  simp only [← hZ] at HZ e
  have HE := Lib.hid e; have HIN := Lib.hid h; have HIH := Lib.hid ih; have HM := Lib.hid hM; have HL := Lib.hid hL; have E5 := Lib.hid e5; have HNA := Lib.hid hNA; have HNS := Lib.hid hns
  clear e hbare hR hN hF hT hL hM h e4 e5 hZ ih hk hNA hns
  cases Z with
  | false =>
    have HF : Hid (R = false) := Lib.hid (by rw [HE.out]; simp)
    clear HE
    go_enter Tryz.func61, Tryz.ntmps61
    try simp only [lapp_cons, lapp_nil]
    go_upto_region 1 with fail
    obtain ⟨W, hW⟩ : ∃ W, W = w.alloc (.cells #[.int .i64 5, .int .i64 N, .float .f64 F, .string T, .slice p4 L q4, .slice p5 M q5] 26) := ⟨_, rfl⟩
    have hBW : Below w.heap.size w W := by rw [hW]; exact (Below.refl _ w).alloc (Nat.le_refl _) _
    have hb0 : Blk W w.heap.size 26 #[.int .i64 5, .int .i64 N, .float .f64 F, .string T, .slice p4 L q4, .slice p5 M q5] := by rw [hW]; exact Blk.new w 26 _
    rw [← hW]
    have a0 := hb0.cell 0; have a1 := hb0.cell 1; have a2 := hb0.cell 2; have a3 := hb0.cell 3; have a4 := hb0.cell 4; have a5 := hb0.cell 5
    simp only [List.getElem?_toArray, List.getElem?_cons_zero, List.getElem?_cons_succ] at a0 a1 a2 a3 a4 a5
    have HBW := Lib.hid hBW; have HB0 := Lib.hid hb0
    clear hW hBW hb0
    go_cut [5] (fun s5 wx => (∃ b : Bool, s5 = .bool b) ∧ W = wx)
    case first =>
      go_wp2_with fail
      all_goals
        go_meet
        exact ⟨⟨_, rfl⟩, rfl⟩
    case rest =>
    obtain ⟨⟨pb, rfl⟩, rfl⟩ := hcut
    go_wp2_with fail
    refine (HZ.out _).mono ?_
    rintro e w1 ⟨rfl, hb1⟩
    have HBB := Lib.hid (HBW.out.trans (hb1.mono HBW.out.size))
    have HBL := Lib.hid (HB0.out.below hb1 HB0.out.lt)
    clear a0 a1 a2 a3 a4 a5 hb1 HB0 HBW
    have a0 := HBL.out.cell 0; have a1 := HBL.out.cell 1; have a2 := HBL.out.cell 2; have a3 := HBL.out.cell 3; have a4 := HBL.out.cell 4; have a5 := HBL.out.cell 5
    simp only [List.getElem?_toArray, List.getElem?_cons_zero, List.getElem?_cons_succ] at a0 a1 a2 a3 a4 a5
    go_wp2_with fail
    go_ret
    exact ⟨by rw [HF.out]; rfl, HBB.out⟩
  | true =>
  by_cases h0 : N = 0
  case neg =>
    have HF : Hid (R = false) := Lib.hid (by rw [HE.out]; simp [h0])
    have t1 : (N != 0) = true := by simpa using h0
    clear HE h0
    go_enter Tryz.func61, Tryz.ntmps61
    try simp only [lapp_cons, lapp_nil]
    go_upto_region 1 with fail
    obtain ⟨W, hW⟩ : ∃ W, W = w.alloc (.cells #[.int .i64 5, .int .i64 N, .float .f64 F, .string T, .slice p4 L q4, .slice p5 M q5] 26) := ⟨_, rfl⟩
    have hBW : Below w.heap.size w W := by rw [hW]; exact (Below.refl _ w).alloc (Nat.le_refl _) _
    have hb0 : Blk W w.heap.size 26 #[.int .i64 5, .int .i64 N, .float .f64 F, .string T, .slice p4 L q4, .slice p5 M q5] := by rw [hW]; exact Blk.new w 26 _
    rw [← hW]
    have a0 := hb0.cell 0; have a1 := hb0.cell 1; have a2 := hb0.cell 2; have a3 := hb0.cell 3; have a4 := hb0.cell 4; have a5 := hb0.cell 5
    simp only [List.getElem?_toArray, List.getElem?_cons_zero, List.getElem?_cons_succ] at a0 a1 a2 a3 a4 a5
    have HBW := Lib.hid hBW; have HB0 := Lib.hid hb0
    clear hW hBW hb0
    go_cut [5] (fun s5 wx => (∃ b : Bool, s5 = .bool b) ∧ W = wx)
    case first =>
      go_wp2_with fail
      all_goals
        go_meet
        exact ⟨⟨_, rfl⟩, rfl⟩
    case rest =>
    obtain ⟨⟨pb, rfl⟩, rfl⟩ := hcut
    go_wp2_with fail
    refine (HZ.out _).mono ?_
    rintro e w1 ⟨rfl, hb1⟩
    have HBB := Lib.hid (HBW.out.trans (hb1.mono HBW.out.size))
    have HBL := Lib.hid (HB0.out.below hb1 HB0.out.lt)
    clear a0 a1 a2 a3 a4 a5 hb1 HB0 HBW
    have a0 := HBL.out.cell 0; have a1 := HBL.out.cell 1; have a2 := HBL.out.cell 2; have a3 := HBL.out.cell 3; have a4 := HBL.out.cell 4; have a5 := HBL.out.cell 5
    simp only [List.getElem?_toArray, List.getElem?_cons_zero, List.getElem?_cons_succ] at a0 a1 a2 a3 a4 a5
    go_wp2_with fail
    go_ret
    exact ⟨by rw [HF.out]; rfl, HBB.out⟩
  subst h0
  by_cases h1 : T.toList = []
  case neg =>
    have HF : Hid (R = false) := Lib.hid (by rw [HE.out]; simp [h1])
    have h1' : T.toList.isEmpty = false := by simpa using h1
    clear HE
    go_enter Tryz.func61, Tryz.ntmps61
    try simp only [lapp_cons, lapp_nil]
    go_upto_region 1 with fail
    obtain ⟨W, hW⟩ : ∃ W, W = w.alloc (.cells #[.int .i64 5, .int .i64 0, .float .f64 F, .string T, .slice p4 L q4, .slice p5 M q5] 26) := ⟨_, rfl⟩
    have hBW : Below w.heap.size w W := by rw [hW]; exact (Below.refl _ w).alloc (Nat.le_refl _) _
    have hb0 : Blk W w.heap.size 26 #[.int .i64 5, .int .i64 0, .float .f64 F, .string T, .slice p4 L q4, .slice p5 M q5] := by rw [hW]; exact Blk.new w 26 _
    rw [← hW]
    have a0 := hb0.cell 0; have a1 := hb0.cell 1; have a2 := hb0.cell 2; have a3 := hb0.cell 3; have a4 := hb0.cell 4; have a5 := hb0.cell 5
    simp only [List.getElem?_toArray, List.getElem?_cons_zero, List.getElem?_cons_succ] at a0 a1 a2 a3 a4 a5
    have HBW := Lib.hid hBW; have HB0 := Lib.hid hb0
    clear hW hBW hb0
    go_cut [5] (fun s5 wx => (∃ b : Bool, s5 = .bool b) ∧ W = wx)
    case first =>
      go_wp2_with fail
      all_goals
        go_meet
        exact ⟨⟨_, rfl⟩, rfl⟩
    case rest =>
    obtain ⟨⟨pb, rfl⟩, rfl⟩ := hcut
    go_wp2_with fail
    refine (HZ.out _).mono ?_
    rintro e w1 ⟨rfl, hb1⟩
    have HBB := Lib.hid (HBW.out.trans (hb1.mono HBW.out.size))
    have HBL := Lib.hid (HB0.out.below hb1 HB0.out.lt)
    clear a0 a1 a2 a3 a4 a5 hb1 HB0 HBW
    have a0 := HBL.out.cell 0; have a1 := HBL.out.cell 1; have a2 := HBL.out.cell 2; have a3 := HBL.out.cell 3; have a4 := HBL.out.cell 4; have a5 := HBL.out.cell 5
    simp only [List.getElem?_toArray, List.getElem?_cons_zero, List.getElem?_cons_succ] at a0 a1 a2 a3 a4 a5
    go_wp2_with fail
    go_ret
    exact ⟨by rw [HF.out]; rfl, HBB.out⟩
  by_cases h2 : L = 0
  case neg =>
    have HF : Hid (R = false) := Lib.hid (by rw [HE.out]; simp [h2])
    have t2 : decide ((0 : Int) < (L : Int)) = true := by simp; omega
    have t2' : decide (0 < L) = true := by simp; omega
    have h1' : T.toList.isEmpty = true := by simp [h1]
    clear HE h2
    go_enter Tryz.func61, Tryz.ntmps61
    try simp only [lapp_cons, lapp_nil]
    go_upto_region 1 with fail
    obtain ⟨W, hW⟩ : ∃ W, W = w.alloc (.cells #[.int .i64 5, .int .i64 0, .float .f64 F, .string T, .slice p4 L q4, .slice p5 M q5] 26) := ⟨_, rfl⟩
    have hBW : Below w.heap.size w W := by rw [hW]; exact (Below.refl _ w).alloc (Nat.le_refl _) _
    have hb0 : Blk W w.heap.size 26 #[.int .i64 5, .int .i64 0, .float .f64 F, .string T, .slice p4 L q4, .slice p5 M q5] := by rw [hW]; exact Blk.new w 26 _
    rw [← hW]
    have a0 := hb0.cell 0; have a1 := hb0.cell 1; have a2 := hb0.cell 2; have a3 := hb0.cell 3; have a4 := hb0.cell 4; have a5 := hb0.cell 5
    simp only [List.getElem?_toArray, List.getElem?_cons_zero, List.getElem?_cons_succ] at a0 a1 a2 a3 a4 a5
    have HBW := Lib.hid hBW; have HB0 := Lib.hid hb0
    clear hW hBW hb0
    go_cut [5] (fun s5 wx => (∃ b : Bool, s5 = .bool b) ∧ W = wx)
    case first =>
      go_wp2_with fail
      all_goals
        go_meet
        exact ⟨⟨_, rfl⟩, rfl⟩
    case rest =>
    obtain ⟨⟨pb, rfl⟩, rfl⟩ := hcut
    go_wp2_with fail
    refine (HZ.out _).mono ?_
    rintro e w1 ⟨rfl, hb1⟩
    have HBB := Lib.hid (HBW.out.trans (hb1.mono HBW.out.size))
    have HBL := Lib.hid (HB0.out.below hb1 HB0.out.lt)
    clear a0 a1 a2 a3 a4 a5 hb1 HB0 HBW
    have a0 := HBL.out.cell 0; have a1 := HBL.out.cell 1; have a2 := HBL.out.cell 2; have a3 := HBL.out.cell 3; have a4 := HBL.out.cell 4; have a5 := HBL.out.cell 5
    simp only [List.getElem?_toArray, List.getElem?_cons_zero, List.getElem?_cons_succ] at a0 a1 a2 a3 a4 a5
    go_wp2_with fail
    go_ret
    exact ⟨by rw [HF.out]; rfl, HBB.out⟩
  have HE2 : Hid (R = Val.rightAll v.xs (13 - far + 1)) := Lib.hid (by rw [HE.out]; simp [h1, h2])
  have t2 : decide ((0 : Int) < (L : Int)) = false := by simp; omega
  have t2' : decide (0 < L) = false := by simp; omega
  have h1' : T.toList.isEmpty = true := by simp [h1]
  clear HE h2
  go_enter Tryz.func61, Tryz.ntmps61
  try simp only [lapp_cons, lapp_nil]
  go_upto_region 1 with fail
  obtain ⟨W, hW⟩ : ∃ W, W = w.alloc (.cells #[.int .i64 5, .int .i64 0, .float .f64 F, .string T, .slice p4 L q4, .slice p5 M q5] 26) := ⟨_, rfl⟩
  have hBW : Below w.heap.size w W := by rw [hW]; exact (Below.refl _ w).alloc (Nat.le_refl _) _
  have hb0 : Blk W w.heap.size 26 #[.int .i64 5, .int .i64 0, .float .f64 F, .string T, .slice p4 L q4, .slice p5 M q5] := by rw [hW]; exact Blk.new w 26 _
  rw [← hW]
  have a0 := hb0.cell 0; have a1 := hb0.cell 1; have a2 := hb0.cell 2; have a3 := hb0.cell 3; have a4 := hb0.cell 4; have a5 := hb0.cell 5
  simp only [List.getElem?_toArray, List.getElem?_cons_zero, List.getElem?_cons_succ] at a0 a1 a2 a3 a4 a5
  have HBW := Lib.hid hBW; have HB0 := Lib.hid hb0
  clear hW hBW hb0
  go_cut [5] (fun s5 wx => (∃ b : Bool, s5 = .bool b) ∧ W = wx)
  case first =>
    go_wp2_with fail
    all_goals
      go_meet
      exact ⟨⟨_, rfl⟩, rfl⟩
  case rest =>
  obtain ⟨⟨pb, rfl⟩, rfl⟩ := hcut
  go_wp2_with fail
  refine (HZ.out _).mono ?_
  rintro e w1 ⟨rfl, hb1⟩
  have HBB := Lib.hid (HBW.out.trans (hb1.mono HBW.out.size))
  have HBL := Lib.hid (HB0.out.below hb1 HB0.out.lt)
  clear a0 a1 a2 a3 a4 a5 hb1 HB0 HBW
  have a0 := HBL.out.cell 0; have a1 := HBL.out.cell 1; have a2 := HBL.out.cell 2; have a3 := HBL.out.cell 3; have a4 := HBL.out.cell 4; have a5 := HBL.out.cell 5
  simp only [List.getElem?_toArray, List.getElem?_cons_zero, List.getElem?_cons_succ] at a0 a1 a2 a3 a4 a5
  go_wp2_with fail
  obtain ⟨pp, cc, ee, hx⟩ := items_at (HIN.out.below HBB.out)
  rw [← HM.out, E5.out] at ee
  injection ee with ee1 ee2 ee3
  subst ee1 ee3
  have HX := Lib.hid hx
  clear hx ee2 a0 a1 a2 a3 a4 a5
  go_loopw [6] (fun iv wr => ∃ i : Nat, iv = .int .i64 (i : Int) ∧ i ≤ M ∧ Hid (Val.rightAll (v.xs.drop i) (13 - far + 1) = R) ∧ Hid (Below w1.heap.size w1 wr)) (fun iv _ => M - (intOf iv).toNat)
  case atStart => exact ⟨0, rfl, by omega, Lib.hid (by rw [HE2.out]; rfl), Lib.hid (Below.refl _ _)⟩
  case round =>
    obtain ⟨i, rfl, hi, HR, HB⟩ := hrel
    have a5 := (HBL.out.below HB.out HBL.out.lt).cell 5
    simp only [List.getElem?_toArray, List.getElem?_cons_zero, List.getElem?_cons_succ] at a5
    by_cases hlt : i < M
    · have hil : i < v.xs.length := by rw [← HM.out]; exact hlt
      obtain ⟨xb, xo, rfl, hpx, hlc⟩ := HX.out i hil
      rw [← HM.out] at hlc
      have hdr := drop_cons hil
      have hrr := HR.out
      rw [hdr] at hrr
      have hxm : v.xs[i]'hil ∈ v.xs := by simp
      obtain ⟨x, hxx⟩ : ∃ x, x = v.xs[i]'hil := ⟨_, rfl⟩
      rw [← hxx] at hpx hrr hxm
      have hpw := hpx.below HB.out
      have d0 := hpw.c0; have d1 := hpw.c1; have d2 := hpw.c2; have d3 := hpw.c3; have d4 := hpw.c4; have d5 := hpw.c5
      obtain ⟨r4, t4, g4⟩ := hpw.in.nslice
      obtain ⟨r5, t5, g5⟩ := hpw.in.xslice
      rw [g4] at d4
      rw [g5] at d5
      have hc := HIH.out x hxm wr hpw.in
      unfold Val.agg at hc
      rw [g4, g5] at hc
      have hk0 : (0 : Int) ≤ (i : Int) := by omega
      have hk1 : (i : Int) < (M : Int) := by omega
      cases hrb : x.rightB (13 - far + 1) with
      | false =>
        rw [hrb] at hc
        have HC2 := Lib.hid hc
        have HF : Hid (R = false) := Lib.hid (by rw [← hrr]; simp [Val.rightAll, hrb])
        clear hil hpx hpw hc hxx g4 g5 hrb hrr hdr hxm HR
        go_wp2_with fail
        refine HC2.out.mono ?_
        rintro e w3 ⟨rfl, hb3⟩
        have HB3 := Lib.hid (HBB.out.trans ((HB.out.trans (hb3.mono HB.out.size)).mono HBB.out.size))
        clear hb3 d0 d1 d2 d3 d4 d5 a5 HC2
        go_wp2
        go_ret
        exact ⟨by rw [HF.out]; rfl, HB3.out⟩
      | true =>
        rw [hrb] at hc
        have HC2 := Lib.hid hc
        have HR2 : Hid (Val.rightAll (v.xs.drop (i + 1)) (13 - far + 1) = R) := Lib.hid (by rw [← hrr]; simp [Val.rightAll, hrb])
        clear hil hpx hpw hc hxx g4 g5 hrb hrr hdr hxm HR
        go_wp2_with fail
        refine HC2.out.mono ?_
        rintro e w3 ⟨rfl, hb3⟩
        have HB3 := Lib.hid (HB.out.trans (hb3.mono HB.out.size))
        clear hb3 d0 d1 d2 d3 d4 d5 a5 HC2
        go_wp2
        go_roundw
        case rel => exact ⟨i + 1, by go_num, by omega, HR2, HB3⟩
        case measure => simp [intOf]; omega
    · have HT : Hid (R = true) := Lib.hid (by rw [← HR.out, List.drop_eq_nil_of_le (by rw [← HM.out]; omega)]; simp [Val.rightAll])
      go_wp2
      go_ret
      exact ⟨by rw [HT.out]; rfl, HBB.out.trans (HB.out.mono HBB.out.size)⟩

set_option maxHeartbeats 8000000 in
set_option maxRecDepth 100000 in
theorem rright_rec (v : Val) (far : Nat) (w : World) (hf1 : 1 ≤ far) (hf2 : far ≤ 12) (h : v.In w) (hk : v.k = 6)
    (ih : ∀ x, x ∈ v.xs → ∀ w : World, x.In w → Calls Tryz.prog 61 #[x.agg, .int .i64 ((far : Int) - 1)] w fun e w' => BoolBelow (x.rightB (13 - far + 1)) w e w') :
    Calls Tryz.prog 61 #[v.agg, .int .i64 far] w fun e w' => BoolBelow (v.rightB (13 - far)) w e w' := by
  have i1 : decide ((far : Int) < 1) = false := by simp; omega
  have e := Val.rightB_eq v (13 - far)
  rw [if_neg (by omega), if_neg (by omega), if_neg (by omega), if_neg (by omega), if_neg (by omega), if_neg (by omega), if_pos hk] at e
  have hbare : bareB v false false false true = ((v.n == 0) && fsame v.f 0 && v.s.toList.isEmpty) := by
    rw [fsame_ford h.ok.2.2.1 (by omega)]; simp [bareB]
  rw [hbare] at e
  obtain ⟨p4, q4, e4⟩ := h.nslice
  obtain ⟨p5, q5, e5⟩ := h.xslice
  have hnl := h.ok.2.2.2.2.1
  have hxl := h.ok.2.2.2.2.2.1
  have hns := h.ok.2.2.2.2.2.2
  have hNA := fun (W : World) (hb : Below w.heap.size w W) => NamesAt.of (h.below hb)
  unfold Val.agg
  simp only [e4] at hNA
  rw [e4, e5, hk]
  obtain ⟨R, hR⟩ : ∃ R, R = v.rightB (13 - far) := ⟨_, rfl⟩
  obtain ⟨N, hN⟩ : ∃ N, N = v.n := ⟨_, rfl⟩
  obtain ⟨F, hF⟩ : ∃ F, F = v.f := ⟨_, rfl⟩
  obtain ⟨T, hT⟩ : ∃ T, T = v.s := ⟨_, rfl⟩
  obtain ⟨L, hL⟩ : ∃ L, L = v.ns.length := ⟨_, rfl⟩
  obtain ⟨M, hM⟩ : ∃ M, M = v.xs.length := ⟨_, rfl⟩
  rw [← hR, ← hN, ← hF, ← hT, ← hL, ← hM] at e
  rw [← hR, ← hN, ← hF, ← hT, ← hL, ← hM]
  simp only [← hL] at hNA
  rw [← hL] at hnl
  rw [← hM] at hxl e5
  have HZ := Lib.hid (fun (W : World) => rzero_agg 6 N F T p4 L q4 p5 M q5 W)
  obtain ⟨Z, hZ⟩ : ∃ Z, Z = fsame F 0 := ⟨_, rfl⟩
  simp only [← hZ] at HZ e
  have HE := Lib.hid e; have HIN := Lib.hid h; have HIH := Lib.hid ih; have HM := Lib.hid hM; have HL := Lib.hid hL; have E5 := Lib.hid e5; have HNA := Lib.hid hNA; have HNS := Lib.hid hns
  clear e hbare hR hN hF hT hL hM h e4 e5 hZ ih hk hNA hns
  cases Z with
  | false =>
    have HF : Hid (R = false) := Lib.hid (by rw [HE.out]; simp)
    clear HE
    go_enter Tryz.func61, Tryz.ntmps61
    try simp only [lapp_cons, lapp_nil]
    go_upto_region 1 with fail
    obtain ⟨W, hW⟩ : ∃ W, W = w.alloc (.cells #[.int .i64 6, .int .i64 N, .float .f64 F, .string T, .slice p4 L q4, .slice p5 M q5] 26) := ⟨_, rfl⟩
    have hBW : Below w.heap.size w W := by rw [hW]; exact (Below.refl _ w).alloc (Nat.le_refl _) _
    have hb0 : Blk W w.heap.size 26 #[.int .i64 6, .int .i64 N, .float .f64 F, .string T, .slice p4 L q4, .slice p5 M q5] := by rw [hW]; exact Blk.new w 26 _
    rw [← hW]
    have a0 := hb0.cell 0; have a1 := hb0.cell 1; have a2 := hb0.cell 2; have a3 := hb0.cell 3; have a4 := hb0.cell 4; have a5 := hb0.cell 5
    simp only [List.getElem?_toArray, List.getElem?_cons_zero, List.getElem?_cons_succ] at a0 a1 a2 a3 a4 a5
    have HBW := Lib.hid hBW; have HB0 := Lib.hid hb0
    clear hW hBW hb0
    go_cut [5] (fun s5 wx => (∃ b : Bool, s5 = .bool b) ∧ W = wx)
    case first =>
      go_wp2_with fail
      all_goals
        go_meet
        exact ⟨⟨_, rfl⟩, rfl⟩
    case rest =>
    obtain ⟨⟨pb, rfl⟩, rfl⟩ := hcut
    go_wp2_with fail
    refine (HZ.out _).mono ?_
    rintro e w1 ⟨rfl, hb1⟩
    have HBB := Lib.hid (HBW.out.trans (hb1.mono HBW.out.size))
    have HBL := Lib.hid (HB0.out.below hb1 HB0.out.lt)
    clear a0 a1 a2 a3 a4 a5 hb1 HB0 HBW
    have a0 := HBL.out.cell 0; have a1 := HBL.out.cell 1; have a2 := HBL.out.cell 2; have a3 := HBL.out.cell 3; have a4 := HBL.out.cell 4; have a5 := HBL.out.cell 5
    simp only [List.getElem?_toArray, List.getElem?_cons_zero, List.getElem?_cons_succ] at a0 a1 a2 a3 a4 a5
    go_wp2_with fail
    go_ret
    exact ⟨by rw [HF.out]; rfl, HBB.out⟩
  | true =>
  by_cases h0 : N = 0
  case neg =>
    have HF : Hid (R = false) := Lib.hid (by rw [HE.out]; simp [h0])
    have t1 : (N != 0) = true := by simpa using h0
    clear HE h0
    go_enter Tryz.func61, Tryz.ntmps61
    try simp only [lapp_cons, lapp_nil]
    go_upto_region 1 with fail
    obtain ⟨W, hW⟩ : ∃ W, W = w.alloc (.cells #[.int .i64 6, .int .i64 N, .float .f64 F, .string T, .slice p4 L q4, .slice p5 M q5] 26) := ⟨_, rfl⟩
    have hBW : Below w.heap.size w W := by rw [hW]; exact (Below.refl _ w).alloc (Nat.le_refl _) _
    have hb0 : Blk W w.heap.size 26 #[.int .i64 6, .int .i64 N, .float .f64 F, .string T, .slice p4 L q4, .slice p5 M q5] := by rw [hW]; exact Blk.new w 26 _
    rw [← hW]
    have a0 := hb0.cell 0; have a1 := hb0.cell 1; have a2 := hb0.cell 2; have a3 := hb0.cell 3; have a4 := hb0.cell 4; have a5 := hb0.cell 5
    simp only [List.getElem?_toArray, List.getElem?_cons_zero, List.getElem?_cons_succ] at a0 a1 a2 a3 a4 a5
    have HBW := Lib.hid hBW; have HB0 := Lib.hid hb0
    clear hW hBW hb0
    go_cut [5] (fun s5 wx => (∃ b : Bool, s5 = .bool b) ∧ W = wx)
    case first =>
      go_wp2_with fail
      all_goals
        go_meet
        exact ⟨⟨_, rfl⟩, rfl⟩
    case rest =>
    obtain ⟨⟨pb, rfl⟩, rfl⟩ := hcut
    go_wp2_with fail
    refine (HZ.out _).mono ?_
    rintro e w1 ⟨rfl, hb1⟩
    have HBB := Lib.hid (HBW.out.trans (hb1.mono HBW.out.size))
    have HBL := Lib.hid (HB0.out.below hb1 HB0.out.lt)
    clear a0 a1 a2 a3 a4 a5 hb1 HB0 HBW
    have a0 := HBL.out.cell 0; have a1 := HBL.out.cell 1; have a2 := HBL.out.cell 2; have a3 := HBL.out.cell 3; have a4 := HBL.out.cell 4; have a5 := HBL.out.cell 5
    simp only [List.getElem?_toArray, List.getElem?_cons_zero, List.getElem?_cons_succ] at a0 a1 a2 a3 a4 a5
    go_wp2_with fail
    go_ret
    exact ⟨by rw [HF.out]; rfl, HBB.out⟩
  subst h0
  by_cases h1 : T.toList = []
  case neg =>
    have HF : Hid (R = false) := Lib.hid (by rw [HE.out]; simp [h1])
    have h1' : T.toList.isEmpty = false := by simpa using h1
    clear HE
    go_enter Tryz.func61, Tryz.ntmps61
    try simp only [lapp_cons, lapp_nil]
    go_upto_region 1 with fail
    obtain ⟨W, hW⟩ : ∃ W, W = w.alloc (.cells #[.int .i64 6, .int .i64 0, .float .f64 F, .string T, .slice p4 L q4, .slice p5 M q5] 26) := ⟨_, rfl⟩
    have hBW : Below w.heap.size w W := by rw [hW]; exact (Below.refl _ w).alloc (Nat.le_refl _) _
    have hb0 : Blk W w.heap.size 26 #[.int .i64 6, .int .i64 0, .float .f64 F, .string T, .slice p4 L q4, .slice p5 M q5] := by rw [hW]; exact Blk.new w 26 _
    rw [← hW]
    have a0 := hb0.cell 0; have a1 := hb0.cell 1; have a2 := hb0.cell 2; have a3 := hb0.cell 3; have a4 := hb0.cell 4; have a5 := hb0.cell 5
    simp only [List.getElem?_toArray, List.getElem?_cons_zero, List.getElem?_cons_succ] at a0 a1 a2 a3 a4 a5
    have HBW := Lib.hid hBW; have HB0 := Lib.hid hb0
    clear hW hBW hb0
    go_cut [5] (fun s5 wx => (∃ b : Bool, s5 = .bool b) ∧ W = wx)
    case first =>
      go_wp2_with fail
      all_goals
        go_meet
        exact ⟨⟨_, rfl⟩, rfl⟩
    case rest =>
    obtain ⟨⟨pb, rfl⟩, rfl⟩ := hcut
    go_wp2_with fail
    refine (HZ.out _).mono ?_
    rintro e w1 ⟨rfl, hb1⟩
    have HBB := Lib.hid (HBW.out.trans (hb1.mono HBW.out.size))
    have HBL := Lib.hid (HB0.out.below hb1 HB0.out.lt)
    clear a0 a1 a2 a3 a4 a5 hb1 HB0 HBW
    have a0 := HBL.out.cell 0; have a1 := HBL.out.cell 1; have a2 := HBL.out.cell 2; have a3 := HBL.out.cell 3; have a4 := HBL.out.cell 4; have a5 := HBL.out.cell 5
    simp only [List.getElem?_toArray, List.getElem?_cons_zero, List.getElem?_cons_succ] at a0 a1 a2 a3 a4 a5
    go_wp2_with fail
    go_ret
    exact ⟨by rw [HF.out]; rfl, HBB.out⟩
  obtain ⟨NB, hNB⟩ : ∃ NB, NB = (risingB v.ns && ((v.ns.length : Int) == (M : Int))) := ⟨_, rfl⟩
  have HNB : Hid ((risingB v.ns && ((v.ns.length : Int) == (M : Int))) = NB) := Lib.hid hNB.symm
  have hHE := HE.out
  have hb3 : (decide (L = M) && risingB v.ns) = NB := by
    rw [hNB, ← HL.out, Bool.and_comm]
    congr 1
    rw [Bool.eq_iff_iff, decide_eq_true_eq, beq_iff_eq]
    omega
  rw [hb3] at hHE
  have h1' : T.toList.isEmpty = true := by simp [h1]
  clear HE hb3 hNB
  cases NB with
  | false =>
    have HF : Hid (R = false) := Lib.hid (by rw [hHE]; simp)
    clear hHE
    go_enter Tryz.func61, Tryz.ntmps61
    try simp only [lapp_cons, lapp_nil]
    go_upto_region 1 with fail
    obtain ⟨W, hW⟩ : ∃ W, W = w.alloc (.cells #[.int .i64 6, .int .i64 0, .float .f64 F, .string T, .slice p4 L q4, .slice p5 M q5] 26) := ⟨_, rfl⟩
    have hBW : Below w.heap.size w W := by rw [hW]; exact (Below.refl _ w).alloc (Nat.le_refl _) _
    have hb0 : Blk W w.heap.size 26 #[.int .i64 6, .int .i64 0, .float .f64 F, .string T, .slice p4 L q4, .slice p5 M q5] := by rw [hW]; exact Blk.new w 26 _
    rw [← hW]
    have a0 := hb0.cell 0; have a1 := hb0.cell 1; have a2 := hb0.cell 2; have a3 := hb0.cell 3; have a4 := hb0.cell 4; have a5 := hb0.cell 5
    simp only [List.getElem?_toArray, List.getElem?_cons_zero, List.getElem?_cons_succ] at a0 a1 a2 a3 a4 a5
    have HBW := Lib.hid hBW; have HB0 := Lib.hid hb0
    clear hW hBW hb0
    go_cut [5] (fun s5 wx => (∃ b : Bool, s5 = .bool b) ∧ W = wx)
    case first =>
      go_wp2_with fail
      all_goals
        go_meet
        exact ⟨⟨_, rfl⟩, rfl⟩
    case rest =>
    obtain ⟨⟨pb, rfl⟩, rfl⟩ := hcut
    go_wp2_with fail
    refine (HZ.out _).mono ?_
    rintro e w1 ⟨rfl, hb1⟩
    have HBB := Lib.hid (HBW.out.trans (hb1.mono HBW.out.size))
    have HBL := Lib.hid (HB0.out.below hb1 HB0.out.lt)
    clear a0 a1 a2 a3 a4 a5 hb1 HB0 HBW
    have a0 := HBL.out.cell 0; have a1 := HBL.out.cell 1; have a2 := HBL.out.cell 2; have a3 := HBL.out.cell 3; have a4 := HBL.out.cell 4; have a5 := HBL.out.cell 5
    simp only [List.getElem?_toArray, List.getElem?_cons_zero, List.getElem?_cons_succ] at a0 a1 a2 a3 a4 a5
    go_wp2_with fail
    refine (rnames_any _ v.ns (M : Int) w1 (HNA.out w1 HBB.out) (by rw [← HL.out]; exact hnl) HNS.out).mono ?_
    rintro e w2 ⟨rfl, kd, hkd⟩
    rw [HNB.out]
    have HBX := Lib.hid (show Below w.heap.size w w2 by rw [hkd]; exact below_drewN HBB.out _)
    have HBM := Lib.hid (show Blk w2 w.heap.size 26 #[.int .i64 6, .int .i64 0, .float .f64 F, .string T, .slice p4 L q4, .slice p5 M q5] by rw [hkd]; exact HBL.out.drewN _)
    clear hkd HBB HBL a0 a1 a2 a3 a4 a5
    have HBB := HBX
    have HBL := HBM
    have a0 := HBL.out.cell 0; have a1 := HBL.out.cell 1; have a2 := HBL.out.cell 2; have a3 := HBL.out.cell 3; have a4 := HBL.out.cell 4; have a5 := HBL.out.cell 5
    simp only [List.getElem?_toArray, List.getElem?_cons_zero, List.getElem?_cons_succ] at a0 a1 a2 a3 a4 a5
    go_wp2_with fail
    go_ret
    exact ⟨by rw [HF.out]; rfl, HBB.out⟩
  | true =>
  have HE2 : Hid (R = Val.rightAll v.xs (13 - far + 1)) := Lib.hid (by rw [hHE]; simp [h1])
  clear hHE
  go_enter Tryz.func61, Tryz.ntmps61
  try simp only [lapp_cons, lapp_nil]
  go_upto_region 1 with fail
  obtain ⟨W, hW⟩ : ∃ W, W = w.alloc (.cells #[.int .i64 6, .int .i64 0, .float .f64 F, .string T, .slice p4 L q4, .slice p5 M q5] 26) := ⟨_, rfl⟩
  have hBW : Below w.heap.size w W := by rw [hW]; exact (Below.refl _ w).alloc (Nat.le_refl _) _
  have hb0 : Blk W w.heap.size 26 #[.int .i64 6, .int .i64 0, .float .f64 F, .string T, .slice p4 L q4, .slice p5 M q5] := by rw [hW]; exact Blk.new w 26 _
  rw [← hW]
  have a0 := hb0.cell 0; have a1 := hb0.cell 1; have a2 := hb0.cell 2; have a3 := hb0.cell 3; have a4 := hb0.cell 4; have a5 := hb0.cell 5
  simp only [List.getElem?_toArray, List.getElem?_cons_zero, List.getElem?_cons_succ] at a0 a1 a2 a3 a4 a5
  have HBW := Lib.hid hBW; have HB0 := Lib.hid hb0
  clear hW hBW hb0
  go_cut [5] (fun s5 wx => (∃ b : Bool, s5 = .bool b) ∧ W = wx)
  case first =>
    go_wp2_with fail
    all_goals
      go_meet
      exact ⟨⟨_, rfl⟩, rfl⟩
  case rest =>
  obtain ⟨⟨pb, rfl⟩, rfl⟩ := hcut
  go_wp2_with fail
  refine (HZ.out _).mono ?_
  rintro e w1 ⟨rfl, hb1⟩
  have HBB := Lib.hid (HBW.out.trans (hb1.mono HBW.out.size))
  have HBL := Lib.hid (HB0.out.below hb1 HB0.out.lt)
  clear a0 a1 a2 a3 a4 a5 hb1 HB0 HBW
  have a0 := HBL.out.cell 0; have a1 := HBL.out.cell 1; have a2 := HBL.out.cell 2; have a3 := HBL.out.cell 3; have a4 := HBL.out.cell 4; have a5 := HBL.out.cell 5
  simp only [List.getElem?_toArray, List.getElem?_cons_zero, List.getElem?_cons_succ] at a0 a1 a2 a3 a4 a5
  go_wp2_with fail
  refine (rnames_any _ v.ns (M : Int) w1 (HNA.out w1 HBB.out) (by rw [← HL.out]; exact hnl) HNS.out).mono ?_
  rintro e w2 ⟨rfl, kd, hkd⟩
  rw [HNB.out]
  have HBX := Lib.hid (show Below w.heap.size w w2 by rw [hkd]; exact below_drewN HBB.out _)
  have HBM := Lib.hid (show Blk w2 w.heap.size 26 #[.int .i64 6, .int .i64 0, .float .f64 F, .string T, .slice p4 L q4, .slice p5 M q5] by rw [hkd]; exact HBL.out.drewN _)
  clear hkd HBB HBL a0 a1 a2 a3 a4 a5
  have HBB := HBX
  have HBL := HBM
  have a0 := HBL.out.cell 0; have a1 := HBL.out.cell 1; have a2 := HBL.out.cell 2; have a3 := HBL.out.cell 3; have a4 := HBL.out.cell 4; have a5 := HBL.out.cell 5
  simp only [List.getElem?_toArray, List.getElem?_cons_zero, List.getElem?_cons_succ] at a0 a1 a2 a3 a4 a5
  go_wp2_with fail
  obtain ⟨pp, cc, ee, hx⟩ := items_at (HIN.out.below HBB.out)
  rw [← HM.out, E5.out] at ee
  injection ee with ee1 ee2 ee3
  subst ee1 ee3
  have HX := Lib.hid hx
  clear hx ee2 a0 a1 a2 a3 a4 a5
  go_loopw [6] (fun iv wr => ∃ i : Nat, iv = .int .i64 (i : Int) ∧ i ≤ M ∧ Hid (Val.rightAll (v.xs.drop i) (13 - far + 1) = R) ∧ Hid (Below w2.heap.size w2 wr)) (fun iv _ => M - (intOf iv).toNat)
  case atStart => exact ⟨0, rfl, by omega, Lib.hid (by rw [HE2.out]; rfl), Lib.hid (Below.refl _ _)⟩
  case round =>
    obtain ⟨i, rfl, hi, HR, HB⟩ := hrel
    have a5 := (HBL.out.below HB.out HBL.out.lt).cell 5
    simp only [List.getElem?_toArray, List.getElem?_cons_zero, List.getElem?_cons_succ] at a5
    by_cases hlt : i < M
    · have hil : i < v.xs.length := by rw [← HM.out]; exact hlt
      obtain ⟨xb, xo, rfl, hpx, hlc⟩ := HX.out i hil
      rw [← HM.out] at hlc
      have hdr := drop_cons hil
      have hrr := HR.out
      rw [hdr] at hrr
      have hxm : v.xs[i]'hil ∈ v.xs := by simp
      obtain ⟨x, hxx⟩ : ∃ x, x = v.xs[i]'hil := ⟨_, rfl⟩
      rw [← hxx] at hpx hrr hxm
      have hpw := hpx.below HB.out
      have d0 := hpw.c0; have d1 := hpw.c1; have d2 := hpw.c2; have d3 := hpw.c3; have d4 := hpw.c4; have d5 := hpw.c5
      obtain ⟨r4, t4, g4⟩ := hpw.in.nslice
      obtain ⟨r5, t5, g5⟩ := hpw.in.xslice
      rw [g4] at d4
      rw [g5] at d5
      have hc := HIH.out x hxm wr hpw.in
      unfold Val.agg at hc
      rw [g4, g5] at hc
      have hk0 : (0 : Int) ≤ (i : Int) := by omega
      have hk1 : (i : Int) < (M : Int) := by omega
      cases hrb : x.rightB (13 - far + 1) with
      | false =>
        rw [hrb] at hc
        have HC2 := Lib.hid hc
        have HF : Hid (R = false) := Lib.hid (by rw [← hrr]; simp [Val.rightAll, hrb])
        clear hil hpx hpw hc hxx g4 g5 hrb hrr hdr hxm HR
        go_wp2_with fail
        refine HC2.out.mono ?_
        rintro e w3 ⟨rfl, hb3⟩
        have HB3 := Lib.hid (HBB.out.trans ((HB.out.trans (hb3.mono HB.out.size)).mono HBB.out.size))
        clear hb3 d0 d1 d2 d3 d4 d5 a5 HC2
        go_wp2
        go_ret
        exact ⟨by rw [HF.out]; rfl, HB3.out⟩
      | true =>
        rw [hrb] at hc
        have HC2 := Lib.hid hc
        have HR2 : Hid (Val.rightAll (v.xs.drop (i + 1)) (13 - far + 1) = R) := Lib.hid (by rw [← hrr]; simp [Val.rightAll, hrb])
        clear hil hpx hpw hc hxx g4 g5 hrb hrr hdr hxm HR
        go_wp2_with fail
        refine HC2.out.mono ?_
        rintro e w3 ⟨rfl, hb3⟩
        have HB3 := Lib.hid (HB.out.trans (hb3.mono HB.out.size))
        clear hb3 d0 d1 d2 d3 d4 d5 a5 HC2
        go_wp2
        go_roundw
        case rel => exact ⟨i + 1, by go_num, by omega, HR2, HB3⟩
        case measure => simp [intOf]; omega
    · have HT : Hid (R = true) := Lib.hid (by rw [← HR.out, List.drop_eq_nil_of_le (by rw [← HM.out]; omega)]; simp [Val.rightAll])
      go_wp2
      go_ret
      exact ⟨by rw [HT.out]; rfl, HBB.out.trans (HB.out.mono HBB.out.size)⟩

theorem rright_0 (v : Val) (w : World) (h : v.In w) : Calls Tryz.prog 61 #[v.agg, .int .i64 0] w fun e w' => BoolBelow (v.rightB 13) w e w' := by
  have hE : v.rightB 13 = false := by rw [Val.rightB_eq, if_pos (by omega)]
  rw [hE]
  obtain ⟨p4, q4, e4⟩ := h.nslice
  obtain ⟨p5, q5, e5⟩ := h.xslice
  unfold Val.agg
  rw [e4, e5]
  clear hE h e4 e5
  go_enter Tryz.func61, Tryz.ntmps61
  try simp only [lapp_cons, lapp_nil]
  go_wp2_with fail
  all_goals
    go_ret
    exact ⟨rfl, (Below.refl _ _).alloc (Nat.le_refl _) _⟩
theorem rright_any (d : Nat) : ∀ (v : Val) (far : Nat) (w : World), v.sz ≤ d → far ≤ 12 → v.In w → Calls Tryz.prog 61 #[v.agg, .int .i64 far] w fun e w' => BoolBelow (v.rightB (13 - far)) w e w' := by
  induction d with
  | zero => intro v far w hd; rw [Val.sz_eq] at hd; omega
  | succ d ih =>
    intro v far w hd hf h
    rcases Nat.eq_zero_or_pos far with h0 | h0
    · subst h0; exact rright_0 v w h
    · have hi : ∀ x, x ∈ v.xs → ∀ w : World, x.In w → Calls Tryz.prog 61 #[x.agg, .int .i64 ((far : Int) - 1)] w fun e w' => BoolBelow (x.rightB (13 - far + 1)) w e w' := fun x hx w hxi => by
        have := ih x (far - 1) w (by have := Val.size_mem hx; omega) (by omega) hxi
        rw [show (((far - 1 : Nat) : Nat) : Int) = (far : Int) - 1 from by omega, show 13 - (far - 1) = 13 - far + 1 from by omega] at this
        exact this
      by_cases h5 : v.k = 5
      · exact rright_list v far w h0 hf h h5 hi
      · by_cases h6 : v.k = 6
        · exact rright_rec v far w h0 hf h h6 hi
        · exact rright_leaf v far w h0 hf h ⟨h5, h6⟩
theorem rrightf_any (v : Val) (w : World) (h : v.In w) : Calls Tryz.prog 43 #[v.agg] w fun e w' => BoolBelow v.RightB w e w' := by
  obtain ⟨W, hW⟩ : ∃ W, W = w.alloc (.cells v.cells.toArray 26) := ⟨_, rfl⟩
  have hBW : Below w.heap.size w W := by rw [hW]; exact (Below.refl _ w).alloc (Nat.le_refl _) _
  have hb0 : Blk W w.heap.size 26 v.cells.toArray := by rw [hW]; exact Blk.new w 26 _
  obtain ⟨p4, q4, e4⟩ := h.nslice
  obtain ⟨p5, q5, e5⟩ := h.xslice
  have hc := rparts_any v W (h.below hBW)
  have hr := fun (W' : World) (hb : Below W.heap.size W W') => rright_any v.sz v 12 W' (Nat.le_refl _) (by omega) ((h.below hBW).below hb)
  have hcl := Val.count_le v.sz v 0 (Nat.le_refl _) (by omega)
  unfold Val.RightB
  unfold Val.cells at hW hb0
  unfold Val.agg at hc hr ⊢
  rw [e4, e5] at hW hc hb0 ⊢
  simp only [e4, e5] at hr
  obtain ⟨C, hC⟩ : ∃ C, C = v.count 0 := ⟨_, rfl⟩
  obtain ⟨B, hB⟩ : ∃ B, B = v.rightB 1 := ⟨_, rfl⟩
  rw [← hC] at hcl hc ⊢
  rw [← hB]
  simp only [show 13 - 12 = 1 from rfl, ← hB] at hr
  obtain ⟨hcl1, hcl2⟩ := hcl
  have HW := Lib.hid hW; have HBW := Lib.hid hBW; have HC := Lib.hid hc; have HR := Lib.hid hr; have HB0 := Lib.hid hb0
  clear hW hBW hc hr e4 e5 h hC hb0 hB
  by_cases hd : C ≤ 200
  · have t1 : decide ((C : Int) ≤ 200) = true := by simp; omega
    have HT : Hid ((decide (C ≤ 200) && B) = B) := Lib.hid (by simp [hd])
    go_enter Tryz.func43, Tryz.ntmps43
    go_wp2_with fail
    rw [← HW.out]
    refine HC.out.mono ?_
    rintro e w1 ⟨rfl, hb1⟩
    have HB1 := Lib.hid hb1
    have hb2 := HB0.out.below hb1 HB0.out.lt
    have c0 := hb2.cell 0; have c1 := hb2.cell 1; have c2 := hb2.cell 2; have c3 := hb2.cell 3; have c4 := hb2.cell 4; have c5 := hb2.cell 5
    simp only [List.getElem?_toArray, List.getElem?_cons_zero, List.getElem?_cons_succ] at c0 c1 c2 c3 c4 c5
    clear hb1 hb2
    go_wp2_with fail
    refine (HR.out _ HB1.out).mono ?_
    rintro e w2 ⟨rfl, hb2⟩
    have HB2 := Lib.hid (HBW.out.trans ((HB1.out.mono HBW.out.size).trans (hb2.mono (Nat.le_trans HBW.out.size HB1.out.size))))
    clear hb2
    go_wp2
    go_ret
    exact ⟨by rw [HT.out]; rfl, HB2.out⟩
  · have t1 : decide ((C : Int) ≤ 200) = false := by simp; omega
    have HT : Hid ((decide (C ≤ 200) && B) = false) := Lib.hid (by simp [hd])
    go_enter Tryz.func43, Tryz.ntmps43
    go_wp2_with fail
    rw [← HW.out]
    refine HC.out.mono ?_
    rintro e w1 ⟨rfl, hb1⟩
    have HB1 := Lib.hid (HBW.out.trans (hb1.mono HBW.out.size))
    clear hb1
    go_wp2
    go_ret
    exact ⟨by rw [HT.out]; rfl, HB1.out⟩
end Go.Proofs.YtjpdbhhjlnmacaaGreat
