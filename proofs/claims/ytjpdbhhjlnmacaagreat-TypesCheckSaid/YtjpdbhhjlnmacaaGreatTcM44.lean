/- basculeref08.right of any expression (printed by wip/gen_rexp.py). -/
import Derived.Test.YtjpdbhhjlnmacaaGreatTcM18
import Derived.Test.YtjpdbhhjlnmacaaGreatTcM29
import Derived.Deep.DeepCutAuto
namespace Go.Proofs.YtjpdbhhjlnmacaaGreat
set_option linter.unusedVariables false
open Go.RowKit

theorem name_word {s : ByteArray} : (nameB s && !wordB s) = (!wordB s && fieldB s) := by
  unfold fieldB wordB
  cases nameB s <;> cases (s.toList == [110, 97, 110]) <;> cases (s.toList == [105, 110, 102]) <;> simp
theorem named_split (k : Int) (s : ByteArray) (ns : List ByteArray) (M : Nat) : namedP k s ns M = ((if k = 2 then (!wordB s && fieldB s) else if k = 18 then fieldB s else decide (s.toList = [])) && ((if k = 17 then decide (ns.length = M) else decide (ns.length = 0)) && fieldsB ns)) := by
  have h0 : ns.length = 0 → fieldsB ns = true := fun h => fieldsB_true (fun i hi => by omega)
  unfold namedP
  by_cases h2 : k = 2
  · subst h2
    by_cases h : ns.length = 0
    · simp [h, h0 h, Bool.and_assoc]
    · simp [h]
  · by_cases h18 : k = 18
    · subst h18
      by_cases h : ns.length = 0
      · simp [h, h0 h]
      · simp [h]
    · by_cases h17 : k = 17
      · subst h17
        simp
        cases fieldsB ns <;> simp
      · rw [if_neg h2, if_neg h18, if_neg h17, if_neg h2, if_neg h18, if_neg h17]
        by_cases h : ns.length = 0
        · simp [h, h0 h]
        · simp [h]
set_option maxHeartbeats 8000000 in
set_option maxRecDepth 100000 in
theorem rxright_step (d : Nat) (ih : ∀ (x : Exp) (far : Nat) (w : World), x.sz ≤ d → far ≤ 12 → x.In w → Calls Tryz.prog 53 #[x.agg, .int .i64 far] w fun e w' => BoolBelow (x.rightB (13 - far)) w e w')
    (x : Exp) (far : Nat) (w : World) (hd : x.sz ≤ d + 1) (hfar : far ≤ 12) (h : x.In w) : Calls Tryz.prog 53 #[x.agg, .int .i64 far] w fun e w' => BoolBelow (x.rightB (13 - far)) w e w' := by
  obtain ⟨W, hW⟩ : ∃ W, W = w.alloc (.cells x.cells.toArray 29) := ⟨_, rfl⟩
  have hBW : Below w.heap.size w W := by rw [hW]; exact (Below.refl _ w).alloc (Nat.le_refl _) _
  have hb0 : Blk W w.heap.size 29 x.cells.toArray := by rw [hW]; exact Blk.new w 29 _
  have hIn := h.below hBW
  have hE := Exp.rightB_eq x (13 - far)
  have hkd := fun W => wants_any x.k W
  have hwd := fun W => rword_any x.s W
  have hnm := fun W => rname_any x.s W h.ok.2.1
  have hfd := fun W => rfield_any x.s W h.ok.2.1
  have hcn := fun (W' : World) (hb : Below W.heap.size W W') => rconst_any x.v W' (hIn.val.below hb)
  have hno := fun (W' : World) (hb : Below W.heap.size W W') => rnone_any x.v W' (hIn.val.below hb)
  obtain ⟨p8, q8, e8, hns⟩ := names_in (XNamesAt.of hIn)
  obtain ⟨p9, q9, e9, hx⟩ := xitems_at hIn
  obtain ⟨p6, q6, e6⟩ := h.val.nslice
  obtain ⟨p7, q7, e7⟩ := h.val.xslice
  have hso := h.ok.2.2.2.2
  have hnl := h.ok.2.2.1
  have hxl := h.ok.2.2.2.1
  unfold Exp.cells at hW hb0
  rw [e6, e7, e8, e9] at hW hb0
  unfold Exp.agg
  rw [e6, e7, e8, e9]
  unfold Val.agg at hcn hno
  rw [e6, e7] at hcn hno
  obtain ⟨R, hR⟩ : ∃ R, R = x.rightB (13 - far) := ⟨_, rfl⟩
  rw [← hR] at hE ⊢
  obtain ⟨M, hM⟩ : ∃ M, M = x.xs.length := ⟨_, rfl⟩
  obtain ⟨L, hL⟩ : ∃ L, L = x.ns.length := ⟨_, rfl⟩
  obtain ⟨k, hk⟩ : ∃ k, k = x.k := ⟨_, rfl⟩
  obtain ⟨s, hs⟩ : ∃ s, s = x.s := ⟨_, rfl⟩
  rw [← hM] at hE hb0 hW hxl ⊢
  rw [← hL] at hb0 hW hnl ⊢
  rw [← hk] at hE hkd hb0 hW ⊢
  rw [← hs] at hE hwd hnm hfd hb0 hW ⊢
  obtain ⟨TB, hTB⟩ : ∃ TB, TB = (if k = 1 then x.v.constB else x.v.noneB) := ⟨_, rfl⟩
  obtain ⟨CB, hCB⟩ : ∃ CB, CB = x.v.constB := ⟨_, rfl⟩
  obtain ⟨NB, hNB⟩ : ∃ NB, NB = x.v.noneB := ⟨_, rfl⟩
  obtain ⟨n, hn⟩ : ∃ n, n = wantsP k := ⟨_, rfl⟩
  obtain ⟨WB, hWB⟩ : ∃ WB, WB = wordB s := ⟨_, rfl⟩
  obtain ⟨FB, hFB⟩ : ∃ FB, FB = fieldB s := ⟨_, rfl⟩
  obtain ⟨NAB, hNAB⟩ : ∃ NAB, NAB = nameB s := ⟨_, rfl⟩
  obtain ⟨NP, hNP⟩ : ∃ NP, NP = namedP k s x.ns M := ⟨_, rfl⟩
  obtain ⟨CP, hCP⟩ : ∃ CP, CP = (if k = 2 then (NAB && !WB) else if k = 18 then FB else decide (s.toList = [])) := ⟨_, rfl⟩
  obtain ⟨EB, hEB⟩ : ∃ EB, EB = (if k = 17 then decide (L = M) else decide (L = 0)) := ⟨_, rfl⟩
  have hNP2 : NP = (CP && (EB && fieldsB x.ns)) := by
    rw [hNP, hCP, hEB, hNAB, hWB, hFB, name_word, hL]
    exact named_split k s x.ns M
  unfold nodeP at hE
  rw [← hTB, ← hn, ← hNP] at hE
  rw [← hCB, ← hNB] at hTB
  rw [← hCB] at hcn
  rw [← hNB] at hno
  rw [← hn] at hkd
  rw [← hWB] at hwd
  rw [← hFB] at hfd
  rw [← hNAB] at hnm
  have hnr : -2 ≤ n ∧ n ≤ 3 := by rw [hn]; unfold wantsP; repeat' split
                                  all_goals omega
  obtain ⟨hn1, hn2⟩ := hnr
  have c0 := hb0.cell 0; have c1 := hb0.cell 1; have c2 := hb0.cell 2; have c3 := hb0.cell 3; have c4 := hb0.cell 4; have c5 := hb0.cell 5; have c6 := hb0.cell 6; have c7 := hb0.cell 7; have c8 := hb0.cell 8; have c9 := hb0.cell 9
  simp only [List.getElem?_toArray, List.getElem?_cons_zero, List.getElem?_cons_succ] at c0 c1 c2 c3 c4 c5 c6 c7 c8 c9
  have HW := Lib.hid hW; have HBW := Lib.hid hBW; have HB0 := Lib.hid hb0; have HE := Lib.hid hE; have HKD := Lib.hid hkd; have HWD := Lib.hid hwd; have HNM := Lib.hid hnm; have HFD := Lib.hid hfd; have HCN := Lib.hid hcn; have HNO := Lib.hid hno; have HNS := Lib.hid hns; have HX := Lib.hid hx; have HL := Lib.hid hL; have HM := Lib.hid hM; have HIH := Lib.hid ih; have HTB := Lib.hid hTB; have HNP := Lib.hid hNP2; have HCP := Lib.hid hCP; have HEB := Lib.hid hEB; have HSO := Lib.hid hso
  have HMM := Lib.hid (show ∀ y, y ∈ x.xs → y.sz ≤ d from fun y hy => by have := Exp.size_mem hy; omega)
  clear hW hBW hb0 hE hkd hwd hnm hfd hcn hno hns hx hL hM hR hk hs hNP hNP2 hCP hEB hTB hCB hNB hn hWB hFB hNAB ih hd h hIn e6 e7 e8 e9 hso
  by_cases hf0 : far < 1
  · have HR : Hid (R = false) := Lib.hid (by rw [HE.out, decide_eq_true (show 12 < 13 - far by omega)]; rfl)
    have i1 : decide ((far : Int) < 1) = true := by simp; omega
    clear hf0
    go_enter Tryz.func53, Tryz.ntmps53
    go_wp2_with fail
    rw [← HW.out]
    go_wp2_with fail
    refine (HKD.out _).mono ?_
    rintro e w1 ⟨rfl, rfl⟩
    go_wp2
    go_ret
    exact ⟨by rw [HR.out]; rfl, HBW.out⟩
  have i1 : decide ((far : Int) < 1) = false := by simp; omega
  rw [decide_eq_false (show ¬ 12 < 13 - far by omega)] at HE
  by_cases hm2 : n = -2
  · have HR : Hid (R = false) := Lib.hid (by rw [HE.out, hm2]; rfl)
    subst hm2
    clear hf0
    go_enter Tryz.func53, Tryz.ntmps53
    go_wp2_with fail
    rw [← HW.out]
    go_wp2_with fail
    refine (HKD.out _).mono ?_
    rintro e w1 ⟨rfl, rfl⟩
    go_wp2
    go_ret
    exact ⟨by rw [HR.out]; rfl, HBW.out⟩
  have i2 : (n == -2) = false := by simpa using hm2
  rw [decide_eq_true (show n ≠ -2 from hm2)] at HE
  by_cases hnl : 0 ≤ n ∧ (M : Int) ≠ n
  · have HR : Hid (R = false) := Lib.hid (by rw [HE.out, decide_eq_false (show ¬ n < 0 by omega), decide_eq_false hnl.2]; simp)
    have i3 : decide (0 ≤ n) = true := by simpa using hnl.1
    have i4 : ((M : Int) != n) = true := by simpa using hnl.2
    clear hf0 hm2 hnl
    go_enter Tryz.func53, Tryz.ntmps53
    go_wp2_with fail
    rw [← HW.out]
    go_wp2_with fail
    refine (HKD.out _).mono ?_
    rintro e w1 ⟨rfl, rfl⟩
    go_wp2
    go_ret
    exact ⟨by rw [HR.out]; rfl, HBW.out⟩
  have HE2 : Hid (R = (NP && TB && Exp.rightAll x.xs (13 - far + 1))) := Lib.hid (by
    rw [HE.out]
    have : (decide (n < 0) || decide ((M : Int) = n)) = true := by
      by_cases h0 : n < 0
      · simp [h0]
      · have : (M : Int) = n := by omega
        simp [this]
    rw [this]
    simp)
  have hsplit : ((decide (0 ≤ n) = true ∧ ((M : Int) != n) = false) ∨ decide (0 ≤ n) = false) := by
    by_cases h0 : 0 ≤ n
    · exact .inl ⟨by simpa using h0, by have : (M : Int) = n := by omega
                                        simpa using this⟩
    · exact .inr (by simpa using h0)
  have hf1 : 1 ≤ far := by omega
  clear hf0 hm2 hnl HE
  go_enter Tryz.func53, Tryz.ntmps53
  go_wp2_with fail
  rw [← HW.out]
  go_wp2_with fail
  refine (HKD.out _).mono ?_
  rintro e w1 ⟨rfl, rfl⟩
  go_upto_region 2 with fail
  go_cut [27] (fun sv wx => sv = .bool false ∧ W = wx)
  case first =>
    rcases hsplit with ⟨i3, i4⟩ | i3
    all_goals
      go_wp2
      go_meet
      exact ⟨rfl, rfl⟩
  case rest =>
  obtain ⟨rfl, rfl⟩ := hcut
  clear hsplit
  go_upto_region 4 with fail
  go_cut [47] (fun sv wx => sv = .bool (!TB) ∧ Below W.heap.size W wx)
  case first =>
    by_cases hk1 : k = 1
    · subst hk1
      have ht : TB = CB := by rw [HTB.out, if_pos rfl]
      subst ht
      have HC := Lib.hid (HCN.out _ (Below.refl _ _))
      go_wp2_with fail
      refine HC.out.mono ?_
      rintro e w3 ⟨rfl, hb⟩
      have HB3 := Lib.hid hb
      have d0' := (hb.cell (p := ⟨w.heap.size, 0, none⟩) HB0.out.lt).trans c0
      clear hb c0
      cases TB with
      | false =>
        go_wp2
        go_meet
        exact ⟨rfl, HB3.out⟩
      | true =>
        go_wp2
        go_meet
        exact ⟨rfl, HB3.out⟩
    · have k1 : (k == 1) = false := by simpa using hk1
      have k2 : (k != 1) = true := by simpa using hk1
      have ht : TB = NB := by rw [HTB.out, if_neg hk1]
      subst ht
      clear hk1
      have HC := Lib.hid (HNO.out _ (Below.refl _ _))
      go_wp2_with fail
      refine HC.out.mono ?_
      rintro e w3 ⟨rfl, hb⟩
      have HB3 := Lib.hid hb
      clear hb
      go_wp2
      go_meet
      exact ⟨rfl, HB3.out⟩
  case rest =>
  obtain ⟨rfl, hb4⟩ := hcut
  clear HTB HCN HNO
  cases TB with
  | false =>
    have HR : Hid (R = false) := Lib.hid (by rw [HE2.out]; simp)
    clear c0 c1 c2 c3 c4 c5 c6 c7 c8 c9
    go_wp2
    go_ret
    exact ⟨by rw [HR.out]; rfl, HBW.out.trans (hb4.mono HBW.out.size)⟩
  | true =>
    have HE3 : Hid (R = (NP && Exp.rightAll x.xs (13 - far + 1))) := Lib.hid (by rw [HE2.out]; simp)
    have HB4 := Lib.hid hb4
    have hb := HB0.out.below hb4 HB0.out.lt
    clear c0 c1 c2 c3 c4 c5 c6 c7 c8 c9 HE2
    have c0 := hb.cell 0; have c1 := hb.cell 1; have c8 := hb.cell 8; have c9 := hb.cell 9
    simp only [List.getElem?_toArray, List.getElem?_cons_zero, List.getElem?_cons_succ] at c0 c1 c8 c9
    clear hb hb4
    have HE4 : Hid (R = (CP && (EB && fieldsB x.ns) && Exp.rightAll x.xs (13 - far + 1))) := Lib.hid (by rw [HE3.out, HNP.out])
    clear HE3 HNP
    simp only [Bool.not_true]
    go_upto_block 0 with fail
    go_cut [4] (fun sv wx => sv = .bool false ∧ CP = true ∧ Below W.heap.size W wx)
    case first =>
      by_cases h2 : k = 2
      · subst h2
        have HC2 : Hid (CP = (NAB && !WB)) := Lib.hid (by rw [HCP.out, if_pos rfl])
        go_wp2_with fail
        refine (HNM.out _).mono ?_
        rintro e w3 ⟨rfl, rfl⟩
        cases NAB with
        | false =>
          have HR : Hid (R = false) := Lib.hid (by rw [HE4.out, HC2.out]; rfl)
          go_wp2
          go_ret
          exact ⟨by rw [HR.out]; rfl, HBW.out.trans (HB4.out.mono HBW.out.size)⟩
        | true =>
          go_wp2_with fail
          refine (HWD.out _).mono ?_
          rintro e w3 ⟨rfl, rfl⟩
          cases WB with
          | true =>
            have HR : Hid (R = false) := Lib.hid (by rw [HE4.out, HC2.out]; rfl)
            go_wp2
            go_ret
            exact ⟨by rw [HR.out]; rfl, HBW.out.trans (HB4.out.mono HBW.out.size)⟩
          | false =>
            go_wp2
            go_meet
            exact ⟨rfl, HC2.out, HB4.out⟩
      · have k2 : (k == 2) = false := by simpa using h2
        by_cases h18 : k = 18
        · subst h18
          have HC2 : Hid (CP = FB) := Lib.hid (by rw [HCP.out, if_neg h2, if_pos rfl])
          clear h2
          go_wp2_with fail
          refine (HFD.out _).mono ?_
          rintro e w3 ⟨rfl, rfl⟩
          cases FB with
          | false =>
            have HR : Hid (R = false) := Lib.hid (by rw [HE4.out, HC2.out]; rfl)
            go_wp2
            go_ret
            exact ⟨by rw [HR.out]; rfl, HBW.out.trans (HB4.out.mono HBW.out.size)⟩
          | true =>
            go_wp2
            go_meet
            exact ⟨rfl, HC2.out, HB4.out⟩
        · have k18 : (k == 18) = false := by simpa using h18
          have HC2 : Hid (CP = decide (s.toList = [])) := Lib.hid (by rw [HCP.out, if_neg h2, if_neg h18])
          clear h2 h18
          by_cases hs : s.toList = []
          · have js : (s.toList != []) = false := by simpa using hs
            have js' : (s.toList == []) = true := by simpa using hs
            rw [decide_eq_true hs] at HC2
            clear hs
            go_wp2
            go_meet
            exact ⟨rfl, HC2.out, HB4.out⟩
          · have js : (s.toList != []) = true := by simpa using hs
            have js' : (s.toList == []) = false := by simpa using hs
            rw [decide_eq_false hs] at HC2
            have HR : Hid (R = false) := Lib.hid (by rw [HE4.out, HC2.out]; rfl)
            clear hs
            go_wp2
            go_ret
            exact ⟨by rw [HR.out]; rfl, HBW.out.trans (HB4.out.mono HBW.out.size)⟩
    case rest =>
    obtain ⟨rfl, hcp, hb5⟩ := hcut
    have HE5 : Hid (R = (EB && fieldsB x.ns && Exp.rightAll x.xs (13 - far + 1))) := Lib.hid (by rw [HE4.out, hcp]; simp)
    have HB5 := Lib.hid hb5
    have hb := HB0.out.below hb5 HB0.out.lt
    clear c0 c1 c8 c9 HE4 HCP hcp HB4 HNM HWD
    have c0 := hb.cell 0; have c8 := hb.cell 8; have c9 := hb.cell 9
    simp only [List.getElem?_toArray, List.getElem?_cons_zero, List.getElem?_cons_succ] at c0 c8 c9
    clear hb hb5
    go_upto_region 15 with fail
    go_cut [92] (fun sv wx => sv = .bool (!EB) ∧ Below W.heap.size W wx)
    case first =>
      by_cases h17 : k = 17
      · subst h17
        have he : EB = decide (L = M) := by rw [HEB.out, if_pos rfl]
        by_cases hlm : L = M
        · rw [decide_eq_true hlm] at he
          have jl : ((L : Int) != (M : Int)) = false := by simp; omega
          subst he
          clear hlm
          go_wp2
          go_meet
          exact ⟨rfl, HB5.out⟩
        · rw [decide_eq_false hlm] at he
          have jl : ((L : Int) != (M : Int)) = true := by simp; omega
          subst he
          clear hlm
          go_wp2
          go_meet
          exact ⟨rfl, HB5.out⟩
      · have k17 : (k == 17) = false := by simpa using h17
        have k17' : (k != 17) = true := by simpa using h17
        have he : EB = decide (L = 0) := by rw [HEB.out, if_neg h17]
        clear h17
        by_cases hl0 : L = 0
        · rw [decide_eq_true hl0] at he
          subst he
          subst hl0
          go_wp2
          go_meet
          exact ⟨rfl, HB5.out⟩
        · rw [decide_eq_false hl0] at he
          have jl : decide ((0 : Int) < (L : Int)) = true := by simp; omega
          have jl' : decide (0 < L) = true := by simp; omega
          subst he
          clear hl0
          go_wp2
          go_meet
          exact ⟨rfl, HB5.out⟩
    case rest =>
    obtain ⟨rfl, hb6⟩ := hcut
    clear c0 c8 c9 HB5 HEB
    cases EB with
    | false =>
      have HR : Hid (R = false) := Lib.hid (by rw [HE5.out]; rfl)
      go_wp2
      go_ret
      exact ⟨by rw [HR.out]; rfl, HBW.out.trans (hb6.mono HBW.out.size)⟩
    | true =>
    have HE6 : Hid (R = (fieldsB x.ns && Exp.rightAll x.xs (13 - far + 1))) := Lib.hid (by rw [HE5.out]; simp)
    have HB6 := Lib.hid hb6
    have hW6 := hb6.size
    clear HE5 hb6
    simp only [Bool.not_true]
    obtain ⟨w9, hw9⟩ : ∃ w9 : World, w9 = wc := ⟨_, rfl⟩
    subst hw9
    go_wp2_with fail
    go_loopw [6] (fun iv wr => ∃ i k' : Nat, iv = .int .i64 (i : Int) ∧ i ≤ L ∧ Hid (∀ j, j < i → FldAt x.ns j) ∧ Hid (wr = w9.drewN k')) (fun iv _ => L - (intOf iv).toNat)
    case atStart => exact ⟨0, 0, rfl, by omega, Lib.hid (fun j hj => absurd hj (by omega)), Lib.hid rfl⟩
    case round =>
      obtain ⟨i, k', rfl, hi, HRI, HK⟩ := hrel
      have hbr : Below W.heap.size W wr := by rw [HK.out]; exact below_drewN HB6.out _
      have hb := HB0.out.below hbr HB0.out.lt
      have c8 := hb.cell 8; have c9 := hb.cell 9
      simp only [List.getElem?_toArray, List.getElem?_cons_zero, List.getElem?_cons_succ] at c8 c9
      have HBR := Lib.hid hbr
      clear hb hbr
      by_cases hlt : i < L
      · have hil : i < x.ns.length := by rw [← HL.out]; exact hlt
        obtain ⟨pb, po, rfl, hpb, hpc, hc⟩ := HNS.out i hil
        obtain ⟨t, ht⟩ : ∃ t, t = x.ns.getD i ByteArray.empty := ⟨_, rfl⟩
        rw [← ht] at hpc
        rw [← HL.out] at hc
        have e1 : wr.cell? ⟨pb, po + i, none⟩ = some (.string t) := (HBR.out.cell (p := ⟨pb, po + i, none⟩) hpb).trans hpc
        have hst : strok t := HSO.out t (by rw [ht]; simp [hil])
        have hri : FldAt x.ns i ↔ fieldB t = true ∧ (i = 0 ∨ Op.bytesLess (x.ns.getD (i - 1) ByteArray.empty).toList t.toList = true) := by unfold FldAt; rw [← ht]
        have HRI2 := Lib.hid hri
        have HFT := Lib.hid (fun W : World => rfield_any t W hst)
        have hk0 : (0 : Int) ≤ (i : Int) := by omega
        have hk1 : (i : Int) < (L : Int) := by omega
        clear hpc ht hst hri
        cases hbt : fieldB t with
        | false =>
          have HF : Hid (R = false) := Lib.hid (by rw [HE6.out, fieldsB_false hil (fun h => by have := (HRI2.out.1 h).1; rw [hbt] at this; cases this)]; rfl)
          simp only [hbt] at HFT
          clear hbt hil
          go_wp2_with fail
          go_quiet ((go_at_call 85; exact quiet_left (HFT.out _)))
          go_wp2
          go_ret
          exact ⟨by rw [HF.out]; rfl, below_drewN (HBW.out.trans (HBR.out.mono HBW.out.size)) _⟩
        | true =>
          simp only [hbt] at HFT
          by_cases h0 : i = 0
          · have HR2 : Hid (∀ j, j < i + 1 → FldAt x.ns j) := Lib.hid (fun j hj => by obtain rfl : j = i := by omega
                                                                                      exact HRI2.out.2 ⟨hbt, .inl h0⟩)
            have j0 : decide ((0 : Int) < (i : Int)) = false := by simp; omega
            have j1 : decide (0 < i) = false := by simp; omega
            clear hbt hil h0
            go_wp2_with fail
            go_quiet ((go_at_call 85; exact quiet_left (HFT.out _)))
            go_wp2
            exact ⟨⟨i + 1, k' + nq, by go_num, by omega, HR2, Lib.hid (by rw [HK.out, World.drewN_drewN])⟩, by simp [intOf]; omega⟩
          · have hil1 : i - 1 < x.ns.length := by omega
            obtain ⟨pb', po', hpe, hpb', hpc', _⟩ := HNS.out (i - 1) hil1
            injection hpe with hpe
            injection hpe with q1 q2
            subst q1 q2
            obtain ⟨r, hr⟩ : ∃ r, r = x.ns.getD (i - 1) ByteArray.empty := ⟨_, rfl⟩
            rw [← hr] at hpc' HRI2
            have e2 : wr.cell? ⟨pb, po + (i - 1), none⟩ = some (.string r) := (HBR.out.cell (p := ⟨pb, po + (i - 1), none⟩) hpb).trans hpc'
            have j0 : decide ((0 : Int) < (i : Int)) = true := by simp; omega
            have j1 : decide (0 < i) = true := by simp; omega
            have hw1 : IntKind.i64.wrap ((i : Int) - 1) = ((i - 1 : Nat) : Int) := by rw [IntWalk.i64_in _ (by omega)]; omega
            have hw2 : (0 : Int) ≤ ((i - 1 : Nat) : Int) := by omega
            have hw3 : ((i - 1 : Nat) : Int) < (L : Int) := by omega
            have hw4 : i - 1 < L := by omega
            clear hpc' hr hil1 hpb'
            cases hl : Op.bytesLess r.toList t.toList with
            | true =>
              have HR2 : Hid (∀ j, j < i + 1 → FldAt x.ns j) := Lib.hid (fun j hj => by
                by_cases e : j = i
                · rw [e]; exact HRI2.out.2 ⟨hbt, .inr hl⟩
                · exact HRI.out j (by omega))
              clear hbt hil
              go_wp2_with fail
              go_quiet ((go_at_call 85; exact quiet_left (HFT.out _)))
              go_wp2
              exact ⟨⟨i + 1, k' + nq, by go_num, by omega, HR2, Lib.hid (by rw [HK.out, World.drewN_drewN])⟩, by simp [intOf]; omega⟩
            | false =>
              have hff : fieldsB x.ns = false := fieldsB_false hil (fun h => by
                rcases (HRI2.out.1 h).2 with h' | h'
                · exact h0 h'
                · rw [hl] at h'; cases h')
              have HF : Hid (R = false) := Lib.hid (by rw [HE6.out, hff]; rfl)
              clear hff
              clear hbt hil
              go_wp2_with fail
              go_quiet ((go_at_call 85; exact quiet_left (HFT.out _)))
              go_wp2
              go_ret
              exact ⟨by rw [HF.out]; rfl, below_drewN (HBW.out.trans (HBR.out.mono HBW.out.size)) _⟩
      · have HE7 : Hid (R = Exp.rightAll x.xs (13 - far + 1)) := Lib.hid (by rw [HE6.out, fieldsB_true (fun j hj => HRI.out j (by rw [← HL.out] at hj; omega))]; rfl)
        have t1 : decide ((i : Int) < (L : Int)) = false := by simp; omega
        have hfw : IntKind.i64.wrap ((far : Int) - 1) = ((far - 1 : Nat) : Int) := by rw [IntWalk.i64_in _ (by omega)]; omega
        have hfi : (far : Int) - 1 = ((far - 1 : Nat) : Int) := by omega
        clear HE6 HRI HK
        go_wp2_with fail
        go_loopw [7] (fun iv wx => ∃ j : Nat, iv = .int .i64 (j : Int) ∧ j ≤ M ∧ Hid (Exp.rightAll (x.xs.drop j) (13 - far + 1) = R) ∧ Hid (Below W.heap.size W wx)) (fun iv _ => M - (intOf iv).toNat)
        case atStart => exact ⟨0, rfl, by omega, Lib.hid (by rw [HE7.out]; rfl), HBR⟩
        case round =>
          obtain ⟨j, rfl, hj, HRJ, HB⟩ := hrel
          have hb := HB0.out.below HB.out HB0.out.lt
          clear c8 c9
          have c9 := hb.cell 9
          simp only [List.getElem?_toArray, List.getElem?_cons_zero, List.getElem?_cons_succ] at c9
          clear hb
          by_cases hlt2 : j < M
          · have hil : j < x.xs.length := by rw [← HM.out]; exact hlt2
            obtain ⟨xb, xo, rfl, hpx0, hlc⟩ := HX.out j hil
            rw [← HM.out] at hlc
            have hdr := xrightAll_drop (deep := 13 - far + 1) hil
            rw [HRJ.out] at hdr
            obtain ⟨y, hy⟩ : ∃ y, y = x.xs[j]'hil := ⟨_, rfl⟩
            have hys := HMM.out (x.xs[j]'hil) (by simp)
            rw [← hy] at hdr hpx0 hys
            have hpx := hpx0.below HB.out
            have hc := HIH.out y (far - 1) wr hys (by omega) hpx.in
            rw [show 13 - (far - 1) = 13 - far + 1 from by omega] at hc
            obtain ⟨r8, t8, g8⟩ := hpx.in.nslice
            obtain ⟨r9, t9, g9⟩ := hpx.in.xslice
            obtain ⟨r6, t6, g6⟩ := hpx.in.val.nslice
            obtain ⟨r7, t7, g7⟩ := hpx.in.val.xslice
            have d0 := hpx.c0; have d1 := hpx.c1; have d2 := hpx.c2; have d3 := hpx.c3; have d4 := hpx.c4; have d5 := hpx.c5; have d6 := hpx.c6; have d7 := hpx.c7; have d8 := hpx.c8; have d9 := hpx.c9
            rw [g6] at d6; rw [g7] at d7; rw [g8] at d8; rw [g9] at d9
            unfold Exp.agg at hc
            rw [g6, g7, g8, g9] at hc
            obtain ⟨YB, hYB⟩ : ∃ YB, YB = y.rightB (13 - far + 1) := ⟨_, rfl⟩
            rw [← hYB] at hc hdr
            have hk0 : (0 : Int) ≤ (j : Int) := by omega
            have hk1 : (j : Int) < (M : Int) := by omega
            have HC := Lib.hid hc; have HDR := Lib.hid hdr
            have hbx := hpx.2.1
            clear hc hdr hy hys hpx hpx0 hYB hil g6 g7 g8 g9
            go_wp2_with fail
            refine HC.out.mono ?_
            rintro e w6 ⟨rfl, hb6⟩
            have HB7 := Lib.hid (HB.out.trans (hb6.mono HB.out.size))
            clear hb6 c9 d0 d1 d2 d3 d4 d5 d6 d7 d8 d9
            cases YB with
            | false =>
              go_wp2
              go_ret
              exact ⟨by rw [HDR.out]; rfl, HBW.out.trans (HB7.out.mono HBW.out.size)⟩
            | true =>
              go_wp2
              go_roundw
              case rel => exact ⟨j + 1, by go_num, by omega, Lib.hid (by rw [HDR.out]; rfl), HB7⟩
              case measure => simp [intOf]; omega
          · have HT : Hid (R = true) := Lib.hid (by
              rw [← HRJ.out, List.drop_eq_nil_of_le (by rw [← HM.out]; omega)]
              rfl)
            go_wp2
            go_ret
            exact ⟨by rw [HT.out]; rfl, HBW.out.trans (HB.out.mono HBW.out.size)⟩
theorem rxright_any : ∀ (d : Nat) (x : Exp) (far : Nat) (w : World), x.sz ≤ d → far ≤ 12 → x.In w → Calls Tryz.prog 53 #[x.agg, .int .i64 far] w fun e w' => BoolBelow (x.rightB (13 - far)) w e w'
  | 0, x, far, w, hd, _, _ => by rw [Exp.sz_eq] at hd; omega
  | d + 1, x, far, w, hd, hf, h => rxright_step d (fun x far w h1 h2 h3 => rxright_any d x far w h1 h2 h3) x far w hd hf h
end Go.Proofs.YtjpdbhhjlnmacaaGreat

/- basculeref08.Right and Small of any expression. -/
namespace Go.Proofs.YtjpdbhhjlnmacaaGreat
set_option linter.unusedVariables false
open Go.RowKit

set_option maxHeartbeats 1000000 in
set_option maxRecDepth 100000 in
theorem rxrightf_any (x : Exp) (w : World) (h : x.In w) : Calls Tryz.prog 33 #[x.agg] w fun e w' => BoolBelow x.RightB w e w' := by
  obtain ⟨W, hW⟩ : ∃ W, W = w.alloc (.cells x.cells.toArray 29) := ⟨_, rfl⟩
  have hBW : Below w.heap.size w W := by rw [hW]; exact (Below.refl _ w).alloc (Nat.le_refl _) _
  have hb0 : Blk W w.heap.size 29 x.cells.toArray := by rw [hW]; exact Blk.new w 29 _
  have hIn := h.below hBW
  have hc := xrparts_any x W hIn
  have hr := fun (W' : World) (hb : Below W.heap.size W W') => rxright_any x.sz x 12 W' (Nat.le_refl _) (by omega) (hIn.below hb)
  obtain ⟨p8, q8, e8⟩ := h.nslice
  obtain ⟨p9, q9, e9⟩ := h.xslice
  obtain ⟨p6, q6, e6⟩ := h.val.nslice
  obtain ⟨p7, q7, e7⟩ := h.val.xslice
  unfold Exp.cells at hW hb0
  unfold Exp.agg at hc hr ⊢
  rw [e6, e7, e8, e9] at hW hc hr hb0 ⊢
  have hE : x.RightB = (decide (x.count 0 ≤ 200) && x.rightB 1) := rfl
  obtain ⟨R, hR⟩ : ∃ R, R = x.RightB := ⟨_, rfl⟩
  obtain ⟨C, hC⟩ : ∃ C, C = x.count 0 := ⟨_, rfl⟩
  obtain ⟨Q, hQ⟩ : ∃ Q, Q = x.rightB 1 := ⟨_, rfl⟩
  rw [← hR, ← hC, ← hQ] at hE
  rw [← hR]
  rw [← hC] at hc
  simp only [show 13 - 12 = 1 from rfl, ← hQ] at hr
  have c0 := hb0.cell 0; have c1 := hb0.cell 1; have c2 := hb0.cell 2; have c3 := hb0.cell 3; have c4 := hb0.cell 4; have c5 := hb0.cell 5; have c6 := hb0.cell 6; have c7 := hb0.cell 7; have c8 := hb0.cell 8; have c9 := hb0.cell 9
  simp only [List.getElem?_toArray, List.getElem?_cons_zero, List.getElem?_cons_succ] at c0 c1 c2 c3 c4 c5 c6 c7 c8 c9
  have HW := Lib.hid hW; have HBW := Lib.hid hBW; have HC := Lib.hid hc; have HR := Lib.hid hr; have HE := Lib.hid hE; have HB0 := Lib.hid hb0
  clear hW hBW hc hr hE hR hC hQ e6 e7 e8 e9 h hIn hb0
  by_cases h200 : C ≤ 200
  · have i1 : decide ((C : Int) ≤ 200) = true := by simp; omega
    rw [decide_eq_true h200] at HE
    clear h200
    go_enter Tryz.func33, Tryz.ntmps33
    go_wp2_with fail
    rw [← HW.out]
    go_wp2_with fail
    refine HC.out.mono ?_
    rintro e w1 ⟨rfl, hb⟩
    have HR1 := Lib.hid (HR.out w1 hb)
    have HB1 := Lib.hid (HBW.out.trans (hb.mono HBW.out.size))
    have hbx := HB0.out.below hb HB0.out.lt
    clear c0 c1 c2 c3 c4 c5 c6 c7 c8 c9
    have c0 := hbx.cell 0; have c1 := hbx.cell 1; have c2 := hbx.cell 2; have c3 := hbx.cell 3; have c4 := hbx.cell 4; have c5 := hbx.cell 5; have c6 := hbx.cell 6; have c7 := hbx.cell 7; have c8 := hbx.cell 8; have c9 := hbx.cell 9
    simp only [List.getElem?_toArray, List.getElem?_cons_zero, List.getElem?_cons_succ] at c0 c1 c2 c3 c4 c5 c6 c7 c8 c9
    clear hb hbx
    go_wp2_with fail
    refine HR1.out.mono ?_
    rintro e w2 ⟨rfl, hb2⟩
    have HB2 := Lib.hid (HB1.out.trans (hb2.mono HB1.out.size))
    clear hb2
    go_wp2
    go_ret
    exact ⟨by rw [HE.out]; simp, HB2.out⟩
  · have i1 : decide ((C : Int) ≤ 200) = false := by simp; omega
    rw [decide_eq_false h200] at HE
    clear h200
    go_enter Tryz.func33, Tryz.ntmps33
    go_wp2_with fail
    rw [← HW.out]
    go_wp2_with fail
    refine HC.out.mono ?_
    rintro e w1 ⟨rfl, hb⟩
    have HB1 := Lib.hid (HBW.out.trans (hb.mono HBW.out.size))
    clear hb
    go_wp2
    go_ret
    exact ⟨by rw [HE.out]; simp, HB1.out⟩

mutual
def Exp.smallB : Exp → Bool
  | .mk k s v na ns xa xs => decide ((Exp.mk k s v na ns xa xs).depth 40 ≤ 30) && decide ((Exp.mk k s v na ns xa xs).count 0 < 500) && v.smallB && Exp.smallAll xs
def Exp.smallAll : List Exp → Bool
  | [] => true
  | x :: xs => x.smallB && Exp.smallAll xs
end
theorem Exp.smallB_eq (x : Exp) : x.smallB = (decide (x.depth 40 ≤ 30) && decide (x.count 0 < 500) && x.v.smallB && Exp.smallAll x.xs) := by
  cases x
  simp only [Exp.smallB, Exp.v, Exp.xs]
theorem xsmallAll_drop {xs : List Exp} {i : Nat} (h : i < xs.length) : Exp.smallAll (xs.drop i) = ((xs[i]'h).smallB && Exp.smallAll (xs.drop (i + 1))) := by
  rw [List.drop_eq_getElem_cons h]
  simp only [Exp.smallAll]

set_option maxHeartbeats 8000000 in
set_option maxRecDepth 100000 in
theorem xsmall_step (d : Nat) (ih : ∀ (x : Exp) (w : World), x.sz ≤ d → x.In w → Calls Tryz.prog 9 #[x.agg] w fun e w' => BoolBelow x.smallB w e w')
    (x : Exp) (w : World) (hd : x.sz ≤ d + 1) (h : x.In w) : Calls Tryz.prog 9 #[x.agg] w fun e w' => BoolBelow x.smallB w e w' := by
  obtain ⟨W, hW⟩ : ∃ W, W = w.alloc (.cells x.cells.toArray 29) := ⟨_, rfl⟩
  have hBW : Below w.heap.size w W := by rw [hW]; exact (Below.refl _ w).alloc (Nat.le_refl _) _
  have hb0 : Blk W w.heap.size 29 x.cells.toArray := by rw [hW]; exact Blk.new w 29 _
  have hIn := h.below hBW
  have hdp := xdepth_any x.sz x 40 W (Nat.le_refl _) (by omega) hIn
  have hpt := fun (W' : World) (hb : Below W.heap.size W W') => xrparts_any x W' (hIn.below hb)
  have hvs := fun (W' : World) (hb : Below W.heap.size W W') => small_any x.v W' (hIn.val.below hb)
  obtain ⟨p8, q8, e8⟩ := h.nslice
  obtain ⟨p9, q9, e9, hx⟩ := xitems_at hIn
  obtain ⟨p6, q6, e6⟩ := h.val.nslice
  obtain ⟨p7, q7, e7⟩ := h.val.xslice
  have hdl := Exp.depth_le 40 x
  have hcl := Exp.count_le x.sz x 0 (Nat.le_refl _) (by omega)
  have hxl := h.ok.2.2.2.1
  unfold Exp.cells at hW hb0
  unfold Exp.agg at hdp hpt ⊢
  unfold Val.agg at hvs
  rw [e6, e7] at hvs
  rw [e6, e7, e8, e9] at hW hdp hpt hb0 ⊢
  have hE := Exp.smallB_eq x
  obtain ⟨R, hR⟩ : ∃ R, R = x.smallB := ⟨_, rfl⟩
  obtain ⟨D, hD⟩ : ∃ D, D = x.depth 40 := ⟨_, rfl⟩
  obtain ⟨C, hC⟩ : ∃ C, C = x.count 0 := ⟨_, rfl⟩
  obtain ⟨V, hV⟩ : ∃ V, V = x.v.smallB := ⟨_, rfl⟩
  obtain ⟨M, hM⟩ : ∃ M, M = x.xs.length := ⟨_, rfl⟩
  rw [← hR, ← hD, ← hC, ← hV] at hE
  rw [← hR]
  rw [← hD] at hdp hdl
  rw [← hC] at hpt hcl
  rw [← hV] at hvs
  rw [← hM] at hW hb0 hdp hpt hxl ⊢
  obtain ⟨hcl1, hcl2⟩ := hcl
  have c0 := hb0.cell 0; have c1 := hb0.cell 1; have c2 := hb0.cell 2; have c3 := hb0.cell 3; have c4 := hb0.cell 4; have c5 := hb0.cell 5; have c6 := hb0.cell 6; have c7 := hb0.cell 7; have c8 := hb0.cell 8; have c9 := hb0.cell 9
  simp only [List.getElem?_toArray, List.getElem?_cons_zero, List.getElem?_cons_succ] at c0 c1 c2 c3 c4 c5 c6 c7 c8 c9
  have HW := Lib.hid hW; have HBW := Lib.hid hBW; have HDP := Lib.hid hdp; have HPT := Lib.hid hpt; have HVS := Lib.hid hvs; have HE := Lib.hid hE; have HB0 := Lib.hid hb0; have HX := Lib.hid hx; have HM := Lib.hid hM; have HIH := Lib.hid ih
  have HMM := Lib.hid (show ∀ y, y ∈ x.xs → y.sz ≤ d from fun y hy => by have := Exp.size_mem hy; omega)
  clear hW hBW hdp hpt hvs hE hR hD hC hV hM hx ih hd e6 e7 e8 e9 h hIn hb0
  by_cases hd30 : D ≤ 30
  case neg =>
    have HR : Hid (R = false) := Lib.hid (by rw [HE.out, decide_eq_false hd30]; rfl)
    have i1 : decide ((30 : Int) < (D : Int)) = true := by simp; omega
    clear hd30
    go_enter Tryz.func9, Tryz.ntmps9
    go_wp2_with fail
    rw [← HW.out]
    go_wp2_with fail
    refine HDP.out.mono ?_
    rintro e w1 ⟨rfl, hb⟩
    have HB1 := Lib.hid (HBW.out.trans (hb.mono HBW.out.size))
    clear hb
    go_wp2
    go_ret
    exact ⟨by rw [HR.out]; rfl, HB1.out⟩
  have i1 : decide ((30 : Int) < (D : Int)) = false := by simp; omega
  rw [decide_eq_true hd30] at HE
  clear hd30
  go_enter Tryz.func9, Tryz.ntmps9
  go_wp2_with fail
  rw [← HW.out]
  go_wp2_with fail
  refine HDP.out.mono ?_
  rintro e w1 ⟨rfl, hb⟩
  have HP1 := Lib.hid (HPT.out w1 hb)
  have HB1 := Lib.hid hb
  have hbx := HB0.out.below hb HB0.out.lt
  clear c0 c1 c2 c3 c4 c5 c6 c7 c8 c9
  have c0 := hbx.cell 0; have c1 := hbx.cell 1; have c2 := hbx.cell 2; have c3 := hbx.cell 3; have c4 := hbx.cell 4; have c5 := hbx.cell 5; have c6 := hbx.cell 6; have c7 := hbx.cell 7; have c8 := hbx.cell 8; have c9 := hbx.cell 9
  simp only [List.getElem?_toArray, List.getElem?_cons_zero, List.getElem?_cons_succ] at c0 c1 c2 c3 c4 c5 c6 c7 c8 c9
  clear hb hbx
  go_wp2_with fail
  refine HP1.out.mono ?_
  rintro e w2 ⟨rfl, hb⟩
  have HB2 := Lib.hid (HB1.out.trans (hb.mono HB1.out.size))
  clear hb
  by_cases hc5 : C < 500
  case neg =>
    have HR : Hid (R = false) := Lib.hid (by rw [HE.out, decide_eq_false hc5]; rfl)
    have i2 : decide ((500 : Int) ≤ (C : Int)) = true := by simp; omega
    clear hc5 c0 c1 c2 c3 c4 c5 c6 c7 c8 c9
    go_wp2
    go_ret
    exact ⟨by rw [HR.out]; rfl, HBW.out.trans (HB2.out.mono HBW.out.size)⟩
  have i2 : decide ((500 : Int) ≤ (C : Int)) = false := by simp; omega
  rw [decide_eq_true hc5] at HE
  have HV2 := Lib.hid (HVS.out w2 HB2.out)
  have hbx := HB0.out.below HB2.out HB0.out.lt
  clear c0 c1 c2 c3 c4 c5 c6 c7 c8 c9 hc5
  have c2 := hbx.cell 2; have c3 := hbx.cell 3; have c4 := hbx.cell 4; have c5 := hbx.cell 5; have c6 := hbx.cell 6; have c7 := hbx.cell 7
  simp only [List.getElem?_toArray, List.getElem?_cons_zero, List.getElem?_cons_succ] at c2 c3 c4 c5 c6 c7
  clear hbx
  go_wp2_with fail
  refine HV2.out.mono ?_
  rintro e w3 ⟨rfl, hb⟩
  have HB3 := Lib.hid (HB2.out.trans (hb.mono HB2.out.size))
  clear hb c2 c3 c4 c5 c6 c7
  cases V with
  | false =>
    have HR : Hid (R = false) := Lib.hid (by rw [HE.out]; rfl)
    go_wp2
    go_ret
    exact ⟨by rw [HR.out]; rfl, HBW.out.trans (HB3.out.mono HBW.out.size)⟩
  | true =>
    have HE2 : Hid (R = Exp.smallAll x.xs) := Lib.hid (by rw [HE.out]; simp)
    go_wp2_with fail
    go_loopw [3] (fun iv wr => ∃ j : Nat, iv = .int .i64 (j : Int) ∧ j ≤ M ∧ Hid (Exp.smallAll (x.xs.drop j) = R) ∧ Hid (Below W.heap.size W wr)) (fun iv _ => M - (intOf iv).toNat)
    case atStart => exact ⟨0, rfl, by omega, Lib.hid (by rw [HE2.out]; rfl), HB3⟩
    case round =>
      obtain ⟨j, rfl, hj, HRJ, HB⟩ := hrel
      have hb := HB0.out.below HB.out HB0.out.lt
      have c9 := hb.cell 9
      simp only [List.getElem?_toArray, List.getElem?_cons_zero, List.getElem?_cons_succ] at c9
      clear hb
      by_cases hlt2 : j < M
      · have hil : j < x.xs.length := by rw [← HM.out]; exact hlt2
        obtain ⟨xb, xo, rfl, hpx0, hlc⟩ := HX.out j hil
        rw [← HM.out] at hlc
        have hdr := xsmallAll_drop hil
        rw [HRJ.out] at hdr
        obtain ⟨y, hy⟩ : ∃ y, y = x.xs[j]'hil := ⟨_, rfl⟩
        have hys := HMM.out (x.xs[j]'hil) (by simp)
        rw [← hy] at hdr hpx0 hys
        have hpx := hpx0.below HB.out
        have hc := HIH.out y wr hys hpx.in
        obtain ⟨r8, t8, g8⟩ := hpx.in.nslice
        obtain ⟨r9, t9, g9⟩ := hpx.in.xslice
        obtain ⟨r6, t6, g6⟩ := hpx.in.val.nslice
        obtain ⟨r7, t7, g7⟩ := hpx.in.val.xslice
        have d0 := hpx.c0; have d1 := hpx.c1; have d2 := hpx.c2; have d3 := hpx.c3; have d4 := hpx.c4; have d5 := hpx.c5; have d6 := hpx.c6; have d7 := hpx.c7; have d8 := hpx.c8; have d9 := hpx.c9
        rw [g6] at d6; rw [g7] at d7; rw [g8] at d8; rw [g9] at d9
        unfold Exp.agg at hc
        rw [g6, g7, g8, g9] at hc
        obtain ⟨YB, hYB⟩ : ∃ YB, YB = y.smallB := ⟨_, rfl⟩
        rw [← hYB] at hc hdr
        have hk0 : (0 : Int) ≤ (j : Int) := by omega
        have hk1 : (j : Int) < (M : Int) := by omega
        have HC := Lib.hid hc; have HDR := Lib.hid hdr
        have hbx := hpx.2.1
        clear hc hdr hy hys hpx hpx0 hYB hil g6 g7 g8 g9
        go_wp2_with fail
        refine HC.out.mono ?_
        rintro e w6 ⟨rfl, hb6⟩
        have HB7 := Lib.hid (HB.out.trans (hb6.mono HB.out.size))
        clear hb6 c9 d0 d1 d2 d3 d4 d5 d6 d7 d8 d9
        cases YB with
        | false =>
          go_wp2
          go_ret
          exact ⟨by rw [HDR.out]; rfl, HBW.out.trans (HB7.out.mono HBW.out.size)⟩
        | true =>
          go_wp2
          go_roundw
          case rel => exact ⟨j + 1, by go_num, by omega, Lib.hid (by rw [HDR.out]; rfl), HB7⟩
          case measure => simp [intOf]; omega
      · have HT : Hid (R = true) := Lib.hid (by
          rw [← HRJ.out, List.drop_eq_nil_of_le (by rw [← HM.out]; omega)]
          rfl)
        go_wp2
        go_ret
        exact ⟨by rw [HT.out]; rfl, HBW.out.trans (HB.out.mono HBW.out.size)⟩
theorem xsmall_any : ∀ (d : Nat) (x : Exp) (w : World), x.sz ≤ d → x.In w → Calls Tryz.prog 9 #[x.agg] w fun e w' => BoolBelow x.smallB w e w'
  | 0, x, w, hd, _ => by rw [Exp.sz_eq] at hd; omega
  | d + 1, x, w, hd, h => xsmall_step d (fun x w h1 h2 => xsmall_any d x w h1 h2) x w hd h
end Go.Proofs.YtjpdbhhjlnmacaaGreat
