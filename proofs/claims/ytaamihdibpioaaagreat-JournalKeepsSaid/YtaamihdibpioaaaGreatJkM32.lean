/- parse.Right of any expression. -/
import Derived.Test.YtaamihdibpioaaaGreatJkM23
import Derived.Test.YtaamihdibpioaaaGreatJkM31
import Derived.Deep.DeepCutAuto
namespace Go.Proofs.YtaamihdibpioaaaGreat
set_option linter.unusedVariables false
open Go.RowKit

/-- Is a part as its kind wants it, its kids apart? -/
def nodeP (k : Int) (s : ByteArray) (v : Val) (ns : List ByteArray) (L : Nat) : Bool :=
  decide (wantsP k ≠ -2) && (decide (wantsP k < 0) || decide ((L : Int) = wantsP k)) && namedP k s ns L && (if k = 1 then v.constB else v.noneB)
mutual
def Exp.rightB : Exp → Nat → Bool
  | .mk k s v _ ns _ xs, deep => !decide (12 < deep) && nodeP k s v ns xs.length && Exp.rightAll xs (deep + 1)
def Exp.rightAll : List Exp → Nat → Bool
  | [], _ => true
  | x :: xs, deep => x.rightB deep && Exp.rightAll xs deep
end
theorem Exp.rightB_eq (x : Exp) (deep : Nat) : x.rightB deep = (!decide (12 < deep) && nodeP x.k x.s x.v x.ns x.xs.length && Exp.rightAll x.xs (deep + 1)) := by
  cases x
  simp only [Exp.rightB, Exp.k, Exp.s, Exp.v, Exp.ns, Exp.xs]
theorem xrightAll_drop {xs : List Exp} {i deep : Nat} (h : i < xs.length) : Exp.rightAll (xs.drop i) deep = ((xs[i]'h).rightB deep && Exp.rightAll (xs.drop (i + 1)) deep) := by
  rw [List.drop_eq_getElem_cons h]
  simp only [Exp.rightAll]
def Exp.RightB (x : Exp) : Bool := decide (x.count 0 ≤ 200) && x.rightB 1

set_option maxHeartbeats 8000000 in
set_option maxRecDepth 100000 in
theorem xright_step (d : Nat) (ih : ∀ (x : Exp) (b o deep : Nat) (w : World), x.sz ≤ d → deep ≤ 13 → PExp w b o x → Calls Tryz.prog 121 #[.pointer (some ⟨b, o, none⟩), .int .i64 deep] w fun e w' => BoolBelow (x.rightB deep) w e w')
    (x : Exp) (b o deep : Nat) (w : World) (hd : x.sz ≤ d + 1) (hdeep : deep ≤ 13) (h : PExp w b o x) : Calls Tryz.prog 121 #[.pointer (some ⟨b, o, none⟩), .int .i64 deep] w fun e w' => BoolBelow (x.rightB deep) w e w' := by
  have hE := Exp.rightB_eq x deep
  have hkd := fun W => kids_any x.k W
  have hnm := named_any x b o w h
  have hcn := fun (W : World) (hb : Below w.heap.size w W) => const_any x.v W (h.in.val.below hb)
  have hno := fun (W : World) (hb : Below w.heap.size w W) => nothing_any x.v b (o + 2) W (h.val.below hb)
  obtain ⟨p8, q8, e8⟩ := h.in.nslice
  obtain ⟨p9, q9, e9, hx⟩ := xitems_at h.in
  obtain ⟨p6, q6, e6⟩ := h.in.val.nslice
  obtain ⟨p7, q7, e7⟩ := h.in.val.xslice
  have c0 := h.c0; have c1 := h.c1; have c2 := h.c2; have c3 := h.c3; have c4 := h.c4; have c5 := h.c5; have c6 := h.c6; have c7 := h.c7; have c8 := h.c8; have c9 := h.c9
  rw [e8] at c8
  rw [e9] at c9
  rw [e6] at c6
  rw [e7] at c7
  unfold Val.agg at hcn
  rw [e6, e7] at hcn
  have hlt := h.2.1
  have hxl := h.in.ok.2.2.2.1
  obtain ⟨R, hR⟩ : ∃ R, R = x.rightB deep := ⟨_, rfl⟩
  rw [← hR] at hE ⊢
  obtain ⟨L, hL⟩ : ∃ L, L = x.xs.length := ⟨_, rfl⟩
  rw [← hL] at hE hnm c9 hxl
  obtain ⟨k, hk⟩ : ∃ k, k = x.k := ⟨_, rfl⟩
  rw [← hk] at hE hkd hnm c0
  obtain ⟨NM, hNM⟩ : ∃ NM, NM = namedP k x.s x.ns L := ⟨_, rfl⟩
  obtain ⟨CB, hCB⟩ : ∃ CB, CB = x.v.constB := ⟨_, rfl⟩
  obtain ⟨NB, hNB⟩ : ∃ NB, NB = x.v.noneB := ⟨_, rfl⟩
  obtain ⟨n, hn⟩ : ∃ n, n = wantsP k := ⟨_, rfl⟩
  unfold nodeP at hE
  rw [← hNM] at hE hnm
  rw [← hCB] at hE hcn
  rw [← hNB] at hE hno
  rw [← hn] at hE hkd
  have hnr : -2 ≤ n ∧ n ≤ 3 := by rw [hn]; unfold wantsP; repeat' split
                                  all_goals omega
  obtain ⟨hn1, hn2⟩ := hnr
  have HE := Lib.hid hE; have HKD := Lib.hid hkd; have HNM := Lib.hid hnm; have HCN := Lib.hid hcn; have HNO := Lib.hid hno; have HX := Lib.hid hx; have HL := Lib.hid hL; have HIH := Lib.hid ih
  have HM := Lib.hid (show ∀ y, y ∈ x.xs → y.sz ≤ d from fun y hy => by have := Exp.size_mem hy; omega)
  have HC0 := Lib.hid c0; have HC9 := Lib.hid c9
  have hdw : IntKind.i64.wrap ((deep : Int) + 1) = (deep : Int) + 1 := IntWalk.i64_in _ (by omega)
  clear hE hkd hnm hcn hno hx hL hR hk hNM hCB hNB hn ih hd h e6 e7 e8 e9 c1 c8
  by_cases h12 : 12 < deep
  · have HR : Hid (R = false) := Lib.hid (by rw [HE.out, decide_eq_true h12]; rfl)
    have i1 : decide ((12 : Int) < (deep : Int)) = true := by simp; omega
    clear h12
    go_enter Tryz.func121, Tryz.ntmps121
    go_wp2_with fail
    refine (HKD.out _).mono ?_
    rintro e w1 ⟨rfl, rfl⟩
    go_wp2
    go_ret
    exact ⟨by rw [HR.out]; rfl, Below.refl _ _⟩
  have i1 : decide ((12 : Int) < (deep : Int)) = false := by simp; omega
  rw [decide_eq_false h12] at HE
  by_cases hm2 : n = -2
  · have HR : Hid (R = false) := Lib.hid (by rw [HE.out, hm2]; rfl)
    subst hm2
    clear h12
    go_enter Tryz.func121, Tryz.ntmps121
    go_wp2_with fail
    refine (HKD.out _).mono ?_
    rintro e w1 ⟨rfl, rfl⟩
    go_wp2
    go_ret
    exact ⟨by rw [HR.out]; rfl, Below.refl _ _⟩
  have i2 : (n == -2) = false := by simpa using hm2
  rw [decide_eq_true (show n ≠ -2 from hm2)] at HE
  by_cases hnl : 0 ≤ n ∧ (L : Int) ≠ n
  · have HR : Hid (R = false) := Lib.hid (by rw [HE.out, decide_eq_false (show ¬ n < 0 by omega), decide_eq_false hnl.2]; simp)
    have i3 : decide (0 ≤ n) = true := by simpa using hnl.1
    have i4 : ((L : Int) != n) = true := by simpa using hnl.2
    clear h12 hm2 hnl
    go_enter Tryz.func121, Tryz.ntmps121
    go_wp2_with fail
    refine (HKD.out _).mono ?_
    rintro e w1 ⟨rfl, rfl⟩
    go_wp2
    go_ret
    exact ⟨by rw [HR.out]; rfl, Below.refl _ _⟩
  have HE2 : Hid (R = (NM && (if k = 1 then CB else NB) && Exp.rightAll x.xs (deep + 1))) := Lib.hid (by
    rw [HE.out]
    have : (decide (n < 0) || decide ((L : Int) = n)) = true := by
      by_cases h0 : n < 0
      · simp [h0]
      · have : (L : Int) = n := by omega
        simp [this]
    rw [this]
    simp)
  have hsplit : ((decide (0 ≤ n) = true ∧ ((L : Int) != n) = false) ∨ decide (0 ≤ n) = false) := by
    by_cases h0 : 0 ≤ n
    · exact .inl ⟨by simpa using h0, by have : (L : Int) = n := by omega
                                        simpa using this⟩
    · exact .inr (by simpa using h0)
  have hd12 : deep ≤ 12 := by omega
  clear h12 hm2 hnl HE
  go_enter Tryz.func121, Tryz.ntmps121
  go_wp2_with fail
  refine (HKD.out _).mono ?_
  rintro e w1 ⟨rfl, rfl⟩
  go_upto_region 2 with fail
  go_cut [35] (fun sv wx => sv = .bool (!NM) ∧ Below w.heap.size w wx)
  case first =>
    rcases hsplit with ⟨i3, i4⟩ | i3
    all_goals
      go_wp2_with fail
      refine HNM.out.mono ?_
      rintro e w2 ⟨rfl, hb⟩
      have HB := Lib.hid hb
      clear hb
      go_wp2
      go_meet
      exact ⟨rfl, HB.out⟩
  case rest =>
  obtain ⟨rfl, hb2⟩ := hcut
  clear hsplit
  cases NM with
  | false =>
    have HR : Hid (R = false) := Lib.hid (by rw [HE2.out]; rfl)
    go_wp2
    go_ret
    exact ⟨by rw [HR.out]; rfl, hb2⟩
  | true =>
    have HB2 := Lib.hid hb2
    have d0 := (hb2.cell (p := ⟨b, o, none⟩) hlt).trans c0
    have d2 := (hb2.cell (p := ⟨b, o + 2, none⟩) hlt).trans c2; have d3 := (hb2.cell (p := ⟨b, o + 3, none⟩) hlt).trans c3; have d4 := (hb2.cell (p := ⟨b, o + 4, none⟩) hlt).trans c4
    have d5 := (hb2.cell (p := ⟨b, o + 5, none⟩) hlt).trans c5; have d6 := (hb2.cell (p := ⟨b, o + 6, none⟩) hlt).trans c6; have d7 := (hb2.cell (p := ⟨b, o + 7, none⟩) hlt).trans c7
    have HC := Lib.hid (HCN.out _ hb2)
    have HN := Lib.hid (HNO.out _ hb2)
    clear hb2 c0 c2 c3 c4 c5 c6 c7 c9
    simp only [Bool.not_true]
    obtain ⟨TB, hTB⟩ : ∃ TB, TB = (if k = 1 then CB else NB) := ⟨_, rfl⟩
    rw [← hTB] at HE2
    have HTB := Lib.hid hTB
    clear hTB
    go_upto_region 4 with fail
    go_cut [62] (fun sv wx => sv = .bool (!TB) ∧ Below w.heap.size w wx)
    case first =>
      by_cases hk1 : k = 1
      · subst hk1
        have ht : TB = CB := by rw [HTB.out, if_pos rfl]
        subst ht
        go_wp2_with fail
        refine HC.out.mono ?_
        rintro e w3 ⟨rfl, hb⟩
        have HB3 := Lib.hid (HB2.out.trans (hb.mono HB2.out.size))
        have d0' := (HB3.out.cell (p := ⟨b, o, none⟩) hlt).trans HC0.out
        clear hb
        cases TB with
        | false =>
          go_wp2
          go_meet
          exact ⟨rfl, HB3.out⟩
        | true =>
          go_wp2
          go_meet
          exact ⟨rfl, HB3.out⟩
      · have k1 : (k == 1) = false := by simpa using hk1
        have k2 : (k != 1) = true := by simpa using hk1
        have ht : TB = NB := by rw [HTB.out, if_neg hk1]
        subst ht
        clear hk1
        go_wp2_with fail
        refine HN.out.mono ?_
        rintro e w3 ⟨rfl, rfl⟩
        go_wp2
        go_meet
        exact ⟨rfl, HB2.out⟩
    case rest =>
    obtain ⟨rfl, hb4⟩ := hcut
    clear HTB d0 d2 d3 d4 d5 d6 d7 HC HN
    cases TB with
    | false =>
      have HR : Hid (R = false) := Lib.hid (by rw [HE2.out]; rfl)
      go_wp2
      go_ret
      exact ⟨by rw [HR.out]; rfl, hb4⟩
    | true =>
      have HE3 : Hid (R = Exp.rightAll x.xs (deep + 1)) := Lib.hid (by rw [HE2.out]; simp)
      have HB4 := Lib.hid hb4
      have c9 := (hb4.cell (p := ⟨b, o + 9, none⟩) hlt).trans HC9.out
      clear hb4
      simp only [Bool.not_true]
      go_wp2_with fail
      clear c9
      go_loopw [68] (fun iv wr => ∃ i : Nat, iv = .int .i64 (i : Int) ∧ i ≤ L ∧ Hid (Exp.rightAll (x.xs.drop i) (deep + 1) = R) ∧ Hid (Below w.heap.size w wr)) (fun iv _ => L - (intOf iv).toNat)
      case atStart => exact ⟨0, rfl, by omega, Lib.hid (by rw [HE3.out]; rfl), HB4⟩
      case round =>
        obtain ⟨i, rfl, hi, HRI, HB⟩ := hrel
        have c9 := (HB.out.cell (p := ⟨b, o + 9, none⟩) hlt).trans HC9.out
        by_cases hlt2 : i < L
        · have hil : i < x.xs.length := by rw [← HL.out]; exact hlt2
          obtain ⟨xb, xo, rfl, hpx, hlc⟩ := HX.out i hil
          rw [← HL.out] at hlc
          have hdr := xrightAll_drop (deep := deep + 1) hil
          rw [HRI.out] at hdr
          obtain ⟨y, hy⟩ : ∃ y, y = x.xs[i]'hil := ⟨_, rfl⟩
          have hys := HM.out (x.xs[i]'hil) (by simp)
          rw [← hy] at hdr hpx hys
          have hc := HIH.out y xb (xo + i * 10) (deep + 1) wr hys (by omega) (hpx.below HB.out)
          have hbx := hpx.2.1
          obtain ⟨YB, hYB⟩ : ∃ YB, YB = y.rightB (deep + 1) := ⟨_, rfl⟩
          rw [← hYB] at hc hdr
          have hk0 : (0 : Int) ≤ (i : Int) := by omega
          have hk1 : (i : Int) < (L : Int) := by omega
          rw [show ((deep + 1 : Nat) : Int) = (deep : Int) + 1 from by omega] at hc
          have HC := Lib.hid hc; have HDR := Lib.hid hdr
          clear hc hdr hy hys hpx hYB hil
          go_wp2_with fail
          refine HC.out.mono ?_
          rintro e w6 ⟨rfl, hb6⟩
          have HB6 := Lib.hid (HB.out.trans (hb6.mono HB.out.size))
          clear hb6 c9
          cases YB with
          | false =>
            go_wp2
            go_ret
            exact ⟨by rw [HDR.out]; rfl, HB6.out⟩
          | true =>
            go_wp2
            go_roundw
            case rel => exact ⟨i + 1, by go_num, by omega, Lib.hid (by rw [HDR.out]; rfl), HB6⟩
            case measure => simp [intOf]; omega
        · have HT : Hid (R = true) := Lib.hid (by
            rw [← HRI.out, List.drop_eq_nil_of_le (by rw [← HL.out]; omega)]
            rfl)
          go_wp2
          go_ret
          exact ⟨by rw [HT.out]; rfl, HB.out⟩
theorem xright_any : ∀ (d : Nat) (x : Exp) (b o deep : Nat) (w : World), x.sz ≤ d → deep ≤ 13 → PExp w b o x → Calls Tryz.prog 121 #[.pointer (some ⟨b, o, none⟩), .int .i64 deep] w fun e w' => BoolBelow (x.rightB deep) w e w'
  | 0, x, b, o, deep, w, hd, _, _ => by rw [Exp.sz_eq] at hd; omega
  | d + 1, x, b, o, deep, w, hd, hdeep, hp => xright_step d (fun x b o deep w h1 h2 h3 => xright_any d x b o deep w h1 h2 h3) x b o deep w hd hdeep hp
set_option maxRecDepth 100000 in
theorem xparts_any (x : Exp) (w : World) (h : x.In w) : Calls Tryz.prog 120 #[x.agg] w fun e w' => IntBelow ((x.count 0 : Nat) : Int) w e w' := by
  obtain ⟨W, hW⟩ : ∃ W, W = w.alloc (.cells x.cells.toArray 169) := ⟨_, rfl⟩
  have hBW : Below w.heap.size w W := by rw [hW]; exact (Below.refl _ w).alloc (Nat.le_refl _) _
  have hp : PExp W w.heap.size 0 x := by rw [hW]; exact PExp.new w x 169 h
  have hc := xcounted_any x.sz x w.heap.size 0 0 W (Nat.le_refl _) (by omega) hp
  obtain ⟨p8, q8, e8⟩ := h.nslice
  obtain ⟨p9, q9, e9⟩ := h.xslice
  obtain ⟨p6, q6, e6⟩ := h.val.nslice
  obtain ⟨p7, q7, e7⟩ := h.val.xslice
  unfold Exp.cells at hW
  unfold Exp.agg
  rw [e6, e7, e8, e9] at hW ⊢
  have HW := Lib.hid hW; have HBW := Lib.hid hBW; have HC := Lib.hid hc
  clear hW hBW hp hc e6 e7 e8 e9 h
  go_enter Tryz.func120, Tryz.ntmps120
  go_wp2_with fail
  rw [← HW.out]
  refine HC.out.mono ?_
  rintro e w1 ⟨rfl, rfl⟩
  go_wp2
  go_ret
  exact ⟨rfl, HBW.out⟩
set_option maxHeartbeats 1000000 in
set_option maxRecDepth 100000 in
theorem xrightf_any (x : Exp) (w : World) (h : x.In w) : Calls Tryz.prog 99 #[x.agg] w fun e w' => BoolBelow x.RightB w e w' := by
  obtain ⟨W, hW⟩ : ∃ W, W = w.alloc (.cells x.cells.toArray 169) := ⟨_, rfl⟩
  have hBW : Below w.heap.size w W := by rw [hW]; exact (Below.refl _ w).alloc (Nat.le_refl _) _
  have hp : PExp W w.heap.size 0 x := by rw [hW]; exact PExp.new w x 169 h
  have hc := xparts_any x W hp.in
  have hr := fun (W' : World) (hb : Below W.heap.size W W') => xright_any x.sz x w.heap.size 0 1 W' (Nat.le_refl _) (by omega) (hp.below hb)
  obtain ⟨p8, q8, e8⟩ := h.nslice
  obtain ⟨p9, q9, e9⟩ := h.xslice
  obtain ⟨p6, q6, e6⟩ := h.val.nslice
  obtain ⟨p7, q7, e7⟩ := h.val.xslice
  have c0 := hp.c0; have c1 := hp.c1; have c2 := hp.c2; have c3 := hp.c3; have c4 := hp.c4; have c5 := hp.c5; have c6 := hp.c6; have c7 := hp.c7; have c8 := hp.c8; have c9 := hp.c9
  rw [e6] at c6
  rw [e7] at c7
  rw [e8] at c8
  rw [e9] at c9
  simp only [Nat.zero_add] at c0 c1 c2 c3 c4 c5 c6 c7 c8 c9
  unfold Exp.cells at hW
  unfold Exp.agg at hc ⊢
  rw [e6, e7, e8, e9] at hW hc ⊢
  have hE : x.RightB = (decide (x.count 0 ≤ 200) && x.rightB 1) := rfl
  obtain ⟨R, hR⟩ : ∃ R, R = x.RightB := ⟨_, rfl⟩
  obtain ⟨C, hC⟩ : ∃ C, C = x.count 0 := ⟨_, rfl⟩
  obtain ⟨Q, hQ⟩ : ∃ Q, Q = x.rightB 1 := ⟨_, rfl⟩
  rw [← hR, ← hC, ← hQ] at hE
  rw [← hR]
  rw [← hC] at hc
  rw [← hQ] at hr
  have HW := Lib.hid hW; have HBW := Lib.hid hBW; have HC := Lib.hid hc; have HR := Lib.hid hr; have HE := Lib.hid hE
  clear hW hBW hp hc hr hE hR hC hQ e6 e7 e8 e9 h
  by_cases h200 : C ≤ 200
  · have i1 : decide ((C : Int) ≤ 200) = true := by simp; omega
    rw [decide_eq_true h200] at HE
    clear h200
    go_enter Tryz.func99, Tryz.ntmps99
    go_wp2_with fail
    rw [← HW.out]
    go_wp2_with fail
    refine HC.out.mono ?_
    rintro e w1 ⟨rfl, hb⟩
    have HR1 := Lib.hid (HR.out w1 hb)
    have HB1 := Lib.hid (HBW.out.trans (hb.mono HBW.out.size))
    clear hb
    go_wp2_with fail
    refine HR1.out.mono ?_
    rintro e w2 ⟨rfl, hb2⟩
    have HB2 := Lib.hid (HB1.out.trans (hb2.mono HB1.out.size))
    clear hb2
    go_wp2
    go_ret
    exact ⟨by rw [HE.out]; simp, HB2.out⟩
  · have i1 : decide ((C : Int) ≤ 200) = false := by simp; omega
    rw [decide_eq_false h200] at HE
    clear h200
    go_enter Tryz.func99, Tryz.ntmps99
    go_wp2_with fail
    rw [← HW.out]
    go_wp2_with fail
    refine HC.out.mono ?_
    rintro e w1 ⟨rfl, hb⟩
    have HB1 := Lib.hid (HBW.out.trans (hb.mono HBW.out.size))
    clear hb
    go_wp2
    go_ret
    exact ⟨by rw [HE.out]; simp, HB1.out⟩
end Go.Proofs.YtaamihdibpioaaaGreat

/- basculeref08.right of any expression (printed by wip/gen_rexp.py). -/
namespace Go.Proofs.YtaamihdibpioaaaGreat
set_option linter.unusedVariables false
open Go.RowKit

end Go.Proofs.YtaamihdibpioaaaGreat
