/- May it be a constant of an expression? (printed by wip/gen_const.py) -/
import Derived.Test.YtaamihdibpioaaaGreatJkM10
import Derived.Test.YtaamihdibpioaaaGreatJkM26
import Derived.Test.YtaamihdibpioaaaGreatJkM30
import Derived.BigQuiet
namespace Go.Proofs.YtaamihdibpioaaaGreat
set_option linter.unusedVariables false
open Go.RowKit

theorem fneg_cases {f : Nat} (hf : f < 18446744073709551616) : (fnan f = true ∧ FloatKind.f64.format.order f 0 = none ∧ decide (ford f 0 < 0) = false) ∨
    (fnan f = false ∧ fneg f = true ∧ FloatKind.f64.format.order f 0 = some .lt) ∨
    (fnan f = false ∧ fneg f = true ∧ FloatKind.f64.format.order f 0 = some .eq ∧ decide (ford f 0 < 0) = true) ∨
    (fnan f = false ∧ fneg f = false ∧ (FloatKind.f64.format.order f 0 = some .eq ∨ FloatKind.f64.format.order f 0 = some .gt) ∧ decide (ford f 0 < 0) = false) := by
  have h00 : fsv 0 = 0 := by decide
  have hk0 : fkey 0 = 0 := by decide
  cases hn : fnan f with
  | true =>
    refine .inl ⟨rfl, ford_none (.inl hn), ?_⟩
    have : fkey f = 9223372036854775807 := by unfold fkey; rw [hn]; rfl
    unfold ford
    rw [this, hk0]
    decide
  | false =>
    have ho := ford_some (x := f) (y := 0) hn (by decide)
    rw [h00] at ho
    cases hg : fneg f with
    | true =>
      have hk : fkey f < 0 := by unfold fkey; rw [hn, hg]; simp only [Bool.false_eq_true, if_false, if_true]; omega
      have hd : decide (ford f 0 < 0) = true := by unfold ford; rw [hk0, if_pos hk]; decide
      by_cases h0 : fsv f = 0
      · exact .inr (.inr (.inl ⟨rfl, rfl, by rw [ho, h0]; simp, hd⟩))
      · have : fsv f < 0 := by
          unfold fsv at h0 ⊢
          rw [hg] at h0 ⊢
          simp only [if_true] at h0 ⊢
          omega
        exact .inr (.inl ⟨rfl, rfl, by rw [ho, Int.compare_eq_lt.2 this]⟩)
    | false =>
      have hk : ¬ fkey f < 0 := by unfold fkey; rw [hn, hg]; simp only [Bool.false_eq_true, if_false]; omega
      have hd : decide (ford f 0 < 0) = false := by
        unfold ford; rw [hk0, if_neg hk]
        split <;> decide
      refine .inr (.inr (.inr ⟨rfl, rfl, ?_, hd⟩))
      by_cases h0 : fsv f = 0
      · exact .inl (by rw [ho, h0]; simp)
      · have : 0 < fsv f := by
          unfold fsv at h0 ⊢
          rw [hg] at h0 ⊢
          simp only [Bool.false_eq_true, if_false] at h0 ⊢
          omega
        exact .inr (by rw [ho, Int.compare_eq_gt.2 this])

set_option maxHeartbeats 4000000 in
set_option maxRecDepth 100000 in
theorem const_any (v : Val) (w : World) (h : v.In w) : Calls Tryz.prog 142 #[v.agg] w fun e w' => BoolBelow v.constB w e w' := by
  obtain ⟨W, hW⟩ : ∃ W, W = w.alloc (.cells v.cells.toArray 37) := ⟨_, rfl⟩
  have hBW : Below w.heap.size w W := by rw [hW]; exact (Below.refl _ w).alloc (Nat.le_refl _) _
  have hb0 : Blk W w.heap.size 37 v.cells.toArray := by rw [hW]; exact Blk.new w 37 _
  have hr := fun (W' : World) (hb : Below W.heap.size W W') => rightf_any v W' ((h.below hBW).below hb)
  obtain ⟨p4, q4, e4⟩ := h.nslice
  obtain ⟨p5, q5, e5⟩ := h.xslice
  have hf := h.ok.2.2.1
  unfold Val.cells at hW hb0
  rw [e4, e5] at hW hb0
  unfold Val.agg at hr ⊢
  rw [e4, e5] at hr ⊢
  have c0 := hb0.cell 0; have c1 := hb0.cell 1; have c2 := hb0.cell 2; have c3 := hb0.cell 3; have c4 := hb0.cell 4; have c5 := hb0.cell 5
  simp only [List.getElem?_toArray, List.getElem?_cons_zero, List.getElem?_cons_succ] at c0 c1 c2 c3 c4 c5
  have hE : v.constB = (if v.k = 1 ∨ v.k = 4 then v.RightB else if v.k = 2 then decide (0 ≤ v.n) && v.RightB else if v.k = 3 then !(fneg v.f && !fnan v.f) && v.RightB else false) := rfl
  obtain ⟨C, hC⟩ : ∃ C, C = v.constB := ⟨_, rfl⟩
  obtain ⟨R, hR⟩ : ∃ R, R = v.RightB := ⟨_, rfl⟩
  obtain ⟨k, hk⟩ : ∃ k, k = v.k := ⟨_, rfl⟩
  obtain ⟨n, hn⟩ : ∃ n, n = v.n := ⟨_, rfl⟩
  obtain ⟨f, hff⟩ : ∃ f, f = v.f := ⟨_, rfl⟩
  rw [← hC, ← hR, ← hk, ← hn, ← hff] at hE
  rw [← hC]
  rw [← hR, ← hk, ← hn, ← hff] at hr
  rw [← hk] at c0 hW hb0 ⊢
  rw [← hn] at c1 hW hb0 ⊢
  rw [← hff] at c2 hW hb0 hf ⊢
  have HW := Lib.hid hW; have HBW := Lib.hid hBW; have HB0 := Lib.hid hb0; have HE := Lib.hid hE; have HR := Lib.hid hr
  clear hW hBW hb0 hE hr hC hR hk hn hff e4 e5 h
  by_cases h1 : k = 1
  · subst h1
    have HC : Hid (C = R) := Lib.hid (by rw [HE.out, if_pos (by decide)])
    clear hf
    go_enter Tryz.func142, Tryz.ntmps142
    go_wp2_with fail
    rw [← HW.out]
    refine (HR.out _ (Below.refl _ _)).mono ?_
    rintro e w1 ⟨rfl, hb⟩
    have HB := Lib.hid (HBW.out.trans (hb.mono HBW.out.size))
    clear hb
    go_wp2
    go_ret
    exact ⟨by rw [HC.out]; rfl, HB.out⟩
  by_cases h4 : k = 4
  · subst h4
    have HC : Hid (C = R) := Lib.hid (by rw [HE.out, if_pos (by decide)])
    clear hf
    go_enter Tryz.func142, Tryz.ntmps142
    go_wp2_with fail
    rw [← HW.out]
    refine (HR.out _ (Below.refl _ _)).mono ?_
    rintro e w1 ⟨rfl, hb⟩
    have HB := Lib.hid (HBW.out.trans (hb.mono HBW.out.size))
    clear hb
    go_wp2
    go_ret
    exact ⟨by rw [HC.out]; rfl, HB.out⟩
  by_cases h2 : k = 2
  · subst h2
    by_cases hn : n < 0
    · have HC : Hid (C = false) := Lib.hid (by rw [HE.out, if_neg (by decide), if_pos rfl, decide_eq_false (by omega)]; rfl)
      have j1 : decide (n < 0) = true := by simpa using hn
      clear hf hn
      go_enter Tryz.func142, Tryz.ntmps142
      go_wp2_with fail
      rw [← HW.out]
      go_wp2
      go_ret
      exact ⟨by rw [HC.out]; rfl, HBW.out⟩
    · have HC : Hid (C = R) := Lib.hid (by rw [HE.out, if_neg (by decide), if_pos rfl, decide_eq_true (by omega)]; rfl)
      have j1 : decide (n < 0) = false := by simpa using hn
      clear hf hn
      go_enter Tryz.func142, Tryz.ntmps142
      go_wp2_with fail
      rw [← HW.out]
      refine (HR.out _ (Below.refl _ _)).mono ?_
      rintro e w1 ⟨rfl, hb⟩
      have HB := Lib.hid (HBW.out.trans (hb.mono HBW.out.size))
      clear hb
      go_wp2
      go_ret
      exact ⟨by rw [HC.out]; rfl, HB.out⟩
  by_cases h3 : k = 3
  · subst h3
    have HO := Lib.hid (fun W => forder_any f 0 W hf (by omega))
    obtain ⟨r, hr⟩ : ∃ r, r = ford f 0 := ⟨_, rfl⟩
    have hcs := fneg_cases hf
    rw [← hr] at HO hcs
    clear hr
    rcases hcs with ⟨q1, q2, q3⟩ | ⟨q1, q2, q3⟩ | ⟨q1, q2, q3, q4'⟩ | ⟨q1, q2, q3, q4'⟩
    · have HC : Hid (C = R) := Lib.hid (by rw [HE.out, if_neg (by decide), if_neg (by decide), if_pos rfl, q1]; simp)
      clear hf q1
      go_enter Tryz.func142, Tryz.ntmps142
      go_wp2_with fail
      rw [← HW.out]
      refine (HO.out _).mono ?_
      rintro e w0 ⟨rfl, rfl⟩
      go_wp2_with fail
      refine (HR.out _ (Below.refl _ _)).mono ?_
      rintro e w1 ⟨rfl, hb⟩
      have HB := Lib.hid (HBW.out.trans (hb.mono HBW.out.size))
      clear hb
      go_wp2
      go_ret
      exact ⟨by rw [HC.out]; rfl, HB.out⟩
    · have HC : Hid (C = false) := Lib.hid (by rw [HE.out, if_neg (by decide), if_neg (by decide), if_pos rfl, q1, q2]; rfl)
      clear hf q1 q2
      go_enter Tryz.func142, Tryz.ntmps142
      go_wp2_with fail
      rw [← HW.out]
      go_wp2
      go_ret
      exact ⟨by rw [HC.out]; rfl, HBW.out⟩
    · have HC : Hid (C = false) := Lib.hid (by rw [HE.out, if_neg (by decide), if_neg (by decide), if_pos rfl, q1, q2]; rfl)
      clear hf q1 q2
      go_enter Tryz.func142, Tryz.ntmps142
      go_wp2_with fail
      rw [← HW.out]
      refine (HO.out _).mono ?_
      rintro e w0 ⟨rfl, rfl⟩
      go_wp2
      go_ret
      exact ⟨by rw [HC.out]; rfl, HBW.out⟩
    · have HC : Hid (C = R) := Lib.hid (by rw [HE.out, if_neg (by decide), if_neg (by decide), if_pos rfl, q1, q2]; simp)
      clear hf q1 q2
      rcases q3 with q3 | q3
      all_goals
        go_enter Tryz.func142, Tryz.ntmps142
        go_wp2_with fail
        rw [← HW.out]
        refine (HO.out _).mono ?_
        rintro e w0 ⟨rfl, rfl⟩
        go_wp2_with fail
        refine (HR.out _ (Below.refl _ _)).mono ?_
        rintro e w1 ⟨rfl, hb⟩
        have HB := Lib.hid (HBW.out.trans (hb.mono HBW.out.size))
        clear hb
        go_wp2
        go_ret
        exact ⟨by rw [HC.out]; rfl, HB.out⟩
  have HC : Hid (C = false) := Lib.hid (by rw [HE.out, if_neg (by omega), if_neg h2, if_neg h3])
  have j1 : (k == 1) = false := by simpa using h1
  have j2 : (k == 2) = false := by simpa using h2
  have j3 : (k == 3) = false := by simpa using h3
  have j4 : (k == 4) = false := by simpa using h4
  clear hf h1 h2 h3 h4
  go_enter Tryz.func142, Tryz.ntmps142
  go_wp2_with fail
  rw [← HW.out]
  go_wp2
  go_ret
  exact ⟨by rw [HC.out]; rfl, HBW.out⟩

end Go.Proofs.YtaamihdibpioaaaGreat

/- parse.named of any expression: whether its string and its names are as its kind wants them. -/
namespace Go.Proofs.YtaamihdibpioaaaGreat
set_option linter.unusedVariables false
open Go.RowKit

def FldAt (ns : List ByteArray) (i : Nat) : Prop := fieldB (ns.getD i ByteArray.empty) = true ∧ (i = 0 ∨ Op.bytesLess (ns.getD (i - 1) ByteArray.empty).toList (ns.getD i ByteArray.empty).toList = true)
instance (ns : List ByteArray) (i : Nat) : Decidable (FldAt ns i) := by unfold FldAt; infer_instance
def AreFields (ns : List ByteArray) : Prop := ∀ i, i < ns.length → FldAt ns i
instance (ns : List ByteArray) : Decidable (AreFields ns) := by unfold AreFields; infer_instance
/-- Names of fields, each greater than the one ahead. -/
def fieldsB (ns : List ByteArray) : Bool := decide (AreFields ns)
theorem fieldsB_false {ns : List ByteArray} {i : Nat} (hi : i < ns.length) (h : ¬ FldAt ns i) : fieldsB ns = false := decide_eq_false (fun h' => h (h' i hi))
theorem fieldsB_true {ns : List ByteArray} (h : AreFields ns) : fieldsB ns = true := decide_eq_true h
/-- Are string and names as the kind wants them? -/
def namedP (k : Int) (s : ByteArray) (ns : List ByteArray) (L : Nat) : Bool :=
  if k = 2 then !wordB s && (fieldB s && decide (ns.length = 0))
  else if k = 18 then fieldB s && decide (ns.length = 0)
  else if k = 17 then fieldsB ns && (decide (s.toList = []) && decide (ns.length = L))
  else decide (s.toList = []) && decide (ns.length = 0)

theorem xnames_len {w : World} {v : Exp} (h : v.In w) : v.ns.length ≤ 8796093021952 := h.ok.2.2.1

set_option maxHeartbeats 4000000 in
set_option maxRecDepth 100000 in
theorem named_word (v : Exp) (b o : Nat) (w : World) (h : PExp w b o v) (hk : v.k = 2 ∨ v.k = 18) : Calls Tryz.prog 141 #[.pointer (some ⟨b, o, none⟩)] w fun e w' => BoolBelow (namedP v.k v.s v.ns v.xs.length) w e w' := by
  have hfl := fun W => field_any v.s W h.in.ok.2.1
  have hwd := fun W => word_any v.s W
  obtain ⟨p8, q8, e8⟩ := h.in.nslice
  have c0 := h.c0; have c1 := h.c1; have c8 := h.c8
  rw [e8] at c8
  have hlt := h.2.1
  have HP := Lib.hid h
  obtain ⟨k, hkk⟩ : ∃ k, k = v.k := ⟨_, rfl⟩
  obtain ⟨s, hs⟩ : ∃ s, s = v.s := ⟨_, rfl⟩
  obtain ⟨L, hL⟩ : ∃ L, L = v.ns.length := ⟨_, rfl⟩
  have hE : namedP k s v.ns v.xs.length = (if k = 2 then !wordB s && (fieldB s && decide (L = 0)) else if k = 18 then fieldB s && decide (L = 0) else namedP k s v.ns v.xs.length) := by
    rw [hL]
    unfold namedP
    split
    · rfl
    · split
      · rfl
      · rfl
  rw [← hkk] at c0 hk ⊢
  rw [← hs] at c1 hfl hwd ⊢
  rw [← hL] at c8
  obtain ⟨R, hR⟩ : ∃ R, R = namedP k s v.ns v.xs.length := ⟨_, rfl⟩
  rw [← hR] at hE ⊢
  have HE := Lib.hid hE; have HF := Lib.hid hfl; have HWD := Lib.hid hwd
  clear hE hR hkk hs hL hfl hwd h e8
  rcases hk with rfl | rfl
  · cases hw : wordB s with
    | true =>
      rw [hw] at HWD
      have HR : Hid (R = false) := Lib.hid (by rw [HE.out, if_pos rfl, hw]; rfl)
      clear hw
      go_enter Tryz.func141, Tryz.ntmps141
      go_wp2_with fail
      refine (HWD.out _).mono ?_
      rintro e w1 ⟨rfl, rfl⟩
      go_wp2
      go_ret
      exact ⟨by rw [HR.out]; rfl, Below.refl _ _⟩
    | false =>
      rw [hw] at HWD
      have HR : Hid (R = (fieldB s && decide (L = 0))) := Lib.hid (by rw [HE.out, if_pos rfl, hw]; rfl)
      clear hw
      go_enter Tryz.func141, Tryz.ntmps141
      go_wp2_with fail
      refine (HWD.out _).mono ?_
      rintro e w1 ⟨rfl, rfl⟩
      go_wp2_with fail
      refine (HF.out _).mono ?_
      rintro e w1 ⟨rfl, hb⟩
      have HB := Lib.hid hb
      have c8' := (hb.cell (p := ⟨b, o + 8, none⟩) hlt).trans c8
      clear hb c8
      cases hfb : fieldB s with
      | false =>
        rw [hfb] at HR
        go_wp2
        go_ret
        exact ⟨by rw [HR.out]; rfl, HB.out⟩
      | true =>
        rw [hfb] at HR
        clear hfb
        by_cases hl : L = 0
        · subst hl
          go_wp2
          go_ret
          exact ⟨by rw [HR.out]; rfl, HB.out⟩
        · have j1 : ((L : Int) == 0) = false := by simp; omega
          rw [decide_eq_false hl] at HR
          go_wp2
          go_ret
          exact ⟨by rw [HR.out]; rfl, HB.out⟩
  · have HR : Hid (R = (fieldB s && decide (L = 0))) := Lib.hid (by rw [HE.out, if_neg (by decide), if_pos rfl])
    go_enter Tryz.func141, Tryz.ntmps141
    go_wp2_with fail
    refine (HF.out _).mono ?_
    rintro e w1 ⟨rfl, hb⟩
    have HB := Lib.hid hb
    have c8' := (hb.cell (p := ⟨b, o + 8, none⟩) hlt).trans c8
    clear hb c8
    cases hfb : fieldB s with
    | false =>
      rw [hfb] at HR
      go_wp2
      go_ret
      exact ⟨by rw [HR.out]; rfl, HB.out⟩
    | true =>
      rw [hfb] at HR
      clear hfb
      by_cases hl : L = 0
      · subst hl
        go_wp2
        go_ret
        exact ⟨by rw [HR.out]; rfl, HB.out⟩
      · have j1 : ((L : Int) == 0) = false := by simp; omega
        rw [decide_eq_false hl] at HR
        go_wp2
        go_ret
        exact ⟨by rw [HR.out]; rfl, HB.out⟩

set_option maxHeartbeats 4000000 in
set_option maxRecDepth 100000 in
theorem named_else (v : Exp) (b o : Nat) (w : World) (h : PExp w b o v) (h2 : v.k ≠ 2) (h18 : v.k ≠ 18) (h17 : v.k ≠ 17) : Calls Tryz.prog 141 #[.pointer (some ⟨b, o, none⟩)] w fun e w' => BoolBelow (namedP v.k v.s v.ns v.xs.length) w e w' := by
  obtain ⟨p8, q8, e8⟩ := h.in.nslice
  have c0 := h.c0; have c1 := h.c1; have c8 := h.c8
  rw [e8] at c8
  obtain ⟨k, hkk⟩ : ∃ k, k = v.k := ⟨_, rfl⟩
  obtain ⟨s, hs⟩ : ∃ s, s = v.s := ⟨_, rfl⟩
  obtain ⟨L, hL⟩ : ∃ L, L = v.ns.length := ⟨_, rfl⟩
  rw [← hkk] at c0 h2 h18 h17 ⊢
  rw [← hs] at c1 ⊢
  rw [← hL] at c8
  have hE : namedP k s v.ns v.xs.length = (decide (s.toList = []) && decide (L = 0)) := by unfold namedP; rw [if_neg h2, if_neg h18, if_neg h17, hL]
  rw [hE]
  have j2 : (k == 2) = false := by simpa using h2
  have j18 : (k == 18) = false := by simpa using h18
  have j17 : (k == 17) = false := by simpa using h17
  clear hE hkk hs hL h e8 h2 h18 h17
  by_cases hs : s.toList = []
  · have js : (s.toList == []) = true := by simpa using hs
    rw [decide_eq_true hs]
    clear hs
    by_cases hl : L = 0
    · subst hl
      go_enter Tryz.func141, Tryz.ntmps141
      go_wp2
      go_ret
      exact ⟨rfl, Below.refl _ _⟩
    · have j1 : ((L : Int) == 0) = false := by simp; omega
      rw [decide_eq_false hl]
      clear hl
      go_enter Tryz.func141, Tryz.ntmps141
      go_wp2
      go_ret
      exact ⟨rfl, Below.refl _ _⟩
  · have js : (s.toList == []) = false := by simpa using hs
    rw [decide_eq_false hs]
    clear hs
    go_enter Tryz.func141, Tryz.ntmps141
    go_wp2
    go_ret
    exact ⟨rfl, Below.refl _ _⟩

set_option maxHeartbeats 8000000 in
set_option maxRecDepth 100000 in
theorem named_rec (v : Exp) (b o : Nat) (w : World) (h : PExp w b o v) (hk : v.k = 17) : Calls Tryz.prog 141 #[.pointer (some ⟨b, o, none⟩)] w fun e w' => BoolBelow (namedP v.k v.s v.ns v.xs.length) w e w' := by
  obtain ⟨p8, q8, e8, hnm⟩ := names_in (XNamesAt.of h.in)
  obtain ⟨p9, q9, e9⟩ := h.in.xslice
  have c0 := h.c0; have c1 := h.c1; have c8 := h.c8; have c9 := h.c9
  rw [e8] at c8
  rw [e9] at c9
  rw [hk] at c0 ⊢
  have hnl := xnames_len h.in
  have hso := h.in.ok.2.2.2.2
  have hlt := h.2.1
  obtain ⟨s, hs⟩ : ∃ s, s = v.s := ⟨_, rfl⟩
  obtain ⟨ns, hns⟩ : ∃ ns, ns = v.ns := ⟨_, rfl⟩
  rw [← hns] at hnm hnl hso c8 ⊢
  obtain ⟨L, hL⟩ : ∃ L, L = ns.length := ⟨_, rfl⟩
  obtain ⟨M, hM⟩ : ∃ M, M = v.xs.length := ⟨_, rfl⟩
  rw [← hs] at c1 ⊢
  rw [← hL] at c8 hnl
  rw [← hM] at c9 ⊢
  have hE : namedP 17 s ns M = (fieldsB ns && (decide (s.toList = []) && decide (L = M))) := by rw [hL]; rfl
  obtain ⟨R, hR⟩ : ∃ R, R = namedP 17 s ns M := ⟨_, rfl⟩
  rw [← hR] at hE ⊢
  have HE := Lib.hid hE
  have HN := Lib.hid hnm; have HSO := Lib.hid hso; have HL := Lib.hid hL
  have HC1 := Lib.hid c1; have HC8 := Lib.hid c8; have HC9 := Lib.hid c9
  clear hE hR hs hns hL hM h e8 e9 hnm hso hk
  go_enter Tryz.func141, Tryz.ntmps141
  go_wp2_with fail
  clear c0 c1 c8 c9
  go_loopw [38] (fun iv wr => ∃ i : Nat, iv = .int .i64 (i : Int) ∧ i ≤ L ∧ Hid (∀ j, j < i → FldAt ns j) ∧ Hid (Below w.heap.size w wr)) (fun iv _ => L - (intOf iv).toNat)
  case atStart => exact ⟨0, rfl, by omega, Lib.hid (fun j hj => absurd hj (by omega)), Lib.hid (Below.refl _ _)⟩
  case round =>
    obtain ⟨i, rfl, hi, HR, HB⟩ := hrel
    have c1 := (HB.out.cell (p := ⟨b, o + 1, none⟩) hlt).trans HC1.out
    have c8 := (HB.out.cell (p := ⟨b, o + 8, none⟩) hlt).trans HC8.out
    have c9 := (HB.out.cell (p := ⟨b, o + 9, none⟩) hlt).trans HC9.out
    by_cases hlt2 : i < L
    · have hil : i < ns.length := by rw [← HL.out]; exact hlt2
      obtain ⟨pb, po, rfl, hpb, hpc, hc⟩ := HN.out i hil
      obtain ⟨t, ht⟩ : ∃ t, t = ns.getD i ByteArray.empty := ⟨_, rfl⟩
      rw [← ht] at hpc
      rw [← HL.out] at hc
      have e1 : wr.cell? ⟨pb, po + i, none⟩ = some (.string t) := (HB.out.cell (p := ⟨pb, po + i, none⟩) hpb).trans hpc
      have hst : strok t := HSO.out t (by rw [ht]; simp [hil])
      have hri : FldAt ns i ↔ fieldB t = true ∧ (i = 0 ∨ Op.bytesLess (ns.getD (i - 1) ByteArray.empty).toList t.toList = true) := by unfold FldAt; rw [← ht]
      have HRI := Lib.hid hri
      have HF := Lib.hid (fun W : World => field_any t W hst)
      have hk0 : (0 : Int) ≤ (i : Int) := by omega
      have hk1 : (i : Int) < (L : Int) := by omega
      clear hpc ht hst hri
      go_wp2_with fail
      refine (HF.out _).mono ?_
      rintro e w2 ⟨rfl, hb2⟩
      have HB2 := Lib.hid (HB.out.trans (hb2.mono HB.out.size))
      have c8' := (HB2.out.cell (p := ⟨b, o + 8, none⟩) hlt).trans HC8.out
      clear hb2 c1 c8 c9 e1
      cases hbt : fieldB t with
      | false =>
        have HFF : Hid (fieldsB ns = false) := Lib.hid (fieldsB_false hil (fun h => by have := (HRI.out.1 h).1; rw [hbt] at this; cases this))
        clear hbt hil
        go_wp2
        go_ret
        exact ⟨by rw [HE.out, HFF.out]; rfl, HB2.out⟩
      | true =>
        by_cases h0 : i = 0
        · have HR2 : Hid (∀ j, j < i + 1 → FldAt ns j) := Lib.hid (fun j hj => by obtain rfl : j = i := by omega
                                                                                  exact HRI.out.2 ⟨hbt, .inl h0⟩)
          have j0 : decide ((0 : Int) < (i : Int)) = false := by simp; omega
          have j1 : decide (0 < i) = false := by simp; omega
          clear hbt hil h0
          go_wp2
          go_roundw
          case rel => exact ⟨i + 1, by go_num, by omega, HR2, HB2⟩
          case measure => simp [intOf]; omega
        · have hil1 : i - 1 < ns.length := by omega
          obtain ⟨pb', po', hpe, hpb', hpc', _⟩ := HN.out (i - 1) hil1
          injection hpe with hpe
          injection hpe with q1 q2
          subst q1 q2
          obtain ⟨r, hr⟩ : ∃ r, r = ns.getD (i - 1) ByteArray.empty := ⟨_, rfl⟩
          rw [← hr] at hpc' HRI
          have e2 : w2.cell? ⟨pb, po + (i - 1), none⟩ = some (.string r) := (HB2.out.cell (p := ⟨pb, po + (i - 1), none⟩) hpb).trans hpc'
          have j0 : decide ((0 : Int) < (i : Int)) = true := by simp; omega
          have j1 : decide (0 < i) = true := by simp; omega
          have hw1 : IntKind.i64.wrap ((i : Int) - 1) = ((i - 1 : Nat) : Int) := by rw [IntWalk.i64_in _ (by omega)]; omega
          have hw0 : (i : Int) - 1 = ((i - 1 : Nat) : Int) := by omega
          have hw2 : (0 : Int) ≤ ((i - 1 : Nat) : Int) := by omega
          have hw3 : ((i - 1 : Nat) : Int) < (L : Int) := by omega
          have hw4 : i - 1 < L := by omega
          clear hpc' hr hil1 hpb'
          cases hl : Op.bytesLess r.toList t.toList with
          | true =>
            have HR2 : Hid (∀ j, j < i + 1 → FldAt ns j) := Lib.hid (fun j hj => by
              by_cases e : j = i
              · rw [e]; exact HRI.out.2 ⟨hbt, .inr hl⟩
              · exact HR.out j (by omega))
            clear hbt hil
            go_wp2
            go_roundw
            case rel => exact ⟨i + 1, by go_num, by omega, HR2, HB2⟩
            case measure => simp [intOf]; omega
          | false =>
            have HFF : Hid (fieldsB ns = false) := Lib.hid (fieldsB_false hil (fun h => by
              rcases (HRI.out.1 h).2 with h' | h'
              · exact h0 h'
              · rw [hl] at h'; cases h'))
            clear hbt hil
            go_wp2
            go_ret
            exact ⟨by rw [HE.out, HFF.out]; rfl, HB2.out⟩
    · have HT : Hid (fieldsB ns = true) := Lib.hid (fieldsB_true (fun j hj => HR.out j (by rw [← HL.out] at hj; omega)))
      by_cases hs : s.toList = []
      · have js : (s.toList == []) = true := by simpa using hs
        rw [decide_eq_true hs, HT.out] at HE
        clear hs
        by_cases hl : L = M
        · have j1 : ((L : Int) == (M : Int)) = true := by simp; omega
          rw [decide_eq_true hl] at HE
          clear hl
          go_wp2_with fail
          go_big_quiet (fail)
          go_wp2
          go_ret
          exact ⟨by rw [HE.out]; rfl, below_drewN HB.out _⟩
        · have j1 : ((L : Int) == (M : Int)) = false := by simp; omega
          rw [decide_eq_false hl] at HE
          clear hl
          go_wp2_with fail
          go_big_quiet (fail)
          go_wp2
          go_ret
          exact ⟨by rw [HE.out]; rfl, below_drewN HB.out _⟩
      · have js : (s.toList == []) = false := by simpa using hs
        rw [decide_eq_false hs, HT.out] at HE
        clear hs
        go_wp2_with fail
        go_big_quiet (fail)
        go_wp2
        go_ret
        exact ⟨by rw [HE.out]; rfl, below_drewN HB.out _⟩
theorem named_any (v : Exp) (b o : Nat) (w : World) (h : PExp w b o v) : Calls Tryz.prog 141 #[.pointer (some ⟨b, o, none⟩)] w fun e w' => BoolBelow (namedP v.k v.s v.ns v.xs.length) w e w' := by
  by_cases h2 : v.k = 2
  · exact named_word v b o w h (.inl h2)
  by_cases h18 : v.k = 18
  · exact named_word v b o w h (.inr h18)
  by_cases h17 : v.k = 17
  · exact named_rec v b o w h h17
  exact named_else v b o w h h2 h18 h17
end Go.Proofs.YtaamihdibpioaaaGreat
