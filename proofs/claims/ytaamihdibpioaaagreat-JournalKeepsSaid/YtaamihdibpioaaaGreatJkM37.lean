/- A right value, a right type: written it is read as it was; cut off it is torn. Plain, no program in sight. -/
import Derived.Test.YtaamihdibpioaaaGreatJkM36
namespace Go.Proofs.YtaamihdibpioaaaGreat
set_option linter.unusedVariables false
open Go.RowKit

theorem Val.szAll_sum : ∀ xs : List Val, Val.szAll xs = (xs.map Val.sz).sum
  | [] => rfl
  | x :: xs => by simp only [Val.szAll, List.map_cons, List.sum_cons, Val.szAll_sum xs]
theorem Ty.szAll_sum : ∀ xs : List Ty, Ty.szAll xs = (xs.map Ty.sz).sum
  | [] => rfl
  | x :: xs => by simp only [Ty.szAll, List.map_cons, List.sum_cons, Ty.szAll_sum xs]
theorem Val.count_up (d : Nat) : ∀ (v : Val) (n : Nat), v.sz ≤ d → v.count n ≤ n + v.sz := by
  induction d with
  | zero => intro v n hd; rw [Val.sz_eq] at hd; omega
  | succ d ih =>
    intro v n hd
    have key : ∀ (xs : List Val) (m : Nat), (∀ x, x ∈ xs → x.sz ≤ d) → Val.countAll xs m ≤ m + Val.szAll xs := fun xs => by
      induction xs with
      | nil => intro m _; simp [Val.countAll]
      | cons x xs ihx =>
        intro m hm
        simp only [Val.countAll, Val.szAll]
        split
        · omega
        · have h1 := ih x m (hm x (by simp))
          have h2 := ihx (x.count m) (fun z hz => hm z (List.mem_cons_of_mem _ hz))
          omega
    rw [Val.count_eq, Val.sz_eq]
    have := key v.xs (n + 1) (fun x hx => by have := Val.size_mem hx; omega)
    omega
theorem Ty.count_up (d : Nat) : ∀ (v : Ty) (n : Nat), v.sz ≤ d → v.count n ≤ n + v.sz := by
  induction d with
  | zero => intro v n hd; rw [Ty.sz_eq] at hd; omega
  | succ d ih =>
    intro v n hd
    have key : ∀ (xs : List Ty) (m : Nat), (∀ x, x ∈ xs → x.sz ≤ d) → Ty.countAll xs m ≤ m + Ty.szAll xs := fun xs => by
      induction xs with
      | nil => intro m _; simp [Ty.countAll]
      | cons x xs ihx =>
        intro m hm
        simp only [Ty.countAll, Ty.szAll]
        split
        · omega
        · have h1 := ih x m (hm x (by simp))
          have h2 := ihx (x.count m) (fun z hz => hm z (List.mem_cons_of_mem _ hz))
          omega
    rw [Ty.count_eq, Ty.sz_eq]
    have := key v.xs (n + 1) (fun x hx => by have := Ty.size_mem hx; omega)
    omega
theorem right_sz {v : Val} (h : v.RightB = true) : v.sz ≤ 200 ∧ v.rightB 1 = true := by
  unfold Val.RightB at h
  rw [Bool.and_eq_true, decide_eq_true_eq] at h
  have := Val.count_sz v.sz v 0 (Nat.le_refl _) (by omega)
  exact ⟨by omega, h.2⟩
theorem right_of {v : Val} (h1 : v.sz ≤ 200) (h2 : v.rightB 1 = true) : v.RightB = true := by
  unfold Val.RightB
  rw [Bool.and_eq_true, decide_eq_true_eq]
  have := Val.count_up v.sz v 0 (Nat.le_refl _)
  exact ⟨by omega, h2⟩
theorem rightAll_of : ∀ {xs : List Val} {d : Nat}, (∀ x, x ∈ xs → x.rightB d = true) → Val.rightAll xs d = true
  | [], _, _ => by simp [Val.rightAll]
  | x :: xs, d, h => by
    simp only [Val.rightAll, Bool.and_eq_true]
    exact ⟨h x (by simp), rightAll_of (fun y hy => h y (List.mem_cons_of_mem _ hy))⟩
theorem bare_mk {v : Val} {n f s r : Bool} (h1 : n = true ∨ v.n = 0) (h2 : f = true ∨ ford v.f 0 = 0) (h3 : s = true ∨ v.s.toList.isEmpty = true) (h4 : r = true ∨ (v.ns.length = 0 ∧ v.xs.length = 0)) : bareB v n f s r = true := by
  unfold bareB
  simp only [Bool.and_eq_true, Bool.or_eq_true, beq_iff_eq, decide_eq_true_eq]
  exact ⟨⟨⟨h1, h2⟩, h3⟩, h4⟩
theorem ford00 : ford 0 0 = 0 := by decide
theorem empty_isEmpty : ByteArray.empty.toList.isEmpty = true := by decide +kernel
theorem leafN_bare (k n : Int) : bareB (Val.leafN k n) true false false false = true := by
  exact bare_mk (.inl rfl) (.inr ford00) (.inr empty_isEmpty) (.inr ⟨rfl, rfl⟩)
/-- What reading a right value gives: one that is the same, right, and as great. -/
def Back (v : Val) (deep : Nat) (u : Val) : Prop := (u.nf, u.sz) = (v.nf, v.sz) ∧ u.rightB deep = true
theorem back_leaf {v u : Val} {deep : Nat} (h1 : u.nf = v.nf) (h2 : u.xs = []) (h3 : v.xs = []) (h4 : u.rightB deep = true) : Back v deep u := by
  refine ⟨?_, h4⟩
  rw [h1, Val.sz_eq u, Val.sz_eq v, h2, h3]
/-- What is known of a right value, kind by kind. -/
theorem right_cases {v : Val} {deep : Nat} (h : v.rightB deep = true) : deep ≤ 12 ∧
    ((v.k = 1 ∧ (v.n = 0 ∨ v.n = 1) ∧ v.xs = []) ∨ (v.k = 2 ∧ v.xs = []) ∨ (v.k = 3 ∧ v.xs = []) ∨ (v.k = 4 ∧ v.xs = [] ∧ v.s.size ≤ 200) ∨
     (v.k = 5 ∧ v.ns = [] ∧ ∀ x, x ∈ v.xs → x.rightB (deep + 1) = true) ∨ (v.k = 6 ∧ v.ns.length = v.xs.length ∧ risingB v.ns = true ∧ (∀ t, t ∈ v.ns → t.size ≤ 30) ∧ ∀ x, x ∈ v.xs → x.rightB (deep + 1) = true)) := by
  rw [Val.rightB_eq] at h
  by_cases h12 : 12 < deep
  · rw [if_pos h12] at h; cases h
  rw [if_neg h12] at h
  refine ⟨by omega, ?_⟩
  by_cases h1 : v.k = 1
  · rw [if_pos h1, Bool.and_eq_true, beq_iff_eq] at h
    exact .inl ⟨h1, by omega, bare_xs h.1⟩
  rw [if_neg h1] at h
  by_cases h2 : v.k = 2
  · rw [if_pos h2] at h
    exact .inr (.inl ⟨h2, bare_xs h⟩)
  rw [if_neg h2] at h
  by_cases h3 : v.k = 3
  · rw [if_pos h3] at h
    exact .inr (.inr (.inl ⟨h3, bare_xs h⟩))
  rw [if_neg h3] at h
  by_cases h4 : v.k = 4
  · rw [if_pos h4, Bool.and_eq_true, decide_eq_true_eq] at h
    exact .inr (.inr (.inr (.inl ⟨h4, bare_xs h.1, h.2⟩)))
  rw [if_neg h4] at h
  by_cases h5 : v.k = 5
  · rw [if_pos h5, Bool.and_eq_true, Bool.and_eq_true, decide_eq_true_eq] at h
    exact .inr (.inr (.inr (.inr (.inl ⟨h5, List.eq_nil_of_length_eq_zero h.1.2, rightAll_mem h.2⟩))))
  rw [if_neg h5] at h
  by_cases h6 : v.k = 6
  · rw [if_pos h6, Bool.and_eq_true, Bool.and_eq_true, Bool.and_eq_true, decide_eq_true_eq] at h
    refine .inr (.inr (.inr (.inr (.inr ⟨h6, h.1.1.1, h.1.1.2, fun t ht => ?_, rightAll_mem h.2⟩))))
    obtain ⟨i, hi, rfl⟩ := List.getElem_of_mem ht
    have := rising_size h.1.1.2 hi
    simpa [hi] using this
  rw [if_neg h6] at h; cases h
theorem enc_node {v : Val} (h : v.k = 5 ∨ v.k = 6) : v.enc = UInt8.ofNat v.k.toNat :: (ub v.xs.length ++ encL Val.enc (decide (v.k = 6)) v.ns v.xs) := by
  rw [Val.enc_eq, ← encL_val]
  rcases h with h | h <;> rw [h] <;> rfl
theorem fcan_fcan (f : Nat) : fcan (fcan f) = fcan f := by
  cases h : fnan f with
  | true =>
    have h2 : fnan (fcan f) = true := by rw [fnan_fcan, h]
    unfold fcan
    rw [h]
    simp only [if_true]
    split <;> rfl
  | false =>
    have : fcan f = f := by unfold fcan; rw [h]; rfl
    rw [this, this]
section
variable {s : ByteArray} {w : World}
theorem Val.back (d : Nat) : ∀ (v : Val) (deep p m : Nat) (rest : List UInt8), deep + d = 13 → v.rightB deep = true → v.In w → m + v.sz ≤ 200 → from_ s p = v.enc ++ rest →
    ∃ u, rdV s d p m = .ok (u, p + v.enc.length, m + v.sz) ∧ (u.nf, u.sz) = (v.nf, v.sz) ∧ u.rightB deep = true := by
  induction d with
  | zero => intro v deep p m rest hd hr; have := (right_cases hr).1; omega
  | succ d ih =>
    intro v deep p m rest hd hr hin hm hf
    obtain ⟨h12, hc⟩ := right_cases hr
    have hok := hin.ok
    rw [Val.enc_eq] at hf ⊢
    rw [List.cons_append] at hf
    obtain ⟨hp, hb, hf'⟩ := from_cons hf
    have hm1 := Val.sz_eq v
    rcases hc with ⟨hk, hn, hx⟩ | ⟨hk, hx⟩ | ⟨hk, hx⟩ | ⟨hk, hx, hs⟩ | ⟨hk, hns, hall⟩ | ⟨hk, hnl, hris, hts, hall⟩
    · rw [hk] at hb hf' ⊢
      simp only [if_true] at hf' ⊢
      obtain ⟨hp2, hb2, _⟩ := from_cons hf'
      have hbk : (byteAt s p).toNat = 1 := by rw [hb]; rfl
      have hbn : (byteAt s (p + 1)).toNat = v.n.toNat := by rw [hb2, byte_of (by omega)]
      have hsz : v.sz = 1 := by rw [Val.sz_eq, hx]; rfl
      refine ⟨Val.leafN 1 v.n, ?_, ?_⟩
      · unfold rdV
        rw [if_neg (by omega), if_neg (by omega), if_pos hbk, if_neg (by omega), if_pos (by omega), hbn, hsz, Int.toNat_of_nonneg (by omega)]
        rfl
      · refine back_leaf ?_ rfl hx ?_
        · refine (Val.nf_iff _ _).2 ?_
          rw [show (Val.leafN 1 v.n).k = 1 from rfl]
          exact ⟨hk.symm, fun _ => rfl, fun h => absurd h (by decide), fun h => absurd h (by decide), fun h => absurd h (by decide), fun h => absurd h (by decide)⟩
        · rw [Val.rightB_eq, show (Val.leafN 1 v.n).k = 1 from rfl, if_neg (by omega), if_pos rfl, leafN_bare, Bool.true_and, beq_iff_eq]
          show v.n / 2 = 0
          omega
    · rw [hk] at hb hf' ⊢
      simp only [if_true, if_neg (show ¬ (2 : Int) = 1 by decide)] at hf' ⊢
      have hbk : (byteAt s p).toNat = 2 := by rw [hb]; rfl
      have hu := readN_back (zig_lt hok.2.1.1 hok.2.1.2) hf'
      have hsz : v.sz = 1 := by rw [Val.sz_eq, hx]; rfl
      refine ⟨Val.leafN 2 v.n, ?_, ?_⟩
      · unfold rdV
        rw [if_neg (by omega), if_neg (by omega), if_neg (by omega), if_pos hbk, hu, hsz]
        simp only [Except.ok.injEq, Prod.mk.injEq, List.length_cons, unzig_zig, true_and, and_true]
        omega
      · refine back_leaf ?_ rfl hx ?_
        · refine (Val.nf_iff _ _).2 ?_
          rw [show (Val.leafN 2 v.n).k = 2 from rfl]
          exact ⟨hk.symm, fun _ => rfl, fun h => absurd h (by decide), fun h => absurd h (by decide), fun h => absurd h (by decide), fun h => absurd h (by decide)⟩
        · rw [Val.rightB_eq, show (Val.leafN 2 v.n).k = 2 from rfl, if_neg (by omega), if_neg (show ¬ (2 : Int) = 1 by decide), if_pos rfl, leafN_bare]
    · rw [hk] at hb hf' ⊢
      simp only [if_true, if_neg (show ¬ (3 : Int) = 1 by decide), if_neg (show ¬ (3 : Int) = 2 by decide)] at hf' ⊢
      have hbk : (byteAt s p).toNat = 3 := by rw [hb]; rfl
      have hu := readF_back (fcan_lt hok.2.2.1) (fcan_fcan v.f) hf'
      have hsz : v.sz = 1 := by rw [Val.sz_eq, hx]; rfl
      refine ⟨Val.leafF (fcan v.f), ?_, ?_⟩
      · unfold rdV
        rw [if_neg (by omega), if_neg (by omega), if_neg (by omega), if_neg (by omega), if_pos hbk, hu, hsz]
        simp only [Except.ok.injEq, Prod.mk.injEq, List.length_cons, fbytes_len, true_and, and_true]
        try omega
      · refine back_leaf ?_ rfl hx ?_
        · refine (Val.nf_iff _ _).2 ?_
          rw [show (Val.leafF (fcan v.f)).k = 3 from rfl]
          exact ⟨hk.symm, fun h => absurd h (by decide), fun _ => fkey_fcan v.f, fun h => absurd h (by decide), fun h => absurd h (by decide), fun h => absurd h (by decide)⟩
        · rw [Val.rightB_eq, show (Val.leafF (fcan v.f)).k = 3 from rfl, if_neg (by omega), if_neg (show ¬ (3 : Int) = 1 by decide), if_neg (show ¬ (3 : Int) = 2 by decide), if_pos rfl]
          exact bare_mk (.inr rfl) (.inl rfl) (.inr empty_isEmpty) (.inr ⟨rfl, rfl⟩)
    · rw [hk] at hb hf' ⊢
      simp only [if_true, if_neg (show ¬ (4 : Int) = 1 by decide), if_neg (show ¬ (4 : Int) = 2 by decide), if_neg (show ¬ (4 : Int) = 3 by decide)] at hf' ⊢
      have hbk : (byteAt s p).toNat = 4 := by rw [hb]; rfl
      have hu := readS_back (most := 200) (by omega) (by omega) hf'
      have hsz : v.sz = 1 := by rw [Val.sz_eq, hx]; rfl
      refine ⟨Val.leafS v.s, ?_, ?_⟩
      · unfold rdV
        rw [if_neg (by omega), if_neg (by omega), if_neg (by omega), if_neg (by omega), if_neg (by omega), if_pos hbk, hu, hsz]
        simp only [Except.ok.injEq, Prod.mk.injEq, List.length_cons, true_and, and_true]
        omega
      · refine back_leaf ?_ rfl hx ?_
        · refine (Val.nf_iff _ _).2 ?_
          rw [show (Val.leafS v.s).k = 4 from rfl]
          exact ⟨hk.symm, fun h => absurd h (by decide), fun h => absurd h (by decide), fun _ => rfl, fun h => absurd h (by decide), fun h => absurd h (by decide)⟩
        · rw [Val.rightB_eq, show (Val.leafS v.s).k = 4 from rfl, if_neg (by omega), if_neg (show ¬ (4 : Int) = 1 by decide), if_neg (show ¬ (4 : Int) = 2 by decide), if_neg (show ¬ (4 : Int) = 3 by decide), if_pos rfl, Bool.and_eq_true, decide_eq_true_eq]
          exact ⟨bare_mk (.inr rfl) (.inr ford00) (.inl rfl) (.inr ⟨rfl, rfl⟩), hs⟩
    all_goals
      have hk56 : v.k = 5 ∨ v.k = 6 := by omega
      have henc := enc_node hk56
      rw [Val.enc_eq] at henc
      have hsum := Val.szAll_sum v.xs
      have hl200 : v.xs.length ≤ 200 := by
        have : ∀ xs : List Val, xs.length ≤ (xs.map Val.sz).sum := fun xs => by
          induction xs with
          | nil => simp
          | cons x xs ihx => simp only [List.length_cons, List.map_cons, List.sum_cons]; have := Val.sz_eq x; omega
        have := this v.xs
        omega
      rw [← List.cons_append, henc, List.cons_append] at hf
      rw [henc]
      obtain ⟨_, _, hg⟩ := from_cons hf
      rw [List.append_assoc] at hg
      have hum := readM_back hl200 hg
      have hg2 := from_app hg
    · have hbk : (byteAt s p).toNat = 5 := by rw [hb, hk]; rfl
      rw [hk, hns] at hg2
      obtain ⟨us, h1, h2, h3⟩ := rdL_back (rd := rdV s d) (enc := Val.enc) (sz := Val.sz) (g := fun x => (x.nf, x.sz)) (Q := fun u => u.rightB (deep + 1) = true) (b := false) 200 v.xs [] (p + 1 + (ub v.xs.length).length) (m + 1) rest
        (fun x hx p m rest hf hm => ih x (deep + 1) p m rest (by omega) (hall x hx) (((Val.in_iff _ v).1 hin).2.2.2 x hx) hm hf) (fun h => by cases h) (fun _ => rfl) (by omega) hg2
      have hsu : Val.szAll us = Val.szAll v.xs := by
        rw [Val.szAll_sum, Val.szAll_sum]
        have := congrArg (List.map Prod.snd) h2
        simp only [List.map_map] at this
        exact congrArg List.sum this
      have hnf : us.map Val.nf = v.xs.map Val.nf := by
        have := congrArg (List.map Prod.fst) h2
        simp only [List.map_map] at this
        exact this
      refine ⟨Val.node 5 [] us, ?_, ?_, ?_⟩
      · unfold rdV
        rw [if_neg (by omega), if_neg (by omega), if_neg (by omega), if_neg (by omega), if_neg (by omega), if_neg (by omega), if_pos (.inl hbk), hum]
        simp only
        rw [hbk, show decide ((5 : Nat) = 6) = false from rfl, h1]
        simp only [Except.ok.injEq, Prod.mk.injEq, List.length_cons, List.length_append]
        refine ⟨rfl, ?_, by omega⟩
        rw [hk, hns, show decide ((5 : Int) = 6) = false from rfl]
        omega
      · rw [Prod.mk.injEq]
        refine ⟨(Val.nf_iff _ _).2 (by rw [show (Val.node 5 [] us).k = 5 from rfl]; exact ⟨hk.symm, fun h => absurd h (by decide), fun h => absurd h (by decide), fun h => absurd h (by decide), fun h => absurd h (by decide), fun _ => hnf⟩), ?_⟩
        rw [Val.sz_eq, Val.sz_eq v]
        exact congrArg (1 + ·) hsu
      · rw [Val.rightB_eq, show (Val.node 5 [] us).k = 5 from rfl, if_neg (by omega), if_neg (show ¬ (5 : Int) = 1 by decide), if_neg (show ¬ (5 : Int) = 2 by decide), if_neg (show ¬ (5 : Int) = 3 by decide), if_neg (show ¬ (5 : Int) = 4 by decide), if_pos rfl, Bool.and_eq_true, Bool.and_eq_true]
        exact ⟨⟨bare_mk (.inr rfl) (.inr ford00) (.inr empty_isEmpty) (.inl rfl), rfl⟩, rightAll_of h3⟩
    · have hbk : (byteAt s p).toNat = 6 := by rw [hb, hk]; rfl
      rw [hk] at hg2
      obtain ⟨us, h1, h2, h3⟩ := rdL_back (rd := rdV s d) (enc := Val.enc) (sz := Val.sz) (g := fun x => (x.nf, x.sz)) (Q := fun u => u.rightB (deep + 1) = true) (b := true) 200 v.xs v.ns (p + 1 + (ub v.xs.length).length) (m + 1) rest
        (fun x hx p m rest hf hm => ih x (deep + 1) p m rest (by omega) (hall x hx) (((Val.in_iff _ v).1 hin).2.2.2 x hx) hm hf) (fun _ => ⟨hnl, hts⟩) (fun h => by cases h) (by omega) hg2
      have hsu : Val.szAll us = Val.szAll v.xs := by
        rw [Val.szAll_sum, Val.szAll_sum]
        have := congrArg (List.map Prod.snd) h2
        simp only [List.map_map] at this
        exact congrArg List.sum this
      have hnf : us.map Val.nf = v.xs.map Val.nf := by
        have := congrArg (List.map Prod.fst) h2
        simp only [List.map_map] at this
        exact this
      have hul : us.length = v.xs.length := by have := congrArg List.length h2; simpa using this
      refine ⟨Val.node 6 v.ns us, ?_, ?_, ?_⟩
      · unfold rdV
        rw [if_neg (by omega), if_neg (by omega), if_neg (by omega), if_neg (by omega), if_neg (by omega), if_neg (by omega), if_pos (.inr hbk), hum]
        simp only
        rw [hbk, show decide ((6 : Nat) = 6) = true from rfl, h1]
        simp only [Except.ok.injEq, Prod.mk.injEq, List.length_cons, List.length_append]
        refine ⟨rfl, ?_, by omega⟩
        rw [hk, show decide ((6 : Int) = 6) = true from rfl]
        omega
      · rw [Prod.mk.injEq]
        refine ⟨(Val.nf_iff _ _).2 (by rw [show (Val.node 6 v.ns us).k = 6 from rfl]; exact ⟨hk.symm, fun h => absurd h (by decide), fun h => absurd h (by decide), fun h => absurd h (by decide), fun _ => rfl, fun _ => hnf⟩), ?_⟩
        rw [Val.sz_eq, Val.sz_eq v]
        exact congrArg (1 + ·) hsu
      · rw [Val.rightB_eq, show (Val.node 6 v.ns us).k = 6 from rfl, if_neg (by omega), if_neg (show ¬ (6 : Int) = 1 by decide), if_neg (show ¬ (6 : Int) = 2 by decide), if_neg (show ¬ (6 : Int) = 3 by decide), if_neg (show ¬ (6 : Int) = 4 by decide), if_neg (show ¬ (6 : Int) = 5 by decide), if_pos rfl, Bool.and_eq_true, Bool.and_eq_true, Bool.and_eq_true, decide_eq_true_eq]
        exact ⟨⟨⟨by show v.ns.length = us.length; omega, hris⟩, bare_mk (.inr rfl) (.inr ford00) (.inr empty_isEmpty) (.inl rfl)⟩, rightAll_of h3⟩
theorem Val.cut (d : Nat) : ∀ (v : Val) (deep p m : Nat) (rest : List UInt8), deep + d = 13 → v.rightB deep = true → v.In w → m + v.sz ≤ 200 → v.enc = from_ s p ++ rest → rest ≠ [] →
    rdV s d p m = .error 14 := by
  induction d with
  | zero => intro v deep p m rest hd hr; have := (right_cases hr).1; omega
  | succ d ih =>
    intro v deep p m rest hd hr hin hm hf hre
    obtain ⟨h12, hc⟩ := right_cases hr
    have hok := hin.ok
    have hm1 := Val.sz_eq v
    cases hfr : from_ s p with
    | nil =>
      have := from_nil hfr
      unfold rdV
      rw [if_neg (by omega), if_pos this]
    | cons c l =>
      rw [hfr, Val.enc_eq] at hf
      obtain ⟨hp, hb, hf'⟩ := from_cons hfr
      rw [List.cons_append] at hf
      injection hf with hf1 hf2
      rw [← hf1] at hb
      rcases hc with ⟨hk, hn, hx⟩ | ⟨hk, hx⟩ | ⟨hk, hx⟩ | ⟨hk, hx, hs⟩ | ⟨hk, hns, hall⟩ | ⟨hk, hnl, hris, hts, hall⟩
      · rw [hk] at hb hf2
        simp only [if_true] at hf2
        have hbk : (byteAt s p).toNat = 1 := by rw [hb]; rfl
        have hl0 : l = [] := by
          have h1 := congrArg List.length hf2
          have h2 : 0 < rest.length := List.length_pos_iff.2 hre
          simp only [List.length_cons, List.length_nil, List.length_append] at h1
          exact List.eq_nil_of_length_eq_zero (by omega)
        have := from_nil (hf'.trans hl0)
        unfold rdV
        rw [if_neg (by omega), if_neg (by omega), if_pos hbk, if_pos this]
      · rw [hk] at hb hf2
        simp only [if_true, if_neg (show ¬ (2 : Int) = 1 by decide)] at hf2
        have hbk : (byteAt s p).toNat = 2 := by rw [hb]; rfl
        unfold rdV
        rw [if_neg (by omega), if_neg (by omega), if_neg (by omega), if_pos hbk, readN_cut (zig_lt hok.2.1.1 hok.2.1.2) (by rw [hf']; exact hf2) hre]
      · rw [hk] at hb hf2
        simp only [if_true, if_neg (show ¬ (3 : Int) = 1 by decide), if_neg (show ¬ (3 : Int) = 2 by decide)] at hf2
        have hbk : (byteAt s p).toNat = 3 := by rw [hb]; rfl
        unfold rdV
        rw [if_neg (by omega), if_neg (by omega), if_neg (by omega), if_neg (by omega), if_pos hbk, readF_cut (by rw [hf']; exact hf2) hre]
      · rw [hk] at hb hf2
        simp only [if_true, if_neg (show ¬ (4 : Int) = 1 by decide), if_neg (show ¬ (4 : Int) = 2 by decide), if_neg (show ¬ (4 : Int) = 3 by decide)] at hf2
        have hbk : (byteAt s p).toNat = 4 := by rw [hb]; rfl
        unfold rdV
        rw [if_neg (by omega), if_neg (by omega), if_neg (by omega), if_neg (by omega), if_neg (by omega), if_pos hbk, readS_cut (t := v.s) (most := 200) (by omega) (by omega) (by rw [hf']; exact hf2) hre]
      all_goals
        have hk56 : v.k = 5 ∨ v.k = 6 := by omega
        have henc := enc_node hk56
        rw [Val.enc_eq] at henc
        injection henc with _ henc
        rw [henc] at hf2
        have hsum := Val.szAll_sum v.xs
        have hl200 : v.xs.length ≤ 200 := by
          have : ∀ xs : List Val, xs.length ≤ (xs.map Val.sz).sum := fun xs => by
            induction xs with
            | nil => simp
            | cons x xs ihx => simp only [List.length_cons, List.map_cons, List.sum_cons]; have := Val.sz_eq x; omega
          have := this v.xs
          omega
        rw [← hf'] at hf2
      · have hbk : (byteAt s p).toNat = 5 := by rw [hb, hk]; rfl
        unfold rdV
        rw [if_neg (by omega), if_neg (by omega), if_neg (by omega), if_neg (by omega), if_neg (by omega), if_neg (by omega), if_pos (.inl hbk)]
        rcases torn_app hf2 hre with ⟨r', h0, h'⟩ | ⟨l', h', h''⟩
        · rw [readM_cut hl200 h' h0]
        · have hum := readM_back hl200 h'
          have hg := from_app h'
          rw [hk, hns] at h''
          rw [hum, hbk, show decide ((5 : Nat) = 6) = false from rfl]
          simp only
          rw [rdL_cut (rd := rdV s d) (enc := Val.enc) (sz := Val.sz) (b := false) 200 v.xs [] (p + 1 + (ub v.xs.length).length) (m + 1) rest
            (fun x hx p m rest hf hm => let ⟨u, h1, _⟩ := Val.back (w := w) d x (deep + 1) p m rest (by omega) (hall x hx) (((Val.in_iff _ v).1 hin).2.2.2 x hx) hm hf; ⟨u, h1⟩)
            (fun x hx p m rest hf hr hm => ih x (deep + 1) p m rest (by omega) (hall x hx) (((Val.in_iff _ v).1 hin).2.2.2 x hx) hm hf hr) (fun h => by cases h) (fun _ => rfl) (by omega) (by rw [hg]; exact h'') hre]
      · have hbk : (byteAt s p).toNat = 6 := by rw [hb, hk]; rfl
        unfold rdV
        rw [if_neg (by omega), if_neg (by omega), if_neg (by omega), if_neg (by omega), if_neg (by omega), if_neg (by omega), if_pos (.inr hbk)]
        rcases torn_app hf2 hre with ⟨r', h0, h'⟩ | ⟨l', h', h''⟩
        · rw [readM_cut hl200 h' h0]
        · have hum := readM_back hl200 h'
          have hg := from_app h'
          rw [hk] at h''
          rw [hum, hbk, show decide ((6 : Nat) = 6) = true from rfl]
          simp only
          rw [rdL_cut (rd := rdV s d) (enc := Val.enc) (sz := Val.sz) (b := true) 200 v.xs v.ns (p + 1 + (ub v.xs.length).length) (m + 1) rest
            (fun x hx p m rest hf hm => let ⟨u, h1, _⟩ := Val.back (w := w) d x (deep + 1) p m rest (by omega) (hall x hx) (((Val.in_iff _ v).1 hin).2.2.2 x hx) hm hf; ⟨u, h1⟩)
            (fun x hx p m rest hf hr hm => ih x (deep + 1) p m rest (by omega) (hall x hx) (((Val.in_iff _ v).1 hin).2.2.2 x hx) hm hf hr) (fun _ => ⟨hnl, hts⟩) (fun h => by cases h) (by omega) (by rw [hg]; exact h'') hre]
/-! ### Types -/
theorem tright_cases {v : Ty} {deep : Nat} (h : v.rightB deep = true) : deep ≤ 12 ∧
    ((v.k = 5 ∧ v.ns = [] ∧ v.xs.length = 1) ∨ (v.k = 6 ∧ v.ns.length = v.xs.length) ∨ (v.k ≠ 5 ∧ v.k ≠ 6 ∧ v.ns = [] ∧ v.xs = [])) := by
  rw [Ty.rightB_eq] at h
  by_cases h12 : 12 < deep
  · rw [if_pos h12] at h; cases h
  rw [if_neg h12] at h
  refine ⟨by omega, ?_⟩
  by_cases h5 : v.k = 5
  · rw [if_pos h5, Bool.and_eq_true, Bool.and_eq_true, decide_eq_true_eq, decide_eq_true_eq] at h
    exact .inl ⟨h5, List.eq_nil_of_length_eq_zero h.1.1, h.1.2⟩
  rw [if_neg h5] at h
  by_cases h6 : v.k = 6
  · rw [if_pos h6, Bool.and_eq_true, Bool.and_eq_true, decide_eq_true_eq] at h
    exact .inr (.inl ⟨h6, h.1.1⟩)
  rw [if_neg h6] at h
  by_cases h7 : 1 ≤ v.k ∧ v.k ≤ 7
  · rw [if_pos h7, Bool.and_eq_true, decide_eq_true_eq, decide_eq_true_eq] at h
    exact .inr (.inr ⟨h5, h6, List.eq_nil_of_length_eq_zero h.1, List.eq_nil_of_length_eq_zero h.2⟩)
  · rw [if_neg h7] at h; cases h
theorem tlen_sz : ∀ xs : List Ty, xs.length ≤ (xs.map Ty.sz).sum := fun xs => by
  induction xs with
  | nil => simp
  | cons x xs ihx => simp only [List.length_cons, List.map_cons, List.sum_cons]; have := Ty.sz_eq x; omega
theorem tmany {v : Ty} {deep p : Nat} {rest : List UInt8} (h : v.rightB deep = true) (hl : v.xs.length ≤ 200) (hf : from_ s p = (if v.k = 6 then ub v.xs.length else []) ++ rest) :
    tyMany s v.k.toNat p = .ok (v.xs.length, p + (if v.k = 6 then ub v.xs.length else []).length) := by
  have hk := Ty.right_kinds h
  rcases (tright_cases h).2 with ⟨h5, h1, h2⟩ | ⟨h6, h1⟩ | ⟨h5, h6, h1, h2⟩
  · unfold tyMany
    rw [if_pos (by omega), if_neg (by omega), h2]
    rfl
  · rw [if_pos h6] at hf ⊢
    unfold tyMany
    rw [if_neg (by omega), if_pos (by omega), readM_back hl hf]
  · unfold tyMany
    rw [if_neg (by omega), if_neg (by omega), if_pos (by omega), if_neg h6, h2]
    rfl
theorem Ty.back (d : Nat) : ∀ (v : Ty) (deep p m : Nat) (rest : List UInt8), deep + d = 13 → v.rightB deep = true → m + v.sz ≤ 200 → from_ s p = v.enc ++ rest →
    ∃ u, rdT s d p m = .ok (u, p + v.enc.length, m + v.sz) ∧ u = v.erase ∧ True := by
  induction d with
  | zero => intro v deep p m rest hd hr; have := (tright_cases hr).1; omega
  | succ d ih =>
    intro v deep p m rest hd hr hm hf
    have hk := Ty.right_kinds hr
    have hm1 := Ty.sz_eq v
    have hsum := Ty.szAll_sum v.xs
    have hl := tlen_sz v.xs
    obtain ⟨hpx, hpn⟩ := Ty.right_parts hr
    rw [Ty.enc_eq, encL_ty] at hf ⊢
    rw [List.cons_append] at hf
    obtain ⟨hp, hb, hf'⟩ := from_cons hf
    have hbk : (byteAt s p).toNat = v.k.toNat := by rw [hb, byte_of (by omega)]
    rw [List.append_assoc] at hf'
    have hum := tmany hr (by omega) hf'
    have hg := from_app hf'
    obtain ⟨us, h1, h2, h3⟩ := rdL_back (rd := rdT s d) (enc := Ty.enc) (sz := Ty.sz) (g := fun x => x.erase) (Q := fun u => u.erase = u) (b := decide (v.k = 6)) 200 v.xs v.ns _ (m + 1) rest
      (fun x hx p m rest hf hm => by
        obtain ⟨u, h1, h2, _⟩ := ih x (deep + 1) p m rest (by omega) (hpx x hx) hm hf
        have he : x.erase.erase = x.erase := by
          have : ∀ (d : Nat) (x : Ty), x.sz ≤ d → x.erase.erase = x.erase := fun d => by
            induction d with
            | zero => intro x hd; rw [Ty.sz_eq] at hd; omega
            | succ d ihd =>
              intro x hd
              rw [Ty.erase_eq x.erase, Ty.erase_k, Ty.erase_ns, Ty.erase_xs, List.map_map, Ty.erase_eq x]
              congr 1
              exact List.map_congr_left (fun y hy => ihd y (by have := Ty.size_mem hy; omega))
          exact this x.sz x (Nat.le_refl _)
        exact ⟨u, h1, by rw [h2]; exact he, by rw [h2]; exact he⟩)
      (fun h => hpn (by simpa using h)) (fun h => by
        have h6 : v.k ≠ 6 := by simpa using h
        rcases (tright_cases hr).2 with ⟨_, h1, _⟩ | ⟨h1, _⟩ | ⟨_, _, h1, _⟩
        · exact h1
        · exact absurd h1 h6
        · exact h1) (by omega) hg
    refine ⟨Ty.node v.k v.ns us, ?_, ?_, trivial⟩
    · unfold rdT
      rw [if_neg (by omega), if_neg (by omega), hbk, hum]
      simp only
      have hdec : decide (v.k.toNat = 6) = decide (v.k = 6) := by
        by_cases h : v.k = 6
        · rw [decide_eq_true h, decide_eq_true (by omega)]
        · rw [decide_eq_false h, decide_eq_false (by omega)]
      rw [hdec, h1]
      simp only [Except.ok.injEq, Prod.mk.injEq, List.length_cons, List.length_append]
      refine ⟨?_, by omega, by omega⟩
      rw [Int.toNat_of_nonneg (by omega)]
    · rw [Ty.erase_eq v]
      show Ty.mk v.k .no v.ns .no us = _
      congr 1
      have : us.map Ty.erase = us := by
        conv => rhs; rw [← List.map_id us]
        exact List.map_congr_left (fun y hy => h3 y hy)
      rw [← this]
      exact h2
theorem Ty.cut (d : Nat) : ∀ (v : Ty) (deep p m : Nat) (rest : List UInt8), deep + d = 13 → v.rightB deep = true → m + v.sz ≤ 200 → v.enc = from_ s p ++ rest → rest ≠ [] →
    rdT s d p m = .error 14 := by
  induction d with
  | zero => intro v deep p m rest hd hr; have := (tright_cases hr).1; omega
  | succ d ih =>
    intro v deep p m rest hd hr hm hf hre
    have hk := Ty.right_kinds hr
    have hm1 := Ty.sz_eq v
    have hsum := Ty.szAll_sum v.xs
    have hl := tlen_sz v.xs
    obtain ⟨hpx, hpn⟩ := Ty.right_parts hr
    cases hfr : from_ s p with
    | nil =>
      have := from_nil hfr
      unfold rdT
      rw [if_neg (by omega), if_pos this]
    | cons c l =>
      rw [hfr, Ty.enc_eq, encL_ty, List.cons_append] at hf
      obtain ⟨hp, hb, hf'⟩ := from_cons hfr
      injection hf with hf1 hf2
      rw [← hf1] at hb
      have hbk : (byteAt s p).toNat = v.k.toNat := by rw [hb, byte_of (by omega)]
      rw [← hf'] at hf2
      have hdec : decide (v.k.toNat = 6) = decide (v.k = 6) := by
        by_cases h : v.k = 6
        · rw [decide_eq_true h, decide_eq_true (by omega)]
        · rw [decide_eq_false h, decide_eq_false (by omega)]
      unfold rdT
      rw [if_neg (by omega), if_neg (by omega), hbk, hdec]
      rcases torn_app hf2 hre with ⟨r', h0, h'⟩ | ⟨l', h', h''⟩
      · have h6 : v.k = 6 := by
          by_cases h : v.k = 6
          · exact h
          · rw [if_neg h] at h'
            exact absurd (List.append_eq_nil_iff.1 h'.symm).2 h0
        rw [if_pos h6] at h'
        have : tyMany s v.k.toNat (p + 1) = .error 14 := by
          unfold tyMany
          rw [if_neg (by omega), if_pos (by omega), readM_cut (by omega) h' h0]
        rw [this]
      · have hum := tmany hr (by omega) h'
        have hg := from_app h'
        rw [hum]
        simp only
        rw [rdL_cut (rd := rdT s d) (enc := Ty.enc) (sz := Ty.sz) (b := decide (v.k = 6)) 200 v.xs v.ns _ (m + 1) rest
          (fun x hx p m rest hf hm => let ⟨u, h1, _⟩ := Ty.back d x (deep + 1) p m rest (by omega) (hpx x hx) hm hf; ⟨u, h1⟩)
          (fun x hx p m rest hf hr hm => ih x (deep + 1) p m rest (by omega) (hpx x hx) hm hf hr) (fun h => hpn (by simpa using h)) (fun h => by
            have h6 : v.k ≠ 6 := by simpa using h
            rcases (tright_cases hr).2 with ⟨_, h1, _⟩ | ⟨h1, _⟩ | ⟨_, _, h1, _⟩
            · exact h1
            · exact absurd h1 h6
            · exact h1) (by omega) (by rw [hg]; exact h'') hre]
end
end Go.Proofs.YtaamihdibpioaaaGreat
