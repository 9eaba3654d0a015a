/- What is written is read as it was, whatever stands ahead and behind; cut off anywhere it is torn. Plain lemmas on bytes, no program in sight. -/
import Derived.Test.YtaamihdibpioaaaGreatJkM7
import Derived.Test.YtaamihdibpioaaaGreatJkM17
import Derived.Test.YtaamihdibpioaaaGreatJkM23
import Derived.Test.YtaamihdibpioaaaGreatJkM24
import Derived.Test.YtaamihdibpioaaaGreatJkM26
import Derived.Test.YtaamihdibpioaaaGreatJkM27
import Derived.Test.YtaamihdibpioaaaGreatJkM28
import Derived.Test.YtaamihdibpioaaaGreatJkM35
namespace Go.Proofs.YtaamihdibpioaaaGreat
set_option linter.unusedVariables false
open Go.RowKit

/-! ### Which errors there are -/
def Err2 (k : Int) : Prop := k = 5 ∨ k = 14
theorem readU_err2 (s : ByteArray) (p i n : Nat) : ∀ k, readU s p i n = .error k → Err2 k := by
  intro k hr
  by_cases hp : p < s.size
  · by_cases hb : i < 10 ∧ (i < 9 ∨ (s[p]'hp).toNat ≤ 1) ∧ (i = 0 ∨ (s[p]'hp).toNat ≠ 0)
    · by_cases hl : (s[p]'hp).toNat < 128
      · rw [readU_end hp hb hl] at hr
        cases hr
      · rw [readU_on hp hb hl] at hr
        exact readU_err2 s (p + 1) (i + 1) _ k hr
    · rw [readU_bad hp hb] at hr
      injection hr with hr
      exact .inl hr.symm
  · rw [readU_torn hp] at hr
    injection hr with hr
    exact .inr hr.symm
termination_by s.size - p
theorem err5 {A : Type} {k : Int} (h : (Except.error 5 : Except Int A) = .error k) : Err2 k := by injection h with h; exact .inl h.symm
theorem err14 {A : Type} {k : Int} (h : (Except.error 14 : Except Int A) = .error k) : Err2 k := by injection h with h; exact .inr h.symm
theorem readS_err2 {s : ByteArray} {p : Nat} {most k : Int} (h : readS s p most = .error k) : Err2 k := by
  unfold readS at h
  cases hu : readU s p 0 0 with
  | error k' => rw [hu] at h; injection h with h; subst h; exact readU_err2 s p 0 0 _ hu
  | ok x =>
    obtain ⟨n, q⟩ := x
    rw [hu] at h
    simp only at h
    split at h
    · split at h
      · cases h
      · exact err14 h
    · exact err5 h
theorem readM_err2 {s : ByteArray} {p : Nat} {k : Int} (h : readM s p = .error k) : Err2 k := by
  unfold readM at h
  cases hu : readU s p 0 0 with
  | error k' => rw [hu] at h; injection h with h; subst h; exact readU_err2 s p 0 0 _ hu
  | ok x =>
    obtain ⟨n, q⟩ := x
    rw [hu] at h
    simp only at h
    split at h
    · cases h
    · exact err5 h
theorem readF_err2 {s : ByteArray} {p : Nat} {k : Int} (h : readF s p = .error k) : Err2 k := by
  unfold readF at h
  split at h
  · split at h
    · cases h
    · exact err5 h
  · exact err14 h
theorem rdL_err2 {A : Type} {s : ByteArray} {rd : Nat → Nat → Except Int (A × Nat × Nat)} {b : Bool} (hrd : ∀ p m k, rd p m = .error k → Err2 k) :
    ∀ n p m k, rdL s rd b n p m = .error k → Err2 k
  | 0, p, m, k, h => by simp [rdL] at h
  | n + 1, p, m, k, h => by
    cases b with
    | false =>
      cases h1 : rd p m with
      | error k' => rw [rdL_item_bad0 h1] at h; injection h with h; subst h; exact hrd _ _ _ h1
      | ok x =>
        obtain ⟨v, q2, m2⟩ := x
        rw [rdL_next0 h1] at h
        cases h2 : rdL s rd false n q2 m2 with
        | error k' => rw [h2] at h; injection h with h; subst h; exact rdL_err2 hrd n q2 m2 _ h2
        | ok y => obtain ⟨a, b, c, e⟩ := y; rw [h2] at h; cases h
    | true =>
      cases h0 : readS s p 30 with
      | error k' => rw [rdL_name_bad h0] at h; injection h with h; subst h; exact readS_err2 h0
      | ok tq =>
        obtain ⟨t, q1⟩ := tq
        cases h1 : rd q1 m with
        | error k' => rw [rdL_item_bad1 h0 h1] at h; injection h with h; subst h; exact hrd _ _ _ h1
        | ok x =>
          obtain ⟨v, q2, m2⟩ := x
          rw [rdL_next1 h0 h1] at h
          cases h2 : rdL s rd true n q2 m2 with
          | error k' => rw [h2] at h; injection h with h; subst h; exact rdL_err2 hrd n q2 m2 _ h2
          | ok y => obtain ⟨a, b, c, e⟩ := y; rw [h2] at h; cases h
theorem rdV_err2 (s : ByteArray) : ∀ d p m k, rdV s d p m = .error k → Err2 k
  | 0, p, m, k, h => err5 h
  | d + 1, p, m, k, h => by
    unfold rdV at h
    split at h
    · exact err5 h
    split at h
    · exact err14 h
    split at h
    · split at h
      · exact err14 h
      · split at h
        · cases h
        · exact err5 h
    split at h
    · split at h
      · next hu => injection h with h; subst h; exact readU_err2 _ _ _ _ _ hu
      · cases h
    split at h
    · split at h
      · next hu => injection h with h; subst h; exact readF_err2 hu
      · cases h
    split at h
    · split at h
      · next hu => injection h with h; subst h; exact readS_err2 hu
      · cases h
    split at h
    · split at h
      · next hu => injection h with h; subst h; exact readM_err2 hu
      · split at h
        · next hl => injection h with h; subst h; exact rdL_err2 (fun p m k => rdV_err2 s d p m k) _ _ _ _ hl
        · cases h
    · exact err5 h
/-! ### What is written is read as it was -/
/-- What lies from place p on. -/
def from_ (s : ByteArray) (p : Nat) : List UInt8 := s.data.toList.drop p
theorem from_cons {s : ByteArray} {p : Nat} {c : UInt8} {l : List UInt8} (h : from_ s p = c :: l) : p < s.size ∧ byteAt s p = c ∧ from_ s (p + 1) = l := by
  have hlt : p < s.size := by
    rcases Nat.lt_or_ge p s.size with h' | h'
    · exact h'
    · unfold from_ at h; rw [List.drop_eq_nil_of_le (by rw [size_list]; exact h')] at h; cases h
  have h' : p < s.data.toList.length := by rw [size_list]; exact hlt
  unfold from_ at h ⊢
  rw [List.drop_eq_getElem_cons h'] at h
  injection h with h1 h2
  refine ⟨hlt, ?_, h2⟩
  unfold byteAt
  rw [List.getD_eq_getElem?_getD, List.getElem?_eq_getElem h', ← h1]
  rfl
theorem from_app {s : ByteArray} {p : Nat} {a l : List UInt8} (h : from_ s p = a ++ l) : from_ s (p + a.length) = l := by
  unfold from_ at h ⊢
  rw [← List.drop_drop, h, List.drop_left]
theorem from_len (s : ByteArray) (p : Nat) : (from_ s p).length = s.size - p := by unfold from_; rw [List.length_drop, size_list]
theorem from_nil {s : ByteArray} {p : Nat} (h : from_ s p = []) : s.size ≤ p := by
  have := from_len s p
  rw [h] at this
  simp at this
  omega
/-- Two pieces, cut off: the first one is cut, or the second one. -/
theorem torn_app {a b r l : List UInt8} (h : a ++ b = l ++ r) (hr : r ≠ []) : (∃ r', r' ≠ [] ∧ a = l ++ r') ∨ ∃ l', l = a ++ l' ∧ b = l' ++ r := by
  rcases List.append_eq_append_iff.1 h with ⟨l', h1, h2⟩ | ⟨r', h1, h2⟩
  · exact .inr ⟨l', h1, h2⟩
  · by_cases h0 : r' = []
    · subst h0
      exact .inr ⟨[], by simpa using h1.symm, by simpa using h2.symm⟩
    · exact .inl ⟨r', h0, h1⟩
theorem pow128_10' : (128 : Nat) ^ 10 = 1180591620717411303424 := by decide
theorem mul_le_pow {t i : Nat} (hi : 9 < i) (ht : t ≠ 0) : 18446744073709551616 ≤ t * 128 ^ i := by
  have h1 : 128 ^ 10 ≤ 128 ^ i := Nat.pow_le_pow_right (by omega) (by omega)
  have h2 : 1 * 128 ^ i ≤ t * 128 ^ i := Nat.mul_le_mul_right _ (by omega)
  rw [pow128_10'] at h1
  omega
theorem step_ok {t i c : Nat} (ht : t * 128 ^ i < 18446744073709551616) (h0 : 0 < i → t ≠ 0) (hc : c = (if t < 128 then t else t % 128 + 128)) : i < 10 ∧ (i < 9 ∨ c ≤ 1) ∧ (i = 0 ∨ c ≠ 0) := by
  have hi : i < 10 := by
    rcases Nat.lt_or_ge i 10 with h | h
    · exact h
    · have := mul_le_pow (t := t) (i := i) (by omega) (h0 (by omega)); omega
  refine ⟨hi, ?_, ?_⟩
  · rcases Nat.lt_or_ge i 9 with h | h
    · exact .inl h
    · have e : i = 9 := by omega
      subst e
      have h9 : (128 : Nat) ^ 9 = 9223372036854775808 := by decide
      rw [h9] at ht
      refine .inr ?_
      rw [hc, if_pos (by omega)]
      omega
  · rcases Nat.eq_zero_or_pos i with h | h
    · exact .inl h
    · refine .inr ?_
      have := h0 h
      rw [hc]
      split <;> omega
theorem readU_back : ∀ (t : Nat) (s : ByteArray) (p i n : Nat) (rest : List UInt8), t * 128 ^ i < 18446744073709551616 → (0 < i → t ≠ 0) → from_ s p = ub t ++ rest →
    readU s p i n = .ok (n + t * 128 ^ i, p + (ub t).length) := by
  intro t
  induction t using Nat.strongRecOn with
  | _ t ih =>
    intro s p i n rest ht h0 hf
    by_cases hs : t < 128
    · rw [ub_small hs] at hf ⊢
      obtain ⟨hp, hb, _⟩ := from_cons hf
      have hc : (s[p]'hp).toNat = t := by rw [← byteAt_eq hp, hb, byte_of (by omega)]
      rw [readU_end hp (by rw [hc]; exact step_ok ht h0 (by rw [if_pos hs])) (by omega), hc, Nat.mod_eq_of_lt hs]
      rfl
    · rw [ub_great (by omega)] at hf ⊢
      obtain ⟨hp, hb, hf'⟩ := from_cons hf
      have hc : (s[p]'hp).toNat = t % 128 + 128 := by rw [← byteAt_eq hp, hb, byte_of (by omega)]
      have hpow : t / 128 * 128 ^ (i + 1) = t / 128 * 128 * 128 ^ i := by rw [Nat.pow_succ, Nat.mul_comm (128 ^ i) 128, Nat.mul_assoc]
      have hle : t / 128 * 128 * 128 ^ i ≤ t * 128 ^ i := Nat.mul_le_mul_right _ (by omega)
      rw [readU_on hp (by rw [hc]; exact step_ok ht h0 (by rw [if_neg hs])) (by omega), ih (t / 128) (by omega) s (p + 1) (i + 1) _ rest (by omega) (fun _ => by omega) hf', hc]
      congr 2
      · rw [show (t % 128 + 128) % 128 = t % 128 from by omega, hpow, Nat.add_assoc, ← Nat.add_mul]
        congr 2
        omega
      · simp only [List.length_cons]; omega
theorem readU_cut : ∀ (t : Nat) (s : ByteArray) (p i n : Nat) (rest : List UInt8), t * 128 ^ i < 18446744073709551616 → (0 < i → t ≠ 0) → ub t = from_ s p ++ rest → rest ≠ [] →
    readU s p i n = .error 14 := by
  intro t
  induction t using Nat.strongRecOn with
  | _ t ih =>
    intro s p i n rest ht h0 hf hr
    cases hfr : from_ s p with
    | nil =>
      have := from_nil hfr
      exact readU_torn (by omega)
    | cons c l =>
      rw [hfr] at hf
      obtain ⟨hp, hb, hf'⟩ := from_cons hfr
      by_cases hs : t < 128
      · rw [ub_small hs] at hf
        injection hf with _ hf
        exact absurd (List.append_eq_nil_iff.1 hf.symm).2 hr
      · rw [ub_great (by omega)] at hf
        injection hf with hf1 hf2
        have hc : (s[p]'hp).toNat = t % 128 + 128 := by rw [← byteAt_eq hp, hb, ← hf1, byte_of (by omega)]
        have hpow : t / 128 * 128 ^ (i + 1) = t / 128 * 128 * 128 ^ i := by rw [Nat.pow_succ, Nat.mul_comm (128 ^ i) 128, Nat.mul_assoc]
        have hle : t / 128 * 128 * 128 ^ i ≤ t * 128 ^ i := Nat.mul_le_mul_right _ (by omega)
        rw [readU_on hp (by rw [hc]; exact step_ok ht h0 (by rw [if_neg hs])) (by omega)]
        exact ih (t / 128) (by omega) s (p + 1) (i + 1) _ rest (by omega) (fun _ => by omega) (by rw [hf']; exact hf2) hr
theorem readN_back {s : ByteArray} {p t : Nat} {rest : List UInt8} (ht : t < 18446744073709551616) (h : from_ s p = ub t ++ rest) : readU s p 0 0 = .ok (t, p + (ub t).length) := by
  rw [readU_back t s p 0 0 rest (by omega) (fun h => absurd h (by omega)) h]
  simp
theorem readN_cut {s : ByteArray} {p t : Nat} {rest : List UInt8} (ht : t < 18446744073709551616) (h : ub t = from_ s p ++ rest) (hr : rest ≠ []) : readU s p 0 0 = .error 14 :=
  readU_cut t s p 0 0 rest (by omega) (fun h => absurd h (by omega)) h hr
theorem readS_back {s t : ByteArray} {p : Nat} {most : Int} {rest : List UInt8} (h1 : t.size < 18446744073709551616) (h2 : (t.size : Int) ≤ most) (h : from_ s p = strE t ++ rest) : readS s p most = .ok (t, p + (strE t).length) := by
  unfold strE at h ⊢
  rw [List.append_assoc] at h
  have hu := readN_back h1 h
  have h3 := from_app h
  have hl := from_len s (p + (ub t.size).length)
  rw [h3, List.length_append, size_list] at hl
  unfold readS
  rw [hu]
  simp only
  rw [if_pos h2, if_pos (by omega)]
  have hx : s.extract (p + (ub t.size).length) (p + (ub t.size).length + t.size) = t := by
    apply ByteArray.ext
    apply Array.ext'
    rw [ByteArray.data_extract, Array.toList_extract, List.extract_eq_take_drop]
    show (from_ s (p + (ub t.size).length)).take _ = _
    rw [h3, show p + (ub t.size).length + t.size - (p + (ub t.size).length) = t.data.toList.length from by rw [size_list]; omega, List.take_left]
  rw [hx, List.length_append, size_list, Nat.add_assoc]
theorem readS_cut {s t : ByteArray} {p : Nat} {most : Int} {rest : List UInt8} (h1 : t.size < 18446744073709551616) (h2 : (t.size : Int) ≤ most) (h : strE t = from_ s p ++ rest) (hr : rest ≠ []) : readS s p most = .error 14 := by
  unfold strE at h
  rcases torn_app h hr with ⟨r', h0, h'⟩ | ⟨l', h', h''⟩
  · unfold readS
    rw [readN_cut h1 h' h0]
  · have hu := readN_back h1 h'
    have h3 := from_app h'
    have hl := from_len s (p + (ub t.size).length)
    have hlt : l'.length < t.size := by
      have := congrArg List.length h''
      rw [size_list, List.length_append] at this
      have : 0 < rest.length := List.length_pos_iff.2 hr
      omega
    rw [h3] at hl
    unfold readS
    rw [hu]
    simp only
    rw [if_pos h2, if_neg (by omega)]
theorem readM_back {s : ByteArray} {p n : Nat} {rest : List UInt8} (hn : n ≤ 200) (h : from_ s p = ub n ++ rest) : readM s p = .ok (n, p + (ub n).length) := by
  unfold readM
  rw [readN_back (by omega) h]
  simp only
  rw [if_pos hn]
theorem readM_cut {s : ByteArray} {p n : Nat} {rest : List UInt8} (hn : n ≤ 200) (h : ub n = from_ s p ++ rest) (hr : rest ≠ []) : readM s p = .error 14 := by
  unfold readM
  rw [readN_cut (by omega) h hr]
theorem readF_back {s : ByteArray} {p f : Nat} {rest : List UInt8} (hf : f < 18446744073709551616) (hc : fcan f = f) (h : from_ s p = fbytes f 8 ++ rest) : readF s p = .ok (f, p + 8) := by
  have hl := from_len s p
  rw [h, List.length_append, fbytes_len] at hl
  simp only [fbytes, List.range_succ, List.range_zero, List.nil_append, List.map_append, List.map_cons, List.map_nil, List.cons_append] at h
  obtain ⟨_, b0, h⟩ := from_cons h
  obtain ⟨_, b1, h⟩ := from_cons h
  obtain ⟨_, b2, h⟩ := from_cons h
  obtain ⟨_, b3, h⟩ := from_cons h
  obtain ⟨_, b4, h⟩ := from_cons h
  obtain ⟨_, b5, h⟩ := from_cons h
  obtain ⟨_, b6, h⟩ := from_cons h
  obtain ⟨_, b7, h⟩ := from_cons h
  have e : beAt s p 8 = f := by
    simp only [beAt, Nat.add_zero, Nat.zero_mul, Nat.zero_add]
    rw [b0, b1, b2, b3, b4, b5, b6, b7]
    simp only [fbyte]
    rw [byte_of (by omega), byte_of (by omega), byte_of (by omega), byte_of (by omega), byte_of (by omega), byte_of (by omega), byte_of (by omega), byte_of (by omega)]
    omega
  unfold readF
  rw [if_pos (by omega), e, if_pos hc]
theorem readF_cut {s : ByteArray} {p f : Nat} {rest : List UInt8} (h : fbytes f 8 = from_ s p ++ rest) (hr : rest ≠ []) : readF s p = .error 14 := by
  have hl := from_len s p
  have h2 := congrArg List.length h
  rw [fbytes_len, List.length_append] at h2
  have : 0 < rest.length := List.length_pos_iff.2 hr
  unfold readF
  rw [if_neg (by omega)]
section
variable {A B : Type}
theorem rdL_back {s : ByteArray} {rd : Nat → Nat → Except Int (A × Nat × Nat)} {enc : A → List UInt8} {sz : A → Nat} {g : A → B} {Q : A → Prop} {b : Bool} (M : Nat) :
    ∀ (vs : List A) (ns : List ByteArray) (p m : Nat) (rest : List UInt8),
    (∀ x, x ∈ vs → ∀ p m rest, from_ s p = enc x ++ rest → m + sz x ≤ M → ∃ u, rd p m = .ok (u, p + (enc x).length, m + sz x) ∧ g u = g x ∧ Q u) →
    (b = true → ns.length = vs.length ∧ ∀ t, t ∈ ns → t.size ≤ 30) → (b = false → ns = []) → m + (vs.map sz).sum ≤ M → from_ s p = encL enc b ns vs ++ rest →
    ∃ us, rdL s rd b vs.length p m = .ok (ns, us, p + (encL enc b ns vs).length, m + (vs.map sz).sum) ∧ us.map g = vs.map g ∧ (∀ u, u ∈ us → Q u)
  | [], ns, p, m, rest, hx, hb, hnb, hm, hf => by
    have : ns = [] := by
      cases b with
      | false => exact hnb rfl
      | true => exact List.eq_nil_of_length_eq_zero (hb rfl).1
    subst this
    exact ⟨[], by simp [rdL, encL], rfl, fun u h => by simp at h⟩
  | x :: vs, ns, p, m, rest, hx, hb, hnb, hm, hf => by
    simp only [List.map_cons, List.sum_cons] at hm ⊢
    cases b with
    | false =>
      obtain rfl := hnb rfl
      simp only [encL, cond_false, List.nil_append, List.tail_nil] at hf ⊢
      rw [List.append_assoc] at hf
      obtain ⟨u, h1, h2, h3⟩ := hx x (by simp) p m _ hf (by omega)
      obtain ⟨us, h4, h5, h6⟩ := rdL_back M vs [] (p + (enc x).length) (m + sz x) rest (fun y hy => hx y (List.mem_cons_of_mem _ hy)) (fun h => by cases h) (fun _ => rfl) (by omega) (from_app hf)
      refine ⟨u :: us, ?_, by simp only [List.map_cons, h2, h5], fun y hy => ?_⟩
      · rw [List.length_cons, rdL_next0 h1, h4]
        simp only [preL, List.nil_append, List.cons_append, List.length_append, Except.ok.injEq, Prod.mk.injEq, true_and]
        omega
      · rcases List.mem_cons.1 hy with rfl | hy
        · exact h3
        · exact h6 _ hy
    | true =>
      obtain ⟨hl, hts⟩ := hb rfl
      cases ns with
      | nil => simp at hl
      | cons t ns =>
        simp only [encL, cond_true, List.headD_cons, List.tail_cons] at hf ⊢
        rw [List.append_assoc, List.append_assoc] at hf
        have h0 := readS_back (most := 30) (by have := hts t (by simp); omega) (by have := hts t (by simp); omega) hf
        obtain ⟨u, h1, h2, h3⟩ := hx x (by simp) (p + (strE t).length) m _ (from_app hf) (by omega)
        obtain ⟨us, h4, h5, h6⟩ := rdL_back M vs ns (p + (strE t).length + (enc x).length) (m + sz x) rest (fun y hy => hx y (List.mem_cons_of_mem _ hy)) (fun _ => ⟨by simpa using hl, fun t ht => hts t (List.mem_cons_of_mem _ ht)⟩) (fun h => by cases h) (by omega) (from_app (from_app hf))
        refine ⟨u :: us, ?_, by simp only [List.map_cons, h2, h5], fun y hy => ?_⟩
        · rw [List.length_cons, rdL_next1 h0 h1, h4]
          simp only [preL, List.nil_append, List.cons_append, List.length_append, Except.ok.injEq, Prod.mk.injEq, true_and]
          omega
        · rcases List.mem_cons.1 hy with rfl | hy
          · exact h3
          · exact h6 _ hy
theorem rdL_cut {s : ByteArray} {rd : Nat → Nat → Except Int (A × Nat × Nat)} {enc : A → List UInt8} {sz : A → Nat} {b : Bool} (M : Nat) :
    ∀ (vs : List A) (ns : List ByteArray) (p m : Nat) (rest : List UInt8),
    (∀ x, x ∈ vs → ∀ p m rest, from_ s p = enc x ++ rest → m + sz x ≤ M → ∃ u, rd p m = .ok (u, p + (enc x).length, m + sz x)) →
    (∀ x, x ∈ vs → ∀ p m rest, enc x = from_ s p ++ rest → rest ≠ [] → m + sz x ≤ M → rd p m = .error 14) →
    (b = true → ns.length = vs.length ∧ ∀ t, t ∈ ns → t.size ≤ 30) → (b = false → ns = []) → m + (vs.map sz).sum ≤ M → encL enc b ns vs = from_ s p ++ rest → rest ≠ [] →
    rdL s rd b vs.length p m = .error 14
  | [], ns, p, m, rest, hx, hy, hb, hnb, hm, hf, hr => by
    simp only [encL] at hf
    exact absurd (List.append_eq_nil_iff.1 hf.symm).2 hr
  | x :: vs, ns, p, m, rest, hx, hy, hb, hnb, hm, hf, hr => by
    simp only [List.map_cons, List.sum_cons] at hm
    rw [List.length_cons]
    cases b with
    | false =>
      obtain rfl := hnb rfl
      simp only [encL, cond_false, List.nil_append, List.tail_nil] at hf
      rcases torn_app hf hr with ⟨r', h0, h'⟩ | ⟨l', h', h''⟩
      · exact rdL_item_bad0 (hy x (by simp) p m r' h' h0 (by omega))
      · obtain ⟨u, h1⟩ := hx x (by simp) p m _ h' (by omega)
        have h3 := from_app h'
        have h4 := rdL_cut (b := false) M vs [] (p + (enc x).length) (m + sz x) rest (fun y hy => hx y (List.mem_cons_of_mem _ hy)) (fun z hz => hy z (List.mem_cons_of_mem _ hz)) (fun h => by cases h) (fun _ => rfl) (by omega) (by rw [h3]; exact h'') hr
        rw [rdL_next0 h1, h4]
        rfl
    | true =>
      obtain ⟨hl, hts⟩ := hb rfl
      cases ns with
      | nil => simp at hl
      | cons t ns =>
        have ht1 : t.size < 18446744073709551616 := by have := hts t (by simp); omega
        have ht2 : (t.size : Int) ≤ 30 := by have := hts t (by simp); omega
        simp only [encL, cond_true, List.headD_cons, List.tail_cons] at hf
        rcases torn_app hf hr with ⟨r', h0, h'⟩ | ⟨l', h', h''⟩
        · exact rdL_name_bad (readS_cut ht1 ht2 h' h0)
        · have h0 := readS_back ht1 ht2 h'
          have h3 := from_app h'
          rcases torn_app h'' hr with ⟨r', h0', hh'⟩ | ⟨l2, hh', hh''⟩
          · exact rdL_item_bad1 h0 (hy x (by simp) _ m r' (by rw [h3]; exact hh') h0' (by omega))
          · obtain ⟨u, h1⟩ := hx x (by simp) (p + (strE t).length) m l2 (by rw [h3]; exact hh') (by omega)
            have h5 : from_ s (p + (strE t).length + (enc x).length) = l2 := from_app (by rw [h3]; exact hh')
            have h4 := rdL_cut (b := true) M vs ns (p + (strE t).length + (enc x).length) (m + sz x) rest (fun y hy => hx y (List.mem_cons_of_mem _ hy)) (fun z hz => hy z (List.mem_cons_of_mem _ hz)) (fun _ => ⟨by simpa using hl, fun t ht => hts t (List.mem_cons_of_mem _ ht)⟩) (fun h => by cases h) (by omega) (by rw [h5]; exact hh'') hr
            rw [rdL_next1 h0 h1, h4]
            rfl
end
end Go.Proofs.YtaamihdibpioaaaGreat

/- The reference's writer of values (printed by wip/gen_refwrval.py). -/
namespace Go.Proofs.YtaamihdibpioaaaGreat
set_option linter.unusedVariables false
open Go.RowKit

/-- Bytes as a string. -/
def strB (l : List UInt8) : ByteArray := ⟨l.toArray⟩
theorem strB_append (a b : List UInt8) : strB a ++ strB b = strB (a ++ b) := by
  apply ByteArray.ext
  simp [strB, ByteArray.data_append]

end Go.Proofs.YtaamihdibpioaaaGreat
