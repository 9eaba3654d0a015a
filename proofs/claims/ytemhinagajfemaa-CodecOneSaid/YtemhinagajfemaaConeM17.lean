/- What bytes are as a value, or as a type: plain words, no program in sight. -/
import Derived.Test.YtemhinagajfemaaConeM4
import Derived.Test.YtemhinagajfemaaConeM13
import Derived.Test.YtemhinagajfemaaConeM16
namespace Go.Proofs.Ytemhinagajfemaa
set_option linter.unusedVariables false
open Go.RowKit

/-- Byte p, or nought. -/
def byteAt (s : ByteArray) (p : Nat) : UInt8 := s.data.toList.getD p 0
theorem byteAt_eq {s : ByteArray} {p : Nat} (h : p < s.size) : byteAt s p = s[p]'h := by
  have h' : p < s.data.toList.length := by rw [Array.length_toList]; exact h
  unfold byteAt
  rw [List.getD_eq_getElem?_getD, List.getElem?_eq_getElem h']
  simp
  rfl
/-- The first k bytes from place p on as a number, the highest one first. -/
def beAt (s : ByteArray) (p : Nat) : Nat → Nat
  | 0 => 0
  | k + 1 => beAt s p k * 256 + (byteAt s (p + k)).toNat
theorem beAt_lt (s : ByteArray) (p : Nat) : ∀ k, beAt s p k < 256 ^ k
  | 0 => by simp [beAt]
  | k + 1 => by
    have h := beAt_lt s p k
    have h2 := (byteAt s (p + k)).toNat_lt
    simp only [beAt, Nat.pow_succ]
    omega
/-- Eight bytes as a float that is canonical. -/
def readF (s : ByteArray) (p : Nat) : Except Int (Nat × Nat) :=
  if p + 8 ≤ s.size then (if fcan (beAt s p 8) = beAt s p 8 then .ok (beAt s p 8, p + 8) else .error 5) else .error 14
/-- How many items: at most 200. -/
def readM (s : ByteArray) (p : Nat) : Except Int (Nat × Nat) :=
  match readU s p 0 0 with
  | .error k => .error k
  | .ok (n, q) => if n ≤ 200 then .ok (n, q) else .error 5

section
variable {A : Type}
/-- n names and items, one after the other; the item by 'rd'. -/
def rdL (s : ByteArray) (rd : Nat → Nat → Except Int (A × Nat × Nat)) (b : Bool) : Nat → Nat → Nat → Except Int (List ByteArray × List A × Nat × Nat)
  | 0, p, m => .ok ([], [], p, m)
  | n + 1, p, m =>
    match (bif b then readS s p 30 else .ok (ByteArray.empty, p)) with
    | .error k => .error k
    | .ok (t, q) =>
      match rd q m with
      | .error k => .error k
      | .ok (v, q2, m2) =>
        match rdL s rd b n q2 m2 with
        | .error k => .error k
        | .ok (ns, vs, q3, m3) => .ok ((bif b then [t] else []) ++ ns, v :: vs, q3, m3)
/-- What was read ahead of it. -/
def preL (ns : List ByteArray) (vs : List A) : Except Int (List ByteArray × List A × Nat × Nat) → Except Int (List ByteArray × List A × Nat × Nat)
  | .error k => .error k
  | .ok (ms, us, q, m) => .ok (ns ++ ms, vs ++ us, q, m)
theorem preL_nil (r : Except Int (List ByteArray × List A × Nat × Nat)) : preL [] [] r = r := by
  rcases r with _ | ⟨_, _, _, _⟩ <;> rfl
theorem preL_pre (ns ns' : List ByteArray) (vs vs' : List A) (r : Except Int (List ByteArray × List A × Nat × Nat)) : preL ns vs (preL ns' vs' r) = preL (ns ++ ns') (vs ++ vs') r := by
  rcases r with _ | ⟨_, _, _, _⟩ <;> simp [preL]
section
variable {s : ByteArray} {rd : Nat → Nat → Except Int (A × Nat × Nat)} {b : Bool} {n p m : Nat}
theorem rdL_name_bad {k : Int} (h : readS s p 30 = .error k) : rdL s rd true (n + 1) p m = .error k := by simp [rdL, h]
theorem rdL_item_bad0 {k : Int} (h : rd p m = .error k) : rdL s rd false (n + 1) p m = .error k := by simp [rdL, h]
theorem rdL_item_bad1 {k : Int} {t : ByteArray} {q : Nat} (ht : readS s p 30 = .ok (t, q)) (h : rd q m = .error k) : rdL s rd true (n + 1) p m = .error k := by simp [rdL, ht, h]
theorem rdL_next0 {v : A} {q2 m2 : Nat} (h : rd p m = .ok (v, q2, m2)) : rdL s rd false (n + 1) p m = preL [] [v] (rdL s rd false n q2 m2) := by
  simp only [rdL, h, cond_false]
  rcases rdL s rd false n q2 m2 with _ | ⟨_, _, _, _⟩ <;> rfl
theorem rdL_next1 {t : ByteArray} {v : A} {q q2 m2 : Nat} (ht : readS s p 30 = .ok (t, q)) (h : rd q m = .ok (v, q2, m2)) : rdL s rd true (n + 1) p m = preL [t] [v] (rdL s rd true n q2 m2) := by
  simp only [rdL, ht, h, cond_true]
  rcases rdL s rd true n q2 m2 with _ | ⟨_, _, _, _⟩ <;> rfl
end
/-- How far it has come: these names and items were read, so many are left. -/
def Come (s : ByteArray) (rd : Nat → Nat → Except Int (A × Nat × Nat)) (b : Bool) (n p m : Nat) (ns : List ByteArray) (vs : List A) (i q m' : Nat) : Prop :=
  i ≤ n ∧ vs.length = i ∧ ns.length = (bif b then i else 0) ∧ rdL s rd b n p m = preL ns vs (rdL s rd b (n - i) q m')
section
variable {s : ByteArray} {rd : Nat → Nat → Except Int (A × Nat × Nat)} {b : Bool} {n p m i q m' : Nat} {ns : List ByteArray} {vs : List A}
theorem come_start : Come s rd b n p m [] [] 0 p m := ⟨Nat.zero_le _, rfl, by cases b <;> rfl, by rw [preL_nil]; rfl⟩
theorem Come.name_bad (h : Come s rd true n p m ns vs i q m') (hi : i < n) {k : Int} (hk : readS s q 30 = .error k) : rdL s rd true n p m = .error k := by
  obtain ⟨_, _, _, h⟩ := h
  rw [h, show n - i = (n - i - 1) + 1 from by omega, rdL_name_bad hk]
  rfl
theorem Come.item_bad0 (h : Come s rd false n p m ns vs i q m') (hi : i < n) {k : Int} (hk : rd q m' = .error k) : rdL s rd false n p m = .error k := by
  obtain ⟨_, _, _, h⟩ := h
  rw [h, show n - i = (n - i - 1) + 1 from by omega, rdL_item_bad0 hk]
  rfl
theorem Come.item_bad1 (h : Come s rd true n p m ns vs i q m') (hi : i < n) {k : Int} {t : ByteArray} {q1 : Nat} (ht : readS s q 30 = .ok (t, q1)) (hk : rd q1 m' = .error k) : rdL s rd true n p m = .error k := by
  obtain ⟨_, _, _, h⟩ := h
  rw [h, show n - i = (n - i - 1) + 1 from by omega, rdL_item_bad1 ht hk]
  rfl
theorem Come.next0 (h : Come s rd false n p m ns vs i q m') (hi : i < n) {v : A} {q2 m2 : Nat} (hk : rd q m' = .ok (v, q2, m2)) : Come s rd false n p m ns (vs ++ [v]) (i + 1) q2 m2 := by
  obtain ⟨_, h1, h2, h⟩ := h
  refine ⟨hi, by simp [h1], h2, ?_⟩
  rw [h, show n - i = (n - (i + 1)) + 1 from by omega, rdL_next0 hk, preL_pre, List.append_nil]
theorem Come.next1 (h : Come s rd true n p m ns vs i q m') (hi : i < n) {t : ByteArray} {q1 : Nat} (ht : readS s q 30 = .ok (t, q1)) {v : A} {q2 m2 : Nat} (hk : rd q1 m' = .ok (v, q2, m2)) :
    Come s rd true n p m (ns ++ [t]) (vs ++ [v]) (i + 1) q2 m2 := by
  obtain ⟨_, h1, h2, h⟩ := h
  refine ⟨hi, by simp [h1], by simpa using h2, ?_⟩
  rw [h, show n - i = (n - (i + 1)) + 1 from by omega, rdL_next1 ht hk, preL_pre]
theorem Come.done (h : Come s rd b n p m ns vs n q m') : rdL s rd b n p m = .ok (ns, vs, q, m') := by
  obtain ⟨_, _, _, h⟩ := h
  rw [h, Nat.sub_self]
  simp [rdL, preL]
end
end

/-- A value with a number, a float, a string alone. -/
def Val.leafN (k n : Int) : Val := .mk k n 0 ByteArray.empty .no [] .no []
def Val.leafF (f : Nat) : Val := .mk 3 0 f ByteArray.empty .no [] .no []
def Val.leafS (t : ByteArray) : Val := .mk 4 0 0 t .no [] .no []
def Val.node (k : Int) (ns : List ByteArray) (vs : List Val) : Val := .mk k 0 0 ByteArray.empty .no ns .no vs
/-- A value from place p on, within 13 - d others, m parts begun: it (without places), the place behind it, how many parts were begun; or the error. -/
def rdV (s : ByteArray) : Nat → Nat → Nat → Except Int (Val × Nat × Nat)
  | 0, _, _ => .error 5
  | d + 1, p, m =>
    if 200 < m + 1 then .error 5
    else if s.size ≤ p then .error 14
    else if (byteAt s p).toNat = 1 then
      (if s.size ≤ p + 1 then .error 14 else if (byteAt s (p + 1)).toNat ≤ 1 then .ok (Val.leafN 1 (byteAt s (p + 1)).toNat, p + 2, m + 1) else .error 5)
    else if (byteAt s p).toNat = 2 then
      (match readU s (p + 1) 0 0 with
      | .error k => .error k
      | .ok (n, q) => .ok (Val.leafN 2 (unzig n), q, m + 1))
    else if (byteAt s p).toNat = 3 then
      (match readF s (p + 1) with
      | .error k => .error k
      | .ok (f, q) => .ok (Val.leafF f, q, m + 1))
    else if (byteAt s p).toNat = 4 then
      (match readS s (p + 1) 200 with
      | .error k => .error k
      | .ok (t, q) => .ok (Val.leafS t, q, m + 1))
    else if (byteAt s p).toNat = 5 ∨ (byteAt s p).toNat = 6 then
      (match readM s (p + 1) with
      | .error k => .error k
      | .ok (n, q) =>
        match rdL s (rdV s d) (decide ((byteAt s p).toNat = 6)) n q (m + 1) with
        | .error k => .error k
        | .ok (ns, vs, q2, m2) => .ok (Val.node (byteAt s p).toNat ns vs, q2, m2))
    else .error 5
def Ty.node (k : Int) (ns : List ByteArray) (vs : List Ty) : Ty := .mk k .no ns .no vs
/-- How many parts a type has that begins with this byte; and the place behind the number. -/
def tyMany (s : ByteArray) (k p : Nat) : Except Int (Nat × Nat) :=
  if k = 5 then .ok (1, p) else if k = 6 then readM s p else if 1 ≤ k ∧ k ≤ 7 then .ok (0, p) else .error 5
/-- A type, likewise. -/
def rdT (s : ByteArray) : Nat → Nat → Nat → Except Int (Ty × Nat × Nat)
  | 0, _, _ => .error 5
  | d + 1, p, m =>
    if 200 < m + 1 then .error 5
    else if s.size ≤ p then .error 14
    else match tyMany s (byteAt s p).toNat (p + 1) with
      | .error k => .error k
      | .ok (n, q) =>
        match rdL s (rdT s d) (decide ((byteAt s p).toNat = 6)) n q (m + 1) with
        | .error k => .error k
        | .ok (ns, vs, q2, m2) => .ok (Ty.node (byteAt s p).toNat ns vs, q2, m2)

theorem readS_lt {s : ByteArray} {p q : Nat} {most : Int} {t : ByteArray} (h : readS s p most = .ok (t, q)) : p < q ∧ q ≤ s.size ∧ (t.size : Int) ≤ most := by
  unfold readS at h
  cases hu : readU s p 0 0 with
  | error k => rw [hu] at h; cases h
  | ok nq =>
    obtain ⟨n, r⟩ := nq
    obtain ⟨h1, h2, h3⟩ := readU_lt s p 0 0 (by decide) (by omega) n r hu
    rw [hu] at h
    simp only at h
    split at h
    · split at h
      · injection h with h
        injection h with ht hq
        refine ⟨by omega, by omega, ?_⟩
        rw [← ht, ByteArray.size_extract]
        omega
      · cases h
    · cases h
theorem readM_lt {s : ByteArray} {p n q : Nat} (h : readM s p = .ok (n, q)) : p < q ∧ q ≤ s.size ∧ n ≤ 200 := by
  unfold readM at h
  cases hu : readU s p 0 0 with
  | error k => rw [hu] at h; cases h
  | ok nq =>
    obtain ⟨n', r⟩ := nq
    obtain ⟨h1, h2, h3⟩ := readU_lt s p 0 0 (by decide) (by omega) n' r hu
    rw [hu] at h
    simp only at h
    split at h
    · injection h with h
      injection h with ht hq
      omega
    · cases h
theorem readF_lt {s : ByteArray} {p n q : Nat} (h : readF s p = .ok (n, q)) : p < q ∧ q ≤ s.size ∧ n < 18446744073709551616 ∧ fcan n = n := by
  unfold readF at h
  split at h
  · split at h
    · injection h with h
      injection h with ht hq
      have := beAt_lt s p 8
      refine ⟨by omega, by omega, ?_, ?_⟩
      · rw [← ht]; exact this
      · rw [← ht]; assumption
    · cases h
  · cases h
/-- What reading leaves of the places and the parts. -/
theorem rdL_lt {A : Type} {s : ByteArray} {rd : Nat → Nat → Except Int (A × Nat × Nat)} {b : Bool} (hrd : ∀ p m v q m', p ≤ s.size → m ≤ 200 → rd p m = .ok (v, q, m') → p < q ∧ q ≤ s.size ∧ m < m' ∧ m' ≤ 200) :
    ∀ n p m ns vs q m', p ≤ s.size → m ≤ 200 → rdL s rd b n p m = .ok (ns, vs, q, m') → p ≤ q ∧ q ≤ s.size ∧ m + n ≤ m' ∧ m' ≤ 200 ∧ vs.length = n ∧ ns.length = (bif b then n else 0) ∧ ∀ t, t ∈ ns → t.size ≤ 30
  | 0, p, m, ns, vs, q, m', hp, hm, h => by
    simp only [rdL, Except.ok.injEq, Prod.mk.injEq] at h
    obtain ⟨rfl, rfl, rfl, rfl⟩ := h
    exact ⟨by omega, hp, by omega, hm, rfl, by cases b <;> rfl, fun t ht => by simp at ht⟩
  | n + 1, p, m, ns, vs, q, m', hp, hm, h => by
    cases b with
    | false =>
      cases h1 : rd p m with
      | error k => rw [rdL_item_bad0 h1] at h; cases h
      | ok x =>
        obtain ⟨v, q2, m2⟩ := x
        obtain ⟨a1, a2, a3, a4⟩ := hrd _ _ _ _ _ hp hm h1
        rw [rdL_next0 h1] at h
        cases h2 : rdL s rd false n q2 m2 with
        | error k => rw [h2] at h; cases h
        | ok y =>
          obtain ⟨ms, us, q3, m3⟩ := y
          obtain ⟨b1, b2, b3, b4, b5, b6, b7⟩ := rdL_lt hrd n q2 m2 ms us q3 m3 a2 a4 h2
          rw [h2] at h
          simp only [preL, Except.ok.injEq, Prod.mk.injEq] at h
          obtain ⟨rfl, rfl, rfl, rfl⟩ := h
          exact ⟨by omega, b2, by omega, b4, by simp [b5], b6, b7⟩
    | true =>
      cases h0 : readS s p 30 with
      | error k => rw [rdL_name_bad h0] at h; cases h
      | ok tq =>
        obtain ⟨t, q1⟩ := tq
        obtain ⟨c1, c2, c3⟩ := readS_lt h0
        cases h1 : rd q1 m with
        | error k => rw [rdL_item_bad1 h0 h1] at h; cases h
        | ok x =>
          obtain ⟨v, q2, m2⟩ := x
          obtain ⟨a1, a2, a3, a4⟩ := hrd _ _ _ _ _ c2 hm h1
          rw [rdL_next1 h0 h1] at h
          cases h2 : rdL s rd true n q2 m2 with
          | error k => rw [h2] at h; cases h
          | ok y =>
            obtain ⟨ms, us, q3, m3⟩ := y
            obtain ⟨b1, b2, b3, b4, b5, b6, b7⟩ := rdL_lt hrd n q2 m2 ms us q3 m3 a2 a4 h2
            rw [h2] at h
            simp only [preL, Except.ok.injEq, Prod.mk.injEq] at h
            obtain ⟨rfl, rfl, rfl, rfl⟩ := h
            refine ⟨by omega, b2, by omega, b4, by simp [b5], by simpa using b6, fun t' ht' => ?_⟩
            rcases List.mem_cons.1 (by simpa using ht') with rfl | h'
            · omega
            · exact b7 _ h'
theorem rdV_lt (s : ByteArray) : ∀ d p m v q m', p ≤ s.size → m ≤ 200 → rdV s d p m = .ok (v, q, m') → p < q ∧ q ≤ s.size ∧ m < m' ∧ m' ≤ 200
  | 0, p, m, v, q, m', hp, hm, h => by simp [rdV] at h
  | d + 1, p, m, v, q, m', hp, hm, h => by
    unfold rdV at h
    split at h
    · cases h
    split at h
    · cases h
    split at h
    · split at h
      · cases h
      · split at h
        · simp only [Except.ok.injEq, Prod.mk.injEq] at h; omega
        · cases h
    split at h
    · split at h
      · cases h
      · next n r hu =>
        have := readU_lt s (p + 1) 0 0 (by decide) (by omega) n r hu
        simp only [Except.ok.injEq, Prod.mk.injEq] at h; omega
    split at h
    · split at h
      · cases h
      · next n r hu =>
        have := readF_lt hu
        simp only [Except.ok.injEq, Prod.mk.injEq] at h; omega
    split at h
    · split at h
      · cases h
      · next n r hu =>
        have := readS_lt hu
        simp only [Except.ok.injEq, Prod.mk.injEq] at h; omega
    split at h
    · split at h
      · cases h
      · next n r hu =>
        have h1 := readM_lt hu
        split at h
        · cases h
        · next ns vs q2 m2 hl =>
          have h2 := rdL_lt (fun p m v q m' => rdV_lt s d p m v q m') n r (m + 1) ns vs q2 m2 (by omega) (by omega) hl
          simp only [Except.ok.injEq, Prod.mk.injEq] at h; omega
    · cases h
theorem tyMany_lt {s : ByteArray} {k p n q : Nat} (hp : p ≤ s.size) (h : tyMany s k p = .ok (n, q)) : p ≤ q ∧ q ≤ s.size ∧ n ≤ 200 := by
  unfold tyMany at h
  split at h
  · simp only [Except.ok.injEq, Prod.mk.injEq] at h; omega
  split at h
  · have := readM_lt h; omega
  split at h
  · simp only [Except.ok.injEq, Prod.mk.injEq] at h; omega
  · cases h
theorem rdT_lt (s : ByteArray) : ∀ d p m v q m', p ≤ s.size → m ≤ 200 → rdT s d p m = .ok (v, q, m') → p < q ∧ q ≤ s.size ∧ m < m' ∧ m' ≤ 200
  | 0, p, m, v, q, m', hp, hm, h => by simp [rdT] at h
  | d + 1, p, m, v, q, m', hp, hm, h => by
    unfold rdT at h
    split at h
    · cases h
    split at h
    · cases h
    split at h
    · cases h
    · next n r hu =>
      have h1 := tyMany_lt (by omega) hu
      split at h
      · cases h
      · next ns vs q2 m2 hl =>
        have h2 := rdL_lt (fun p m v q m' => rdT_lt s d p m v q m') n r (m + 1) ns vs q2 m2 (by omega) (by omega) hl
        simp only [Except.ok.injEq, Prod.mk.injEq] at h; omega
end Go.Proofs.Ytemhinagajfemaa
