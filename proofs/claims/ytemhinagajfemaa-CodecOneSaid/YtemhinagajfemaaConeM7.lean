/- How floats of 64 bits stand to one another, by their bits. A plain law, no program in sight. -/
import Derived.Test.YtemhinagajfemaaConeM1
namespace Go.Proofs.Ytemhinagajfemaa
set_option linter.unusedVariables false

/-- The size of a finite float, by its bits but the sign. -/
def rungv (r : Nat) : Nat := if r < 4503599627370496 then r else (4503599627370496 + r % 4503599627370496) * 2 ^ (r / 4503599627370496 - 1)
theorem rungv_succ (r : Nat) : rungv r < rungv (r + 1) := by
  unfold rungv
  by_cases h1 : r + 1 < 4503599627370496
  · rw [if_pos (by omega), if_pos h1]; omega
  · rw [if_neg h1]
    by_cases h2 : r < 4503599627370496
    · have e : r = 4503599627370495 := by omega
      subst e
      rw [if_pos (by omega)]
      decide
    · rw [if_neg h2]
      by_cases h3 : r % 4503599627370496 = 4503599627370495
      · have e1 : (r + 1) % 4503599627370496 = 0 := by omega
        have e2 : (r + 1) / 4503599627370496 - 1 = (r / 4503599627370496 - 1) + 1 := by omega
        rw [h3, e1, e2, Nat.pow_succ]
        have hp : 0 < 2 ^ (r / 4503599627370496 - 1) := Nat.two_pow_pos _
        generalize 2 ^ (r / 4503599627370496 - 1) = P at hp ⊢
        omega
      · have e1 : (r + 1) % 4503599627370496 = r % 4503599627370496 + 1 := by omega
        have e2 : (r + 1) / 4503599627370496 = r / 4503599627370496 := by omega
        rw [e1, e2]
        exact Nat.mul_lt_mul_of_pos_right (by omega) (Nat.two_pow_pos _)
theorem rungv_lt {a b : Nat} (h : a < b) : rungv a < rungv b := by
  induction b with
  | zero => omega
  | succ b ih =>
    by_cases e : a = b
    · subst e; exact rungv_succ a
    · exact Nat.lt_trans (ih (by omega)) (rungv_succ b)
theorem rungv_inj {a b : Nat} (h : rungv a = rungv b) : a = b := by
  rcases Nat.lt_trichotomy a b with h' | h' | h'
  · have := rungv_lt h'; omega
  · exact h'
  · have := rungv_lt h'; omega

/-- No number; the sign; the size. -/
def fnan (x : Nat) : Bool := decide (9218868437227405312 < x % 9223372036854775808)
def fneg (x : Nat) : Bool := x / 9223372036854775808 % 2 == 1
def fsv (x : Nat) : Int := if fneg x then -(rungv (x % 9223372036854775808) : Int) else (rungv (x % 9223372036854775808) : Int)

theorem signed_eq (s : Bool) (m a c : Nat) (h : c ≤ a) : Ieee.signed s m (a - c) * (2 ^ c : Nat) = Ieee.signed s m a := by
  unfold Ieee.signed
  have e : (m <<< (a - c)) * 2 ^ c = m <<< a := by
    rw [Nat.shiftLeft_eq, Nat.shiftLeft_eq, Nat.mul_assoc, ← Nat.pow_add, Nat.sub_add_cancel h]
  cases s
  · simp only [Bool.false_eq_true, if_false]
    rw [← e]; simp
  · simp only [if_true]
    rw [← e, Int.neg_mul, Int.natCast_mul]
theorem compare_scale (x y : Int) (P : Nat) (hP : 0 < P) : compare x y = compare (x * (P : Int)) (y * (P : Int)) := by
  have hp : (0 : Int) < (P : Int) := by omega
  rcases Int.lt_trichotomy x y with h | h | h
  · rw [Int.compare_eq_lt.2 h, Int.compare_eq_lt.2 (Int.mul_lt_mul_of_pos_right h hp)]
  · subst h; simp
  · rw [Int.compare_eq_gt.2 h, Int.compare_eq_gt.2 (Int.mul_lt_mul_of_pos_right h hp)]
theorem number_order (s t : Bool) (m n a b : Nat) : Ieee.Datum.order (.number s m (-1074 + (a : Int))) (.number t n (-1074 + (b : Int))) = some (compare (Ieee.signed s m a) (Ieee.signed t n b)) := by
  have e : min (-1074 + (a : Int)) (-1074 + (b : Int)) = -1074 + ((min a b : Nat) : Int) := by omega
  simp only [Ieee.Datum.order, e]
  rw [show ((-1074 + (a : Int)) - (-1074 + ((min a b : Nat) : Int))).toNat = a - min a b from by omega,
    show ((-1074 + (b : Int)) - (-1074 + ((min a b : Nat) : Int))).toNat = b - min a b from by omega]
  rw [compare_scale _ _ (2 ^ min a b) (Nat.two_pow_pos _), signed_eq _ _ _ _ (by omega), signed_eq _ _ _ _ (by omega)]

theorem read_nan {x : Nat} (h : fnan x = true) : ∃ s q, Ieee.double.read x = .nan s q := by
  unfold fnan at h
  have h' : 9218868437227405312 < x % 9223372036854775808 := by simpa using h
  refine ⟨x / 9223372036854775808 % 2 == 1, x % 9223372036854775808 - 9218868437227405312, ?_⟩
  unfold Ieee.Format.read
  have e1 : Ieee.double.signWeight = 9223372036854775808 := by decide
  have e2 : Ieee.double.binade = 4503599627370496 := by decide
  have e3 : Ieee.double.infRung = 9218868437227405312 := by decide
  simp only [e1, e2, e3]
  rw [if_neg (by omega), if_neg (by omega), if_neg (by omega)]
theorem read_inf {x : Nat} (h : x % 9223372036854775808 = 9218868437227405312) : Ieee.double.read x = .infinity (fneg x) := by
  unfold Ieee.Format.read
  have e1 : Ieee.double.signWeight = 9223372036854775808 := by decide
  have e2 : Ieee.double.binade = 4503599627370496 := by decide
  have e3 : Ieee.double.infRung = 9218868437227405312 := by decide
  simp only [e1, e2, e3]
  rw [if_neg (by omega), if_neg (by omega), if_pos (by omega)]
  rfl
theorem read_fin {x : Nat} (h : x % 9223372036854775808 < 9218868437227405312) : ∃ m a, Ieee.double.read x = .number (fneg x) m (-1074 + ((a : Nat) : Int)) ∧ m <<< a = rungv (x % 9223372036854775808) := by
  unfold Ieee.Format.read
  have e1 : Ieee.double.signWeight = 9223372036854775808 := by decide
  have e2 : Ieee.double.binade = 4503599627370496 := by decide
  have e3 : Ieee.double.infRung = 9218868437227405312 := by decide
  have e4 : Ieee.double.leastPlace = -1074 := by decide
  simp only [e1, e2, e3, e4]
  unfold rungv
  by_cases h1 : x % 9223372036854775808 < 4503599627370496
  · rw [if_pos h1, if_pos h1]
    exact ⟨x % 9223372036854775808, 0, rfl, by simp⟩
  · rw [if_neg h1, if_pos h, if_neg h1]
    exact ⟨_, _, rfl, by rw [Nat.shiftLeft_eq]⟩

theorem fsv_signed (x m a : Nat) (h : m <<< a = rungv (x % 9223372036854775808)) : Ieee.signed (fneg x) m a = fsv x := by
  unfold Ieee.signed fsv
  rw [h]

theorem order_none {x y : Nat} (h : fnan x = true ∨ fnan y = true) : Ieee.double.order x y = none := by
  unfold Ieee.Format.order
  rcases h with h | h
  · obtain ⟨s, q, e⟩ := read_nan h
    rw [e]
    simp [Ieee.Datum.order]
  · obtain ⟨s, q, e⟩ := read_nan h
    rw [e]
    cases Ieee.double.read x <;> simp [Ieee.Datum.order]

theorem order_some {x y : Nat} (hx : fnan x = false) (hy : fnan y = false) : Ieee.double.order x y = some (compare (fsv x) (fsv y)) := by
  unfold fnan at hx hy
  have hx' : x % 9223372036854775808 ≤ 9218868437227405312 := by simpa using hx
  have hy' : y % 9223372036854775808 ≤ 9218868437227405312 := by simpa using hy
  unfold Ieee.Format.order
  by_cases h1 : x % 9223372036854775808 = 9218868437227405312
  · rw [read_inf h1]
    by_cases h2 : y % 9223372036854775808 = 9218868437227405312
    · rw [read_inf h2]
      simp only [Ieee.Datum.order, fsv, h1, h2]
      have hp : 0 < rungv 9218868437227405312 := by have := rungv_lt (a := 0) (b := 9218868437227405312) (by omega); omega
      generalize rungv 9218868437227405312 = R at hp ⊢
      cases fneg x <;> cases fneg y <;> simp
      · exact (Int.compare_eq_gt.2 (by omega)).symm
      · exact (Int.compare_eq_lt.2 (by omega)).symm
    · obtain ⟨m, a, e, hm⟩ := read_fin (x := y) (by omega)
      rw [e]
      simp only [Ieee.Datum.order, fsv, h1]
      have hlt := rungv_lt (a := y % 9223372036854775808) (b := 9218868437227405312) (by omega)
      generalize rungv 9218868437227405312 = R at hlt ⊢
      generalize rungv (y % 9223372036854775808) = Q at hlt ⊢
      cases fneg x <;> cases fneg y <;> simp
      · exact (Int.compare_eq_gt.2 (by omega)).symm
      · exact (Int.compare_eq_gt.2 (by omega)).symm
      · exact (Int.compare_eq_lt.2 (by omega)).symm
      · exact (Int.compare_eq_lt.2 (by omega)).symm
  · obtain ⟨m, a, e, hm⟩ := read_fin (x := x) (by omega)
    rw [e]
    by_cases h2 : y % 9223372036854775808 = 9218868437227405312
    · rw [read_inf h2]
      simp only [Ieee.Datum.order, fsv, h2]
      have hlt := rungv_lt (a := x % 9223372036854775808) (b := 9218868437227405312) (by omega)
      generalize rungv 9218868437227405312 = R at hlt ⊢
      generalize rungv (x % 9223372036854775808) = Q at hlt ⊢
      cases fneg x <;> cases fneg y <;> simp
      · exact (Int.compare_eq_lt.2 (by omega)).symm
      · exact (Int.compare_eq_gt.2 (by omega)).symm
      · exact (Int.compare_eq_lt.2 (by omega)).symm
      · exact (Int.compare_eq_gt.2 (by omega)).symm
    · obtain ⟨m', a', e', hm'⟩ := read_fin (x := y) (by omega)
      rw [e', number_order, fsv_signed _ _ _ hm, fsv_signed _ _ _ hm']
end Go.Proofs.Ytemhinagajfemaa
