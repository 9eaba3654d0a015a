/- What a reader reads as a number with a sign. -/
import Derived.Test.YtemhinagajfemaaCodecRead
namespace Go.Proofs.Ytemhinagajfemaa
set_option linter.unusedVariables false
open Go.RowKit

def unzig (n : Nat) : Int := if n % 2 = 1 then -1 - ((n / 2 : Nat) : Int) else ((n / 2 : Nat) : Int)
theorem u64_and_nat (a b : Nat) (ha : a < 18446744073709551616) (hb : b < 18446744073709551616) : bits .and .u64 (a : Int) (b : Int) = ((a &&& b : Nat) : Int) := by
  have hx : a &&& b < 2 ^ 64 := Nat.and_lt_two_pow _ (by omega)
  show IntKind.u64.wrap ((BitVec.ofInt 64 (a : Int) &&& BitVec.ofInt 64 (b : Int)).toNat : Int) = _
  rw [BitVec.toNat_and, ofInt_u64 a ha, ofInt_u64 b hb, IntKind.wrap_u64]
  omega
theorem u64_and_one (n : Nat) (h : n < 18446744073709551616) : bits .and .u64 (n : Int) 1 = ((n % 2 : Nat) : Int) := by
  have := u64_and_nat n 1 h (by omega)
  rw [Nat.and_one_is_mod] at this
  exact this
theorem i64_xor_zero (a : Nat) (ha : a < 9223372036854775808) : bits .xor .i64 (a : Int) 0 = a := by
  have := i64_xor_nat a 0 ha (by omega)
  simpa using this
theorem i64_xor_m1 (a : Nat) (ha : a < 9223372036854775808) : bits .xor .i64 (a : Int) (-1) = -1 - (a : Int) := by
  show IntKind.i64.wrap ((BitVec.ofInt 64 (a : Int) ^^^ BitVec.ofInt 64 (-1)).toNat : Int) = _
  have e : BitVec.ofInt 64 (-1) = BitVec.allOnes 64 := by decide
  rw [e, BitVec.xor_allOnes, BitVec.toNat_not, ofInt_i64 a ha, IntKind.wrap_i64]
  omega
theorem readU_lt (s : ByteArray) (p i n : Nat) (hn : n < 128 ^ i) (hi : i ≤ 10) : ∀ m q, readU s p i n = .ok (m, q) → m < 18446744073709551616 ∧ p < q ∧ q ≤ s.size := by
  intro m q hr
  by_cases hp : p < s.size
  · by_cases hb : i < 10 ∧ (i < 9 ∨ (s[p]'hp).toNat ≤ 1) ∧ (i = 0 ∨ (s[p]'hp).toNat ≠ 0)
    · by_cases hl : (s[p]'hp).toNat < 128
      · rw [readU_end hp hb hl] at hr
        have h1 := group_lt (c := (s[p]'hp).toNat) hb.1 hb.2.1
        have h2 := pow_lt hb.1
        injection hr with hr
        injection hr with h3 h4
        omega
      · rw [readU_on hp hb hl] at hr
        have := readU_lt s (p + 1) (i + 1) _ (group_next hn) (by omega) m q hr
        omega
    · rw [readU_bad hp hb] at hr
      cases hr
  · rw [readU_torn hp] at hr
    cases hr
termination_by s.size - p
theorem unzig_go (n : Nat) (h : n < 18446744073709551616) : bits .xor .i64 (IntKind.i64.wrap ((n : Int) / 2)) (IntKind.i64.wrap (-(IntKind.i64.wrap (bits .and .u64 (n : Int) 1)))) = unzig n := by
  rw [u64_and_one n h]
  have e1 : IntKind.i64.wrap ((n : Int) / 2) = ((n / 2 : Nat) : Int) := (IntWalk.i64_in _ (by omega)).trans (by omega)
  rw [e1]
  unfold unzig
  by_cases hp : n % 2 = 1
  · rw [if_pos hp, hp]
    exact i64_xor_m1 (n / 2) (by omega)
  · have h0 : n % 2 = 0 := by omega
    rw [if_neg hp, h0]
    exact i64_xor_zero (n / 2) (by omega)

def IntRead (r : Except Int (Nat × Nat)) (s : ByteArray) (parts : Int) (g : Nat) (w : World) (e : Ending) (w' : World) : Prop :=
  match r with
  | .ok (n, q) => e = .returned (.int .i64 (unzig n)) ∧ At w' g s q parts ∧ Only w w' g
  | .error k => e = gives k ∧ Only w w' g

set_option maxHeartbeats 1000000 in
theorem rint_any (s : ByteArray) (p : Nat) (parts : Int) (g : Nat) (w : World) (hs : s.size ≤ 100000) (hp : p ≤ s.size) (h : At w g s p parts) :
    Calls Try.prog 54 #[.pointer (some ⟨g, 0, none⟩)] w fun e w' => IntRead (readU s p 0 0) s parts g w e w' := by
  have hr := ruint_any s p parts g w hs hp h
  clear h
  cases hu : readU s p 0 0 with
  | ok nq =>
    obtain ⟨n, q⟩ := nq
    rw [hu] at hr
    have hz := unzig_go n (readU_lt s p 0 0 (by decide) (by omega) n q hu).1
    have HZ := Lib.hid hz
    have HR := Lib.hid hr
    clear hr hu hz
    go_enter Try.func54, Try.ntmps54
    go_wp2_with fail
    refine HR.out.mono ?_
    rintro e w2 ⟨rfl, ha2, ho2⟩
    go_wp2
    go_ret
    refine ⟨?_, ha2, ho2⟩
    have hz := HZ.out
    simp only [IntKind.wrap_i64] at hz
    rw [← hz]
    simp [wrap64]
  | error k =>
    rw [hu] at hr
    have HR := Lib.hid hr
    clear hr hu
    go_enter Try.func54, Try.ntmps54
    go_wp2_with fail
    refine HR.out.mono ?_
    rintro e w2 ⟨rfl, ho2⟩
    unfold gives
    go_wp2
    exact ⟨rfl, rfl, ho2⟩
end Go.Proofs.Ytemhinagajfemaa
