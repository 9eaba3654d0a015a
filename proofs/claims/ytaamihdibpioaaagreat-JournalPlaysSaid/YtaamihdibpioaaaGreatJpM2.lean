/- The sum of layer 6, in plain numbers: bit by bit, and by half bytes. No program in sight. -/
set_option maxRecDepth 100000
set_option maxHeartbeats 40000000
namespace Go.Proofs.YtaamihdibpioaaaGreat.Crc
def P : Nat := 3988292384
def st (c : Nat) : Nat := if c % 2 = 1 then c / 2 ^^^ P else c / 2
def st4 (c : Nat) : Nat := st (st (st (st c)))
theorem xor_mod2 (a b : Nat) : (a ^^^ b) % 2 = (a % 2 + b % 2) % 2 := by
 have h := Nat.testBit_xor a b 0; simp only [Nat.testBit_zero] at h; have h1 : (a ^^^ b) % 2 = 0 \/ (a ^^^ b) % 2 = 1 := by omega
 have h2 : a % 2 = 0 \/ a % 2 = 1 := by omega
 have h3 : b % 2 = 0 \/ b % 2 = 1 := by omega
 rcases h1 with h1 | h1 <;> rcases h2 with h2 | h2 <;> rcases h3 with h3 | h3 <;> simp [h1,h2,h3] at h ⊢
theorem xor_div2 (a b : Nat) : (a ^^^ b) / 2 = a / 2 ^^^ b / 2 := by
 apply Nat.eq_of_testBit_eq
 intro i; simp only [Nat.testBit_xor, <- Nat.testBit_succ]
theorem st_xor (a b : Nat) : st (a ^^^ b) = st a ^^^ st b := by
 unfold st; rw [xor_mod2,xor_div2]; have h2 : a % 2 = 0 \/ a % 2 = 1 := by omega
 have h3 : b % 2 = 0 \/ b % 2 = 1 := by omega
 rcases h2 with h2 | h2 <;> rcases h3 with h3 | h3 <;> simp [h2,h3]
 ·rw [Nat.xor_assoc]
 ·rw [Nat.xor_assoc,Nat.xor_assoc,Nat.xor_comm P]
 ·rw [Nat.xor_assoc,Nat.xor_comm P,Nat.xor_assoc,Nat.xor_self,Nat.xor_zero]
theorem st4_xor (a b : Nat) : st4 (a ^^^ b) = st4 a ^^^ st4 b := by
 unfold st4; simp only [st_xor]
theorem st_even (k : Nat) : st (2 * k) = k := by
 unfold st; rw [if_neg (by omega)]; omega
theorem st4_16 (m : Nat) : st4 (16 * m) = m := by
 unfold st4; rw [show 16 * m = 2 * (2 * (2 * (2 * m))) by omega]
 simp only [st_even]
theorem split16 (c : Nat) : c = 16 * (c / 16) ^^^ c % 16 := by
 apply Nat.eq_of_testBit_eq
 intro i; rw [Nat.testBit_xor]; have h1 : (16 * (c / 16)).testBit i = (decide (4 <= i) && (c / 16).testBit (i - 4)) := Nat.testBit_two_pow_mul (i := 4) (a := c / 16) (j := i); have h2 : (c % 16).testBit i = (decide (i < 4) && c.testBit i) := Nat.testBit_mod_two_pow c 4 i; rw [h1,h2]
 by_cases h : i < 4
 ·simp [h,show ¬ 4 <= i by omega]
 ·have h3 : (c / 16).testBit (i - 4) = c.testBit i := by
   have := Nat.testBit_div_two_pow (n := 4) c (i - 4); rw [show i - 4 + 4 = i by omega] at this
   exact this
  simp [h,show 4 <= i by omega,h3]
theorem st4_half (c : Nat) : c / 16 ^^^ st4 (c % 16) = st4 c := by
 conv => rhs; rw [split16 c,st4_xor,st4_16]
theorem st_lt {c : Nat} (h : c < 4294967296) : st c < 4294967296 := by
 unfold st
 split
 ·exact Nat.xor_lt_two_pow (n := 32) (by omega) (by decide)
 ·omega
theorem st4_lt {c : Nat} (h : c < 4294967296) : st4 c < 4294967296 := st_lt (st_lt (st_lt (st_lt h)))
def byte (c b : Nat) : Nat := st4 (st4 (c ^^^ b))
theorem byte_lt {c b : Nat} (h : c < 4294967296) (hb : b < 256) : byte c b < 4294967296 :=
 st4_lt (st4_lt (Nat.xor_lt_two_pow (n := 32) (by omega) (by omega)))
def run (l : List UInt8) : Nat := l.foldl (fun c b => byte c b.toNat) 4294967295
theorem run_snoc (l : List UInt8) (b : UInt8) : run (l ++ [b]) = byte (run l) b.toNat := by simp [run,List.foldl_append]
theorem fold_lt (l : List UInt8) : ∀ c, c < 4294967296 -> l.foldl (fun c b => byte c b.toNat) c < 4294967296 := by
 induction l with
 | nil => intro c h; exact h
 | cons b l ih => intro c h; exact ih _ (byte_lt h b.toNat_lt)
theorem run_lt (l : List UInt8) : run l < 4294967296 := fold_lt l _ (by omega)
def sum (l : List UInt8) : Nat := 4294967295 - run l
theorem sum_lt (l : List UInt8) : sum l < 4294967296 := by unfold sum; omega
end Go.Proofs.YtaamihdibpioaaaGreat.Crc
