/- A float's text: all that is asked of it is its first byte. -/
import Derived.Test.YtjpdbhhjlnmacaaGreatTcM3
import Derived.Laws.BytesArg
import Derived.BigGuardPart
import Derived.Deep.DeepCutAuto
namespace Go.Proofs.YtjpdbhhjlnmacaaGreat
set_option linter.unusedVariables false
open Go.RowKit

theorem minus_word {f : Nat} (hf : f < 18446744073709551616) : decide ((9223372036854775808 : Int) ≤ (f : Int)) = fneg f := by
  unfold fneg
  by_cases h : 9223372036854775808 ≤ f
  · have h1 : f / 9223372036854775808 % 2 = 1 := by omega
    have h2 : (9223372036854775808 : Int) ≤ (f : Int) := by omega
    rw [h1]; simp [h2]
  · have h1 : f / 9223372036854775808 % 2 = 0 := by omega
    have h2 : ¬ (9223372036854775808 : Int) ≤ (f : Int) := by omega
    rw [h1]; simp [h2]
set_option maxRecDepth 100000 in
theorem minus_any (f : Nat) (w : World) (hf : f < 18446744073709551616) : Calls Tryz.prog 119 #[.float .f64 f] w fun e w' => e = .returned (.bool (fneg f)) ∧ w = w' := by
  rw [← minus_word hf]
  go_enter Tryz.func119, Tryz.ntmps119
  go_wp2_with fail
  rw [bits_run, Oper.upon_value]
  go_wp2_with fail
  go_ret
  exact ⟨by simp, rfl⟩
/-- What the parts are, so far as it is asked. -/
def PartsDone (w : World) (e : Ending) (w' : World) : Prop := ∃ (m : Nat) (x : Int), e = .returned (.tuple #[.int .u64 m, .int .i64 x]) ∧ m < 18446744073709551616 ∧ -2000 ≤ x ∧ x ≤ 2000 ∧ w = w'
theorem mant_word (f : Nat) : ∃ M : Nat, IntKind.u64.wrap ((f : Int) * 4096) / 4096 = (M : Int) ∧ M < 4503599627370496 := by
  refine ⟨(f * 4096 % 18446744073709551616) / 4096, ?_, by omega⟩
  rw [IntKind.wrap_u64]
  omega
theorem exp_word (f : Nat) : ∃ X : Int, wrap64 (wrap64 (IntKind.u64.wrap ((f : Int) * 2) / 9007199254740992) - 1075) = X ∧ -1075 ≤ X ∧ X ≤ 972 := by
  refine ⟨_, rfl, ?_, ?_⟩
  · rw [IntKind.wrap_u64]; unfold wrap64; omega
  · rw [IntKind.wrap_u64]; unfold wrap64; omega
set_option maxHeartbeats 2000000 in
set_option maxRecDepth 100000 in
theorem parts03_any (f : Nat) (w : World) (hf : f < 18446744073709551616) : Calls Tryz.prog 120 #[.float .f64 f] w fun e w' => PartsDone w e w' := by
  obtain ⟨M, hM, hM2⟩ := mant_word f
  obtain ⟨X, hX, hX1, hX2⟩ := exp_word f
  have HM := Lib.hid hM; have HX := Lib.hid hX
  clear hM hX
  go_enter Tryz.func120, Tryz.ntmps120
  go_wp2_with fail
  rw [bits_run, Oper.upon_value]
  go_upto_region 4 with fail
  rw [HM.out, HX.out]
  go_upto_if 18 with fail
  go_cut [5, 6] (fun mv xv wx => ∃ (m : Nat) (x : Int), mv = .int .u64 m ∧ xv = .int .i64 x ∧ m < 9007199254740992 ∧ -1075 ≤ x ∧ x ≤ 972 ∧ w = wx)
  case first =>
    by_cases hx : X = -1075
    · subst hx
      go_wp2
      go_meet
      exact ⟨M, -1074, rfl, rfl, by omega, by omega, by omega, rfl⟩
    · have j1 : (X == -1075) = false := by simpa using hx
      have hw : IntKind.u64.wrap ((M : Int) + 4503599627370496) = ((M + 4503599627370496 : Nat) : Int) := by rw [IntKind.wrap_u64]; omega
      go_wp2
      go_meet
      exact ⟨M + 4503599627370496, X, congrArg (Value.int .u64) (by omega), rfl, by omega, hX1, hX2, rfl⟩
  case rest =>
  obtain ⟨m, x, rfl, rfl, hm, hx1, hx2, rfl⟩ := hcut
  clear HM HX hM2 hX1 hX2
  by_cases h0 : m = 0
  · subst h0
    go_wp2
    go_ret2
    exact ⟨0, 0, rfl, by omega, by omega, by omega, rfl⟩
  have j0 : ((m : Int) == 0) = false := by simp; omega
  go_wp2_with fail
  go_loopw [5, 6] (fun mv xv wr => ∃ (n j : Nat) (y : Int), mv = .int .u64 n ∧ xv = .int .i64 y ∧ y = x + j ∧ n ≠ 0 ∧ n * 2 ^ j ≤ m ∧ w = wr) (fun mv _ _ => (intOf mv).toNat)
  case atStart => exact ⟨m, 0, x, rfl, rfl, by omega, h0, by simp, rfl⟩
  case round =>
    obtain ⟨n, j, y, rfl, rfl, hy, hn0, hnj, rfl⟩ := hrel
    have hj : j ≤ 53 := by
      rcases Nat.lt_or_ge 53 j with h | h
      · exfalso
        have h1 : 2 ^ 53 ≤ 2 ^ j := Nat.pow_le_pow_right (by omega) (by omega)
        have h2 : 2 ^ j ≤ n * 2 ^ j := Nat.le_mul_of_pos_left _ (by omega)
        have h3 : (2 : Nat) ^ 53 = 9007199254740992 := by decide
        omega
      · exact h
    have hnm : n ≤ m := by
      have : n * 1 ≤ n * 2 ^ j := Nat.mul_le_mul_left n (Nat.one_le_two_pow)
      omega
    by_cases h2 : n % 2 = 0
    · have j2 : ((n : Int) % 2 == 0) = true := by simp; omega
      have hdv : IntKind.u64.wrap ((n : Int).tdiv 2) = ((n / 2 : Nat) : Int) := by rw [IntKind.wrap_u64, Int.tdiv_eq_ediv_of_nonneg (by omega)]; omega
      have hnj2 : n / 2 * 2 ^ (j + 1) ≤ m := by
        have : n / 2 * 2 ^ (j + 1) = n * 2 ^ j := by
          rw [Nat.pow_succ, ← Nat.mul_assoc, Nat.mul_right_comm, Nat.div_mul_cancel (Nat.dvd_of_mod_eq_zero h2)]
        omega
      have HNJ := Lib.hid hnj2
      clear hnj hnj2
      go_wp2
      go_roundw
      case rel => exact ⟨n / 2, j + 1, y + 1, by first | rfl | (simp), by first | rfl | go_num, by omega, by omega, HNJ.out, by trivial⟩
      case measure => simp [intOf]; omega
    · have j2 : ((n : Int) % 2 == 0) = false := by simp; omega
      clear hnj
      go_wp2
      go_ret2
      exact ⟨n, y, rfl, by omega, by omega, by omega, rfl⟩
theorem conv1 (c : Int) (w : World) : (convert (132 : Nat) (9 : Nat) (.slice (some ⟨w.heap.size, 0, none⟩) 1 1)).run Tryz.prog (w.alloc (.cells #[.int .u8 c] 5)) = .ok (.string (strOfNums [c])) (w.alloc (.cells #[.int .u8 c] 5)) := by
  refine run_convert_bytes_arg (P := Tryz.prog) _ 132 5 Tryz.underlying132 Tryz.underlying5 w.heap.size 0 1 1 [c] rfl (fun i hi => ?_) _ Tryz.underlying9
  obtain rfl : i = 0 := by omega
  rw [(Blk.new w 5 #[.int .u8 c]).cell]
  rfl
def DigitsDone (w : World) (e : Ending) (w' : World) : Prop := ∃ (t : ByteArray) (c : UInt8), e = .returned (.string t) ∧ t.size ≤ 21 ∧ t.data.toList.head? = some c ∧ 48 ≤ c.toNat ∧ c.toNat ≤ 57 ∧ Below w.heap.size w w'
theorem str1_head (c : Int) (s : ByteArray) : (strOfNums [c] ++ s).data.toList.head? = some (UInt8.ofNat c.toNat) ∧ (strOfNums [c] ++ s).size = 1 + s.size := by
  have h : (strOfNums [c]).data.toList = [UInt8.ofNat c.toNat] := by simp [strOfNums]
  refine ⟨?_, ?_⟩
  · rw [ByteArray.data_append, Array.toList_append, h]
    rfl
  · rw [ByteArray.size_append]
    congr 1
set_option maxHeartbeats 2000000 in
set_option maxRecDepth 100000 in
theorem digits_any (n : Nat) (w : World) (hn : n < 18446744073709551616) : Calls Tryz.prog 121 #[.int .u64 n] w fun e w' => DigitsDone w e w' := by
  go_enter Tryz.func121, Tryz.ntmps121
  go_wp2_with fail
  go_loopw [0, 3] (fun iv sv wr => ∃ (m j : Nat) (s : ByteArray), iv = .int .u64 m ∧ sv = .string s ∧ m < 18446744073709551616 ∧ j ≤ 20 ∧ s.size = j ∧ Hid (m * 10 ^ j ≤ n) ∧ Hid (j = 0 ∨ m ≠ 0) ∧ Hid (Below w.heap.size w wr)) (fun iv _ _ => (intOf iv).toNat)
  case atStart => exact ⟨n, 0, ByteArray.empty, rfl, rfl, hn, by omega, rfl, Lib.hid (by simp), Lib.hid (.inl rfl), Lib.hid (Below.refl _ _)⟩
  case round =>
    obtain ⟨m, j, s, rfl, rfl, h1, h2, h3, H4, H5, HB⟩ := hrel
    have HC := Lib.hid (fun W : World => conv1 (48 + (m : Int) % 10) W)
    obtain ⟨hh, hz⟩ := str1_head (48 + (m : Int) % 10) s
    have hj19 : j ≤ 19 := by
      rcases H5.out with h | h
      · omega
      · rcases Nat.lt_or_ge 19 j with h' | h'
        · exfalso
          have e1 : 10 ^ 20 ≤ 10 ^ j := Nat.pow_le_pow_right (by omega) (by omega)
          have e2 : 10 ^ j ≤ m * 10 ^ j := Nat.le_mul_of_pos_left _ (by omega)
          have e3 : (10 : Nat) ^ 20 = 100000000000000000000 := by decide
          have e4 := H4.out
          omega
        · exact h'
    obtain ⟨c, hc⟩ : ∃ c, c = UInt8.ofNat (48 + (m : Int) % 10).toNat := ⟨_, rfl⟩
    have hc2 : 48 ≤ c.toNat ∧ c.toNat ≤ 57 := by
      rw [hc]
      have : (48 + (m : Int) % 10).toNat < 256 := by omega
      rw [UInt8.toNat_ofNat_of_lt' this]
      omega
    rw [← hc] at hh
    obtain ⟨S1, hS1⟩ : ∃ S1, S1 = strOfNums [48 + (m : Int) % 10] := ⟨_, rfl⟩
    have hS : S1.size = 1 := by rw [hS1]; simp [strOfNums, ByteArray.size]
    rw [← hS1] at HC hh hz
    have HH := Lib.hid hh; have HC2 := Lib.hid hc2; have HZ := Lib.hid hz
    have hdm : IntKind.u64.wrap ((m : Int).tdiv 10) = ((m / 10 : Nat) : Int) := by rw [IntKind.wrap_u64, Int.tdiv_eq_ediv_of_nonneg (by omega)]; omega
    have HP : Hid (m / 10 * 10 ^ (j + 1) ≤ n) := Lib.hid (by
      have e1 : m / 10 * 10 ^ (j + 1) = m / 10 * 10 * 10 ^ j := by rw [Nat.pow_succ, Nat.mul_comm (10 ^ j) 10, Nat.mul_assoc]
      have e2 : m / 10 * 10 * 10 ^ j ≤ m * 10 ^ j := Nat.mul_le_mul_right _ (Nat.div_mul_le_self m 10)
      have e3 := H4.out
      omega)
    have HB2 := Lib.hid (HB.out.alloc HB.out.size (.cells #[.int .u8 (48 + (m : Int) % 10)] 5))
    clear hh hc hc2 hz hS1
    by_cases h10 : m / 10 = 0
    · have j10 : ((m : Int) / 10 == 0) = true := by simp; omega
      have j11 : (((m / 10 : Nat) : Int) == 0) = true := by simp; omega
      clear h10
      go_wp2_with fail
      rw [HC.out]
      go_wp2
      go_ret
      exact ⟨S1 ++ s, c, rfl, by rw [HZ.out]; omega, HH.out, HC2.out.1, HC2.out.2, HB2.out⟩
    · have j10 : ((m : Int) / 10 == 0) = false := by simp; omega
      have j11 : (((m / 10 : Nat) : Int) == 0) = false := by simp; omega
      have H10 := Lib.hid h10
      clear h10
      go_wp2_with fail
      rw [HC.out]
      go_wp2
      exact ⟨⟨m / 10, j + 1, S1 ++ s, by first | rfl | exact congrArg (Value.int .u64) (by omega), rfl, by omega, by omega, by rw [HZ.out]; omega, HP, Lib.hid (.inr H10.out), HB2⟩, by have := H10.out; simp [intOf]; omega⟩

def TextDone (neg : Bool) (w : World) (e : Ending) (w' : World) : Prop := ∃ (t : ByteArray) (c : UInt8), e = .returned (.string t) ∧ t.data.toList.head? = some c ∧ (c.toNat == 45) = neg ∧ Below w.heap.size w w'
theorem head_app {a b : ByteArray} {c : UInt8} (h : a.data.toList.head? = some c) : (a ++ b).data.toList.head? = some c := by
  rw [ByteArray.data_append, Array.toList_append]
  cases hl : a.data.toList with
  | nil => rw [hl] at h; cases h
  | cons x l => rw [hl] at h; exact h
theorem head_nil {b : ByteArray} : (⟨#[]⟩ ++ b : ByteArray) = b := by
  apply ByteArray.ext
  rw [ByteArray.data_append]
  simp
set_option maxHeartbeats 4000000 in
set_option maxRecDepth 100000 in
theorem text03_any (f : Nat) (w : World) (hf : f < 18446744073709551616) (hn : fnan f = false) : Calls Tryz.prog 102 #[.float .f64 f] w fun e w' => TextDone (fneg f) w e w' := by
  have HM := Lib.hid (fun W => minus_any f W hf)
  have HN := Lib.hid (fun W => rnan_any f W)
  have HPA := Lib.hid (fun W => parts03_any f W hf)
  rw [hn] at HN
  have HD := Lib.hid digits_any
  cases hg : fneg f with
  | false =>
    rw [hg] at HM
    clear hg hn
    go_enter Tryz.func102, Tryz.ntmps102
    go_wp2_with fail
    refine (HM.out _).mono ?_
    rintro e w1 ⟨rfl, rfl⟩
    go_wp2_with fail
    refine (HN.out _).mono ?_
    rintro e w1 ⟨rfl, rfl⟩
    go_wp2_with fail
    rw [bits_run, Oper.upon_value]
    by_cases hi : IntKind.u64.wrap ((f : Int) * 2) = 18437736874454810624
    · have ji : (IntKind.u64.wrap ((f : Int) * 2) == 18437736874454810624) = true := by simpa using hi
      clear hi
      go_wp2_with fail
      go_ret
      exact ⟨_, 105, rfl, by decide, by decide, Below.refl _ _⟩
    have ji : (IntKind.u64.wrap ((f : Int) * 2) == 18437736874454810624) = false := by simpa using hi
    clear hi
    go_wp2_with fail
    refine (HPA.out _).mono ?_
    rintro e w2 ⟨m, x, rfl, hm, hx1, hx2, rfl⟩
    have HC1 := Lib.hid (HD.out m w hm)
    go_wp2_with fail
    refine HC1.out.mono ?_
    rintro e w3 ⟨D, c, rfl, hDz, hDh, hc1, hc2, hb3⟩
    have HDH := Lib.hid hDh; have HB3 := Lib.hid hb3; have HC := Lib.hid (And.intro hc1 hc2)
    clear hDh hb3 hc1 hc2
    have z1 : ((⟨#[]⟩ : ByteArray) ++ D).size = 0 + D.size := by rw [ByteArray.size_append]; rfl
    have z2 : ((⟨#[]⟩ : ByteArray) ++ D ++ (⟨#[112]⟩ : ByteArray)).size = 0 + D.size + 1 := by rw [ByteArray.size_append, z1]; rfl
    have z3 : ((⟨#[]⟩ : ByteArray) ++ D ++ (⟨#[112]⟩ : ByteArray) ++ (⟨#[45]⟩ : ByteArray)).size = 0 + D.size + 2 := by rw [ByteArray.size_append, z2]; rfl
    by_cases hx : x < 0
    · have jx : decide (x < 0) = true := by simpa using hx
      have hneg : IntKind.u64.wrap (-x) = (((-x).toNat : Nat) : Int) := by rw [IntKind.wrap_u64]; omega
      have HC2 := Lib.hid (fun W => HD.out (-x).toNat W (by omega))
      rw [← hneg] at HC2
      clear hx hneg
      go_wp2_with fail
      refine (HC2.out _).mono ?_
      rintro e w4 ⟨D2, c2, rfl, hDz2, _, _, _, hb4⟩
      have HB4 := Lib.hid (HB3.out.trans (hb4.mono HB3.out.size))
      clear hb4
      go_wp2
      go_ret
      exact ⟨_, c, rfl, head_app (head_app (head_app (by rw [head_nil]; exact HDH.out))), (by have := HC.out; simp; omega), HB4.out⟩
    · have jx : decide (x < 0) = false := by simpa using hx
      have hneg : IntKind.u64.wrap x = ((x.toNat : Nat) : Int) := by rw [IntKind.wrap_u64]; omega
      have HC2 := Lib.hid (fun W => HD.out x.toNat W (by omega))
      rw [← hneg] at HC2
      clear hx hneg
      go_wp2_with fail
      refine (HC2.out _).mono ?_
      rintro e w4 ⟨D2, c2, rfl, hDz2, _, _, _, hb4⟩
      have HB4 := Lib.hid (HB3.out.trans (hb4.mono HB3.out.size))
      clear hb4
      go_wp2
      go_ret
      exact ⟨_, c, rfl, head_app (head_app (by rw [head_nil]; exact HDH.out)), (by have := HC.out; simp; omega), HB4.out⟩
  | true =>
    rw [hg] at HM
    clear hg hn
    go_enter Tryz.func102, Tryz.ntmps102
    go_wp2_with fail
    refine (HM.out _).mono ?_
    rintro e w1 ⟨rfl, rfl⟩
    go_wp2_with fail
    refine (HN.out _).mono ?_
    rintro e w1 ⟨rfl, rfl⟩
    go_wp2_with fail
    refine (HN.out _).mono ?_
    rintro e w1 ⟨rfl, rfl⟩
    go_wp2_with fail
    rw [bits_run, Oper.upon_value]
    by_cases hi : IntKind.u64.wrap ((f : Int) * 2) = 18437736874454810624
    · have ji : (IntKind.u64.wrap ((f : Int) * 2) == 18437736874454810624) = true := by simpa using hi
      clear hi
      go_wp2_with fail
      go_ret
      exact ⟨_, 45, rfl, by decide, by decide, Below.refl _ _⟩
    have ji : (IntKind.u64.wrap ((f : Int) * 2) == 18437736874454810624) = false := by simpa using hi
    clear hi
    go_wp2_with fail
    refine (HPA.out _).mono ?_
    rintro e w2 ⟨m, x, rfl, hm, hx1, hx2, rfl⟩
    have HC1 := Lib.hid (HD.out m w hm)
    go_wp2_with fail
    refine HC1.out.mono ?_
    rintro e w3 ⟨D, c, rfl, hDz, hDh, hc1, hc2, hb3⟩
    have HDH := Lib.hid hDh; have HB3 := Lib.hid hb3; have HC := Lib.hid (And.intro hc1 hc2)
    clear hDh hb3 hc1 hc2
    have z1 : ((⟨#[45]⟩ : ByteArray) ++ D).size = 1 + D.size := by rw [ByteArray.size_append]; rfl
    have z2 : ((⟨#[45]⟩ : ByteArray) ++ D ++ (⟨#[112]⟩ : ByteArray)).size = 1 + D.size + 1 := by rw [ByteArray.size_append, z1]; rfl
    have z3 : ((⟨#[45]⟩ : ByteArray) ++ D ++ (⟨#[112]⟩ : ByteArray) ++ (⟨#[45]⟩ : ByteArray)).size = 1 + D.size + 2 := by rw [ByteArray.size_append, z2]; rfl
    by_cases hx : x < 0
    · have jx : decide (x < 0) = true := by simpa using hx
      have hneg : IntKind.u64.wrap (-x) = (((-x).toNat : Nat) : Int) := by rw [IntKind.wrap_u64]; omega
      have HC2 := Lib.hid (fun W => HD.out (-x).toNat W (by omega))
      rw [← hneg] at HC2
      clear hx hneg
      go_wp2_with fail
      refine (HC2.out _).mono ?_
      rintro e w4 ⟨D2, c2, rfl, hDz2, _, _, _, hb4⟩
      have HB4 := Lib.hid (HB3.out.trans (hb4.mono HB3.out.size))
      clear hb4
      go_wp2
      go_ret
      exact ⟨_, 45, rfl, head_app (head_app (head_app (head_app (a := (⟨#[45]⟩ : ByteArray)) (c := 45) rfl))), (by decide), HB4.out⟩
    · have jx : decide (x < 0) = false := by simpa using hx
      have hneg : IntKind.u64.wrap x = ((x.toNat : Nat) : Int) := by rw [IntKind.wrap_u64]; omega
      have HC2 := Lib.hid (fun W => HD.out x.toNat W (by omega))
      rw [← hneg] at HC2
      clear hx hneg
      go_wp2_with fail
      refine (HC2.out _).mono ?_
      rintro e w4 ⟨D2, c2, rfl, hDz2, _, _, _, hb4⟩
      have HB4 := Lib.hid (HB3.out.trans (hb4.mono HB3.out.size))
      clear hb4
      go_wp2
      go_ret
      exact ⟨_, 45, rfl, head_app (head_app (head_app (a := (⟨#[45]⟩ : ByteArray)) (c := 45) rfl)), (by decide), HB4.out⟩
end Go.Proofs.YtjpdbhhjlnmacaaGreat
