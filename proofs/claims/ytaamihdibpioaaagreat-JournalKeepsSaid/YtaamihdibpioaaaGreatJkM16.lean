/- What a reader reads: a byte, a number. -/
import Derived.Test.YtaamihdibpioaaaGreatJkM6
import Derived.Test.YtaamihdibpioaaaGreatJkM13
import Derived.Test.YtaamihdibpioaaaGreatJkM15
import Derived.BigGuardPart
import Derived.Deep.QuietTactic
import Derived.BigQuiet
import Derived.Recover
import Derived.StillTailTactics
import Derived.Laws.Externs
namespace Go.Proofs.YtaamihdibpioaaaGreat
set_option linter.unusedVariables false
open Go.RowKit

theorem must_ok (e : Int) (w : World) : Calls Tryz.prog 151 #[.bool true, .int .i64 e] w fun e w' => e = .returned (.tuple #[]) ∧ w = w' := by
  go_enter Tryz.func151, Tryz.ntmps151
  go_wp2
  go_end0
  exact ⟨rfl, rfl⟩
theorem must_true (b : Bool) (e : Int) (w : World) (h : b = true) : Calls Tryz.prog 151 #[.bool b, .int .i64 e] w fun e w' => e = .returned (.tuple #[]) ∧ w = w' := by
  subst h
  exact must_ok e w
theorem must_bad (k : Int) (w : World) : Calls Tryz.prog 151 #[.bool false, .int .i64 k] w fun e w' => e = .panicked [{ v := .iface 25 (.int .i64 k), recovered := false }] ∧ w = w' := by
  go_enter Tryz.func151, Tryz.ntmps151
  go_wp2
  exact ⟨rfl, rfl, rfl⟩

theorem must_false (b : Bool) (k : Int) (w : World) (h : b = false) : Calls Tryz.prog 151 #[.bool b, .int .i64 k] w fun e w' => e = .panicked [{ v := .iface 25 (.int .i64 k), recovered := false }] ∧ w = w' := by
  subst h
  exact must_bad k w

/-- Gave up with error k. -/
def gives (k : Int) : Ending := .panicked [{ v := .iface 25 (.int .i64 k), recovered := false }]
/-- The reader in block g stands at p. -/
def At (w : World) (g : Nat) (s : ByteArray) (p : Nat) (parts : Int) : Prop := Blk w g 220 #[.string s, .int .i64 p, .int .i64 parts]

def ByteRead (s : ByteArray) (p : Nat) (parts : Int) (g : Nat) (c : UInt8) (w : World) (e : Ending) (w' : World) : Prop :=
  e = .returned (.int .u8 c.toNat) ∧ At w' g s (p + 1) parts ∧ Only w w' g
def GaveUp (k : Int) (g : Nat) (w : World) (e : Ending) (w' : World) : Prop := e = gives k ∧ Only w w' g

set_option maxHeartbeats 1000000 in
set_option maxRecDepth 100000 in
theorem byte_torn (s : ByteArray) (p : Nat) (parts : Int) (g : Nat) (w : World) (hs : s.size ≤ 100000) (hp : s.size ≤ p) (hp2 : p ≤ 100000) (h : At w g s p parts) :
    Calls Tryz.prog 150 #[.pointer (some ⟨g, 0, none⟩)] w fun e w' => GaveUp 14 g w e w' := by
  have hd : decide ((p : Int) < (s.size : Int)) = false := by simp; omega
  have hd2 : decide (p < s.size) = false := by simp; omega
  have h0 := h.cell 0
  have h1 := h.cell 1
  simp at h0 h1
  go_enter Tryz.func150, Tryz.ntmps150
  go_wp2
  go_still_tail 10, (by kernel_rfl)
  change wpList _ _ _ _ _ w.drew
  go_wp2_with fail
  refine (must_bad _ _).mono ?_
  rintro e w' ⟨rfl, rfl⟩
  go_wp2
  exact ⟨rfl, rfl, (Only.refl w g).drew⟩

set_option maxHeartbeats 1000000 in
set_option maxRecDepth 100000 in
theorem byte_ok (s : ByteArray) (p : Nat) (parts : Int) (g : Nat) (w : World) (hs : s.size ≤ 100000) (hp : p < s.size) (h : At w g s p parts) :
    Calls Tryz.prog 150 #[.pointer (some ⟨g, 0, none⟩)] w fun e w' => ByteRead s p parts g (s[p]'hp) w e w' := by
  have hd : decide ((p : Int) < (s.size : Int)) = true := by simp; omega
  have hd2 : decide (p < s.size) = true := by simp; omega
  have h0 := h.cell 0
  have h1 := h.cell 1
  have hf := h.frozen 1
  simp at h0 h1
  have hlt : (p : Int) < (s.size : Int) := by omega
  have hi1 : (0 : Int) ≤ (p : Int) := by omega
  have hsub : IntKind.i64.wrap (p : Int) = (p : Int) := IntWalk.i64_in _ (by omega)
  have hw1 : IntKind.i64.wrap ((p : Int) + 1) = (p : Int) + 1 := IntWalk.i64_in _ (by omega)
  obtain ⟨W, hW⟩ : ∃ W, W = (w.setCell ⟨g, 1, none⟩ (.int .i64 ((p : Int) + 1))).drew := ⟨_, rfl⟩
  have h2 : At W g s (p + 1) parts := by
    rw [hW]
    exact (Blk.set_ h 1 (.int .i64 ((p : Int) + 1)))
  have hO : Only w W g := by rw [hW]; exact ((Only.refl w g).set_ (p := ⟨g, 1, none⟩) (.inl rfl) _).drew
  have g0 := h2.cell 0
  have g1 := h2.cell 1
  simp at g0 g1
  obtain ⟨c, hc⟩ : ∃ c, c = s[p]'hp := ⟨_, rfl⟩
  rw [← hc]
  have H2 := Lib.hid h2; have HO := Lib.hid hO; have HW := Lib.hid hW
  clear h2 hO hW
  go_enter Tryz.func150, Tryz.ntmps150
  go_wp2
  go_still_tail 10, (by kernel_rfl)
  change wpList _ _ _ _ _ w.drew
  go_wp2_with fail
  refine (must_ok _ _).mono ?_
  rintro e w' ⟨rfl, rfl⟩
  go_wp2
  rw [← HW.out]
  go_quiet (fail)
  go_wp2
  go_ret
  exact ⟨by rw [hc]; rfl, Blk.drewN H2.out nq, HO.out.drewN nq⟩

theorem u8_and127 (x : Nat) (h : x < 256) : bits .and .u8 (x : Int) 127 = ((x % 128 : Nat) : Int) := by
  have key : ∀ x : Fin 256, bits .and .u8 ((x.val : Nat) : Int) 127 = ((x.val % 128 : Nat) : Int) := by decide +kernel
  exact key ⟨x, h⟩

theorem pow128 (i : Nat) : (2 : Nat) ^ (7 * i) = 128 ^ i := by rw [Nat.pow_mul]
theorem group_lt {c i : Nat} (hi : i < 10) (hc : i < 9 ∨ c ≤ 1) : c % 128 * 128 ^ i ≤ 9223372036854775808 := by
  rcases hc with h | h
  · have h1 : 128 ^ i ≤ 128 ^ 8 := Nat.pow_le_pow_right (by omega) (by omega)
    have h2 : c % 128 * 128 ^ i ≤ 127 * 128 ^ 8 := Nat.mul_le_mul (by omega) h1
    have h3 : (127 : Nat) * 128 ^ 8 = 9151314442816847872 := by decide
    omega
  · have h1 : 128 ^ i ≤ 128 ^ 9 := Nat.pow_le_pow_right (by omega) (by omega)
    have h2 : c % 128 * 128 ^ i ≤ 1 * 128 ^ 9 := Nat.mul_le_mul (by omega) h1
    have h3 : (1 : Nat) * 128 ^ 9 = 9223372036854775808 := by decide
    omega
theorem pow_lt {i : Nat} (hi : i < 10) : 128 ^ i ≤ 9223372036854775808 := by
  have h1 : 128 ^ i ≤ 128 ^ 9 := Nat.pow_le_pow_right (by omega) (by omega)
  have h3 : (128 : Nat) ^ 9 = 9223372036854775808 := by decide
  omega
theorem ofInt_u64 (a : Nat) (ha : a < 18446744073709551616) : (BitVec.ofInt 64 (a : Int)).toNat = a := by
  rw [BitVec.ofInt_natCast, BitVec.toNat_ofNat]; exact Nat.mod_eq_of_lt (by omega)
theorem u64_or_nat (a b : Nat) (ha : a < 18446744073709551616) (hb : b < 18446744073709551616) : bits .or .u64 (a : Int) (b : Int) = ((a ||| b : Nat) : Int) := by
  have hx : a ||| b < 2 ^ 64 := Nat.or_lt_two_pow (by omega) (by omega)
  show IntKind.u64.wrap ((BitVec.ofInt 64 (a : Int) ||| BitVec.ofInt 64 (b : Int)).toNat : Int) = _
  rw [BitVec.toNat_or, ofInt_u64 a ha, ofInt_u64 b hb, IntKind.wrap_u64]
  omega
theorem group_or {n c i : Nat} (hi : i < 10) (hc : i < 9 ∨ c ≤ 1) (hn : n < 128 ^ i) :
    bits .or .u64 (n : Int) ((c % 128 * 128 ^ i : Nat) : Int) = ((n + c % 128 * 128 ^ i : Nat) : Int) := by
  have h1 := group_lt hi hc
  have h2 := pow_lt hi
  rw [u64_or_nat _ _ (by omega) (by omega)]
  have h3 := Nat.shiftLeft_add_eq_or_of_lt (b := n) (i := 7 * i) (by rw [pow128]; exact hn) (c % 128)
  rw [Nat.shiftLeft_eq, pow128] at h3
  rw [Nat.or_comm, ← h3, Nat.add_comm]
theorem group_shl {n c i : Nat} (hi : i < 10) (hc : i < 9 ∨ c ≤ 1) (hn : n < 128 ^ i) :
    bits .or .u64 (n : Int) (IntKind.u64.wrap ((c : Int) % 128 * 2 ^ (7 * i))) = ((n + c % 128 * 128 ^ i : Nat) : Int) := by
  have h1 := group_lt hi hc
  have e : (c : Int) % 128 * 2 ^ (7 * i) = ((c % 128 * 128 ^ i : Nat) : Int) := by
    rw [← pow128]; simp
  rw [e, IntKind.wrap_u64, show ((c % 128 * 128 ^ i : Nat) : Int) % 18446744073709551616 = ((c % 128 * 128 ^ i : Nat) : Int) by omega]
  exact group_or hi hc hn
theorem group_next {n c i : Nat} (hn : n < 128 ^ i) : n + c % 128 * 128 ^ i < 128 ^ (i + 1) := by
  have : c % 128 * 128 ^ i ≤ 127 * 128 ^ i := Nat.mul_le_mul_right _ (by omega)
  rw [Nat.pow_succ]
  omega

/-- A number from place p on: what was read ahead of it (i groups, n), then the number and the place behind it; or the error. -/
def readU (s : ByteArray) (p i n : Nat) : Except Int (Nat × Nat) :=
  if h : p < s.size then
    if i < 10 ∧ (i < 9 ∨ (s[p]'h).toNat ≤ 1) ∧ (i = 0 ∨ (s[p]'h).toNat ≠ 0) then
      if (s[p]'h).toNat < 128 then .ok (n + (s[p]'h).toNat % 128 * 128 ^ i, p + 1) else readU s (p + 1) (i + 1) (n + (s[p]'h).toNat % 128 * 128 ^ i)
    else .error 5
  else .error 14
termination_by s.size - p

theorem readU_torn {s : ByteArray} {p i n : Nat} (h : ¬ p < s.size) : readU s p i n = .error 14 := by rw [readU, dif_neg h]
theorem readU_bad {s : ByteArray} {p i n : Nat} (h : p < s.size) (hb : ¬ (i < 10 ∧ (i < 9 ∨ (s[p]'h).toNat ≤ 1) ∧ (i = 0 ∨ (s[p]'h).toNat ≠ 0))) : readU s p i n = .error 5 := by rw [readU, dif_pos h, if_neg hb]
theorem readU_end {s : ByteArray} {p i n : Nat} (h : p < s.size) (hb : i < 10 ∧ (i < 9 ∨ (s[p]'h).toNat ≤ 1) ∧ (i = 0 ∨ (s[p]'h).toNat ≠ 0)) (hl : (s[p]'h).toNat < 128) : readU s p i n = .ok (n + (s[p]'h).toNat % 128 * 128 ^ i, p + 1) := by
  rw [readU, dif_pos h, if_pos hb, if_pos hl]
theorem readU_on {s : ByteArray} {p i n : Nat} (h : p < s.size) (hb : i < 10 ∧ (i < 9 ∨ (s[p]'h).toNat ≤ 1) ∧ (i = 0 ∨ (s[p]'h).toNat ≠ 0)) (hl : ¬ (s[p]'h).toNat < 128) : readU s p i n = readU s (p + 1) (i + 1) (n + (s[p]'h).toNat % 128 * 128 ^ i) := by
  rw [readU, dif_pos h, if_pos hb, if_neg hl]

def NumRead (r : Except Int (Nat × Nat)) (s : ByteArray) (parts : Int) (g : Nat) (w : World) (e : Ending) (w' : World) : Prop :=
  match r with
  | .ok (n, q) => e = .returned (.int .u64 n) ∧ At w' g s q parts ∧ Only w w' g
  | .error k => e = gives k ∧ Only w w' g

def Reads5 (s : ByteArray) (p i n p0 : Nat) : Prop := i ≤ 10 ∧ n < 128 ^ i ∧ p ≤ s.size ∧ readU s p0 0 0 = readU s p i n

set_option maxHeartbeats 1000000 in
set_option maxRecDepth 20000 in
theorem ruint_any (s : ByteArray) (p : Nat) (parts : Int) (g : Nat) (w : World) (hs : s.size ≤ 100000) (hp : p ≤ s.size) (h : At w g s p parts) :
    Calls Tryz.prog 126 #[.pointer (some ⟨g, 0, none⟩)] w fun e w' => NumRead (readU s p 0 0) s parts g w e w' := by
  have H := Lib.hid h
  clear h
  go_enter Tryz.func126, Tryz.ntmps126
  go_wp2_with fail
  go_loopw [2, 3] (fun nv iv wr => ∃ i n q : Nat, nv = .int .u64 n ∧ iv = .int .i64 i ∧ Hid (Reads5 s q i n p) ∧ Hid (At wr g s q parts) ∧ Hid (Only w wr g)) (fun _ iv _ => (11 - intOf iv).toNat)
  case atStart => exact ⟨0, 0, p, rfl, rfl, Lib.hid ⟨by omega, by decide, hp, rfl⟩, H, Lib.hid (Only.refl w g)⟩
  case round =>
    obtain ⟨i, n, q, rfl, rfl, HR, HA, HO⟩ := hrel
    by_cases hq : q < s.size
    · obtain ⟨c, hc⟩ : ∃ c, c = s[q]'hq := ⟨_, rfl⟩
      have hb := byte_ok s q parts g wr hs hq HA.out
      rw [← hc] at hb
      have HB := Lib.hid hb
      have hru := HR.out.2.2.2
      have hn := HR.out.2.1
      have hi := HR.out.1
      have hc8 := c.toNat_lt
      have hend := readU_end (s := s) (i := i) (n := n) hq
      have hon := readU_on (s := s) (i := i) (n := n) hq
      have hbad := readU_bad (s := s) (i := i) (n := n) hq
      rw [← hc] at hend hon hbad
      rw [← hru] at hend hon hbad
      have HEND := Lib.hid hend; have HON := Lib.hid hon; have HBAD := Lib.hid hbad; have HN := Lib.hid hn
      clear hend hon hbad hru hb hc hn
      by_cases hok : i < 10 ∧ (i < 9 ∨ c.toNat ≤ 1) ∧ (i = 0 ∨ c.toNat ≠ 0)
      · have HOK := Lib.hid hok
        obtain ⟨hk1, hk2, hk3⟩ := hok
        have hor0 : i = 0 → bits .or .u64 (n : Int) ((c.toNat : Int) % 128) = ((n + c.toNat % 128 * 128 ^ i : Nat) : Int) := fun h0 => by
          have := group_or HOK.out.1 HOK.out.2.1 HN.out
          rw [← this, h0]
          simp
        have HOR0 := Lib.hid hor0
        clear hor0
        have hand : bits .and .u8 (c.toNat : Int) 127 = ((c.toNat % 128 : Nat) : Int) := u8_and127 _ hc8
        have h7 : IntKind.i64.wrap (7 * (i : Int)) = 7 * (i : Int) := IntWalk.i64_in _ (by omega)
        have h7n : decide (7 * (i : Int) < 0) = false := by simp; omega
        clear HA HR
        go_wp2_with fail
        all_goals
          refine HB.out.mono ?_
          rintro e w2 ⟨rfl, ha2, ho2⟩
          have HA2 := Lib.hid ha2
          have HO2 := Lib.hid (HO.out.trans ho2)
          clear ha2 ho2 HB HO
          go_wp2_with fail
        all_goals try (exfalso; omega)
        all_goals
          refine (must_true _ _ _ (by first | rfl | (simp; omega))).mono ?_
          rintro e w3 ⟨rfl, rfl⟩
          go_wp2_with fail
        all_goals
          first
          | (go_ret
             refine HEND.out HOK.out (by omega) ▸ ?_
             first
             | exact ⟨by rw [← group_shl HOK.out.1 HOK.out.2.1 HN.out]; rfl, HA2.out, HO2.out⟩
             | exact ⟨by rw [← HOR0.out (by omega)]; rfl, HA2.out, HO2.out⟩)
          | (go_roundw
             case rel =>
               first
               | exact ⟨i + 1, _, q + 1, by rw [group_shl HOK.out.1 HOK.out.2.1 HN.out], rfl, Lib.hid ⟨by omega, group_next HN.out, hq, HON.out HOK.out (by omega)⟩, HA2, HO2⟩
               | exact ⟨i + 1, _, q + 1, by rw [HOR0.out (by omega)], by simp; omega, Lib.hid ⟨by omega, group_next HN.out, hq, HON.out HOK.out (by omega)⟩, HA2, HO2⟩
             case measure => simp [intOf]; omega)
      · have he := HBAD.out hok
        have HE := Lib.hid he
        have HK2 := Lib.hid hok
        clear HA HR he hok
        go_wp2_with fail
        all_goals
          refine HB.out.mono ?_
          rintro e w2 ⟨rfl, ha2, ho2⟩
          have HO2 := Lib.hid (HO.out.trans ho2)
          clear ha2 ho2 HB HO
          go_wp2_with fail
        all_goals try (exfalso; have := HK2.out; omega)
        all_goals
          refine (must_false _ _ _ (by first | rfl | (have := HK2.out; simp; omega))).mono ?_
          rintro e w3 ⟨rfl, rfl⟩
          go_wp2
          exact ⟨rfl, by unfold NumRead; rw [HE.out]; exact ⟨rfl, HO2.out⟩⟩
    · have hb := Lib.hid (byte_torn s q parts g wr hs (by omega) (by have := HR.out.2.2.1; omega) HA.out)
      have he : readU s p 0 0 = .error 14 := by rw [HR.out.2.2.2, readU_torn hq]
      have HE := Lib.hid he
      clear he HR HA
      go_wp2_with fail
      refine hb.out.mono ?_
      rintro e w2 ⟨rfl, ho2⟩
      have ho := HO.out.trans ho2
      clear hb HO ho2
      unfold gives
      go_wp2
      refine ⟨rfl, ?_⟩
      unfold NumRead
      rw [HE.out]
      exact ⟨rfl, ho⟩
end Go.Proofs.YtaamihdibpioaaaGreat

/- What a reader reads as a number with a sign. -/
namespace Go.Proofs.YtaamihdibpioaaaGreat
set_option linter.unusedVariables false
open Go.RowKit

def unzig (n : Nat) : Int := if n % 2 = 1 then -1 - ((n / 2 : Nat) : Int) else ((n / 2 : Nat) : Int)
theorem u64_and_nat (a b : Nat) (ha : a < 18446744073709551616) (hb : b < 18446744073709551616) : bits .and .u64 (a : Int) (b : Int) = ((a &&& b : Nat) : Int) := by
  have hx : a &&& b < 2 ^ 64 := Nat.and_lt_two_pow _ (by omega)
  show IntKind.u64.wrap ((BitVec.ofInt 64 (a : Int) &&& BitVec.ofInt 64 (b : Int)).toNat : Int) = _
  rw [BitVec.toNat_and, ofInt_u64 a ha, ofInt_u64 b hb, IntKind.wrap_u64]
  omega
theorem u64_and_one (n : Nat) (h : n < 18446744073709551616) : bits .and .u64 (n : Int) 1 = ((n % 2 : Nat) : Int) := by
  have := u64_and_nat n 1 h (by omega)
  rw [Nat.and_one_is_mod] at this
  exact this
theorem i64_xor_zero (a : Nat) (ha : a < 9223372036854775808) : bits .xor .i64 (a : Int) 0 = a := by
  have := i64_xor_nat a 0 ha (by omega)
  simpa using this
theorem i64_xor_m1 (a : Nat) (ha : a < 9223372036854775808) : bits .xor .i64 (a : Int) (-1) = -1 - (a : Int) := by
  show IntKind.i64.wrap ((BitVec.ofInt 64 (a : Int) ^^^ BitVec.ofInt 64 (-1)).toNat : Int) = _
  have e : BitVec.ofInt 64 (-1) = BitVec.allOnes 64 := by decide
  rw [e, BitVec.xor_allOnes, BitVec.toNat_not, ofInt_i64 a ha, IntKind.wrap_i64]
  omega
theorem readU_lt (s : ByteArray) (p i n : Nat) (hn : n < 128 ^ i) (hi : i ≤ 10) : ∀ m q, readU s p i n = .ok (m, q) → m < 18446744073709551616 ∧ p < q ∧ q ≤ s.size := by
  intro m q hr
  by_cases hp : p < s.size
  · by_cases hb : i < 10 ∧ (i < 9 ∨ (s[p]'hp).toNat ≤ 1) ∧ (i = 0 ∨ (s[p]'hp).toNat ≠ 0)
    · by_cases hl : (s[p]'hp).toNat < 128
      · rw [readU_end hp hb hl] at hr
        have h1 := group_lt (c := (s[p]'hp).toNat) hb.1 hb.2.1
        have h2 := pow_lt hb.1
        injection hr with hr
        injection hr with h3 h4
        omega
      · rw [readU_on hp hb hl] at hr
        have := readU_lt s (p + 1) (i + 1) _ (group_next hn) (by omega) m q hr
        omega
    · rw [readU_bad hp hb] at hr
      cases hr
  · rw [readU_torn hp] at hr
    cases hr
termination_by s.size - p
theorem unzig_go (n : Nat) (h : n < 18446744073709551616) : bits .xor .i64 (IntKind.i64.wrap ((n : Int) / 2)) (IntKind.i64.wrap (-(IntKind.i64.wrap (bits .and .u64 (n : Int) 1)))) = unzig n := by
  rw [u64_and_one n h]
  have e1 : IntKind.i64.wrap ((n : Int) / 2) = ((n / 2 : Nat) : Int) := (IntWalk.i64_in _ (by omega)).trans (by omega)
  rw [e1]
  unfold unzig
  by_cases hp : n % 2 = 1
  · rw [if_pos hp, hp]
    exact i64_xor_m1 (n / 2) (by omega)
  · have h0 : n % 2 = 0 := by omega
    rw [if_neg hp, h0]
    exact i64_xor_zero (n / 2) (by omega)

def IntRead (r : Except Int (Nat × Nat)) (s : ByteArray) (parts : Int) (g : Nat) (w : World) (e : Ending) (w' : World) : Prop :=
  match r with
  | .ok (n, q) => e = .returned (.int .i64 (unzig n)) ∧ At w' g s q parts ∧ Only w w' g
  | .error k => e = gives k ∧ Only w w' g

set_option maxHeartbeats 1000000 in
theorem rint_any (s : ByteArray) (p : Nat) (parts : Int) (g : Nat) (w : World) (hs : s.size ≤ 100000) (hp : p ≤ s.size) (h : At w g s p parts) :
    Calls Tryz.prog 176 #[.pointer (some ⟨g, 0, none⟩)] w fun e w' => IntRead (readU s p 0 0) s parts g w e w' := by
  have hr := ruint_any s p parts g w hs hp h
  clear h
  cases hu : readU s p 0 0 with
  | ok nq =>
    obtain ⟨n, q⟩ := nq
    rw [hu] at hr
    have hz := unzig_go n (readU_lt s p 0 0 (by decide) (by omega) n q hu).1
    have HZ := Lib.hid hz
    have HR := Lib.hid hr
    clear hr hu hz
    go_enter Tryz.func176, Tryz.ntmps176
    go_wp2_with fail
    refine HR.out.mono ?_
    rintro e w2 ⟨rfl, ha2, ho2⟩
    go_wp2
    go_ret
    refine ⟨?_, ha2, ho2⟩
    have hz := HZ.out
    simp only [IntKind.wrap_i64] at hz
    rw [← hz]
    simp [wrap64]
  | error k =>
    rw [hu] at hr
    have HR := Lib.hid hr
    clear hr hu
    go_enter Tryz.func176, Tryz.ntmps176
    go_wp2_with fail
    refine HR.out.mono ?_
    rintro e w2 ⟨rfl, ho2⟩
    unfold gives
    go_wp2
    exact ⟨rfl, rfl, ho2⟩
end Go.Proofs.YtaamihdibpioaaaGreat

/- What is written for a bool, and for a float. -/
namespace Go.Proofs.YtaamihdibpioaaaGreat
set_option linter.unusedVariables false
open Go.RowKit

theorem bits_run0 (f : Nat) (w : World) : (callFunc 129 #[.float .f64 f]).run Tryz.prog w = .ok (.value (.int .u64 f)) w := by
  rw [run_callFunc_extern Tryz.func129 (by kernel_rfl) (by kernel_rfl) (by kernel_rfl) (e := Extern.MathFloatBits.float64bits) (by kernel_rfl)]
  rfl

/-- The eight bytes of a float's bits, the highest ones first. -/
def fbyte (x k : Nat) : UInt8 := UInt8.ofNat (x / 2 ^ (56 - 8 * k) % 256)
theorem fbyte_nat (x k : Nat) : ((x : Int) / 2 ^ (56 - 8 * k) % 256) = ((fbyte x k).toNat : Int) := by
  have e : ((x : Int) / 2 ^ (56 - 8 * k) % 256) = ((x / 2 ^ (56 - 8 * k) % 256 : Nat) : Int) := by simp
  have h : (fbyte x k).toNat = x / 2 ^ (56 - 8 * k) % 256 := by unfold fbyte; simp
  rw [e, h]
def fbytes (x k : Nat) : List UInt8 := (List.range k).map (fbyte x)
theorem fbytes_succ (x k : Nat) : fbytes x (k + 1) = fbytes x k ++ [fbyte x k] := by simp [fbytes, List.range_succ]

end Go.Proofs.YtaamihdibpioaaaGreat
