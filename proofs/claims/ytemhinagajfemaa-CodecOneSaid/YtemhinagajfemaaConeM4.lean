/- What a reader reads as a number with a sign. -/
import Derived.Test.YtemhinagajfemaaConeM3
namespace Go.Proofs.Ytemhinagajfemaa
set_option linter.unusedVariables false
open Go.RowKit

def unzig (n : Nat) : Int := if n % 2 = 1 then -1 - ((n / 2 : Nat) : Int) else ((n / 2 : Nat) : Int)
theorem u64_and_nat (a b : Nat) (ha : a < 18446744073709551616) (hb : b < 18446744073709551616) : bits .and .u64 (a : Int) (b : Int) = ((a &&& b : Nat) : Int) := by
  have hx : a &&& b < 2 ^ 64 := Nat.and_lt_two_pow _ (by omega)
  show IntKind.u64.wrap ((BitVec.ofInt 64 (a : Int) &&& BitVec.ofInt 64 (b : Int)).toNat : Int) = _
  rw [BitVec.toNat_and, ofInt_u64 a ha, ofInt_u64 b hb, IntKind.wrap_u64]
  omega
theorem u64_and_one (n : Nat) (h : n < 18446744073709551616) : bits .and .u64 (n : Int) 1 = ((n % 2 : Nat) : Int) := by
  have := u64_and_nat n 1 h (by omega)
  rw [Nat.and_one_is_mod] at this
  exact this
theorem i64_xor_zero (a : Nat) (ha : a < 9223372036854775808) : bits .xor .i64 (a : Int) 0 = a := by
  have := i64_xor_nat a 0 ha (by omega)
  simpa using this
theorem i64_xor_m1 (a : Nat) (ha : a < 9223372036854775808) : bits .xor .i64 (a : Int) (-1) = -1 - (a : Int) := by
  show IntKind.i64.wrap ((BitVec.ofInt 64 (a : Int) ^^^ BitVec.ofInt 64 (-1)).toNat : Int) = _
  have e : BitVec.ofInt 64 (-1) = BitVec.allOnes 64 := by decide
  rw [e, BitVec.xor_allOnes, BitVec.toNat_not, ofInt_i64 a ha, IntKind.wrap_i64]
  omega
theorem readU_lt (s : ByteArray) (p i n : Nat) (hn : n < 128 ^ i) (hi : i ≤ 10) : ∀ m q, readU s p i n = .ok (m, q) → m < 18446744073709551616 ∧ p < q ∧ q ≤ s.size := by
  intro m q hr
  by_cases hp : p < s.size
  · by_cases hb : i < 10 ∧ (i < 9 ∨ (s[p]'hp).toNat ≤ 1) ∧ (i = 0 ∨ (s[p]'hp).toNat ≠ 0)
    · by_cases hl : (s[p]'hp).toNat < 128
      · rw [readU_end hp hb hl] at hr
        have h1 := group_lt (c := (s[p]'hp).toNat) hb.1 hb.2.1
        have h2 := pow_lt hb.1
        injection hr with hr
        injection hr with h3 h4
        omega
      · rw [readU_on hp hb hl] at hr
        have := readU_lt s (p + 1) (i + 1) _ (group_next hn) (by omega) m q hr
        omega
    · rw [readU_bad hp hb] at hr
      cases hr
  · rw [readU_torn hp] at hr
    cases hr
termination_by s.size - p
theorem unzig_go (n : Nat) (h : n < 18446744073709551616) : bits .xor .i64 (IntKind.i64.wrap ((n : Int) / 2)) (IntKind.i64.wrap (-(IntKind.i64.wrap (bits .and .u64 (n : Int) 1)))) = unzig n := by
  rw [u64_and_one n h]
  have e1 : IntKind.i64.wrap ((n : Int) / 2) = ((n / 2 : Nat) : Int) := (IntWalk.i64_in _ (by omega)).trans (by omega)
  rw [e1]
  unfold unzig
  by_cases hp : n % 2 = 1
  · rw [if_pos hp, hp]
    exact i64_xor_m1 (n / 2) (by omega)
  · have h0 : n % 2 = 0 := by omega
    rw [if_neg hp, h0]
    exact i64_xor_zero (n / 2) (by omega)

def IntRead (r : Except Int (Nat × Nat)) (s : ByteArray) (parts : Int) (g : Nat) (w : World) (e : Ending) (w' : World) : Prop :=
  match r with
  | .ok (n, q) => e = .returned (.int .i64 (unzig n)) ∧ At w' g s q parts ∧ Only w w' g
  | .error k => e = gives k ∧ Only w w' g

set_option maxHeartbeats 1000000 in
theorem rint_any (s : ByteArray) (p : Nat) (parts : Int) (g : Nat) (w : World) (hs : s.size ≤ 100000) (hp : p ≤ s.size) (h : At w g s p parts) :
    Calls Try.prog 54 #[.pointer (some ⟨g, 0, none⟩)] w fun e w' => IntRead (readU s p 0 0) s parts g w e w' := by
  have hr := ruint_any s p parts g w hs hp h
  clear h
  cases hu : readU s p 0 0 with
  | ok nq =>
    obtain ⟨n, q⟩ := nq
    rw [hu] at hr
    have hz := unzig_go n (readU_lt s p 0 0 (by decide) (by omega) n q hu).1
    have HZ := Lib.hid hz
    have HR := Lib.hid hr
    clear hr hu hz
    go_enter Try.func54, Try.ntmps54
    go_wp2_with fail
    refine HR.out.mono ?_
    rintro e w2 ⟨rfl, ha2, ho2⟩
    go_wp2
    go_ret
    refine ⟨?_, ha2, ho2⟩
    have hz := HZ.out
    simp only [IntKind.wrap_i64] at hz
    rw [← hz]
    simp [wrap64]
  | error k =>
    rw [hu] at hr
    have HR := Lib.hid hr
    clear hr hu
    go_enter Try.func54, Try.ntmps54
    go_wp2_with fail
    refine HR.out.mono ?_
    rintro e w2 ⟨rfl, ho2⟩
    unfold gives
    go_wp2
    exact ⟨rfl, rfl, ho2⟩
end Go.Proofs.Ytemhinagajfemaa

/- What a reader reads as a string. -/
namespace Go.Proofs.Ytemhinagajfemaa
set_option linter.unusedVariables false
open Go.RowKit

/-- A string of at most so many bytes: the string and the place behind it; or the error. -/
def readS (s : ByteArray) (p : Nat) (most : Int) : Except Int (ByteArray × Nat) :=
  match readU s p 0 0 with
  | .error k => .error k
  | .ok (n, q) => if (n : Int) ≤ most then (if n ≤ s.size - q then .ok (s.extract q (q + n), q + n) else .error 14) else .error 5

def StrRead (r : Except Int (ByteArray × Nat)) (s : ByteArray) (parts : Int) (g : Nat) (w : World) (e : Ending) (w' : World) : Prop :=
  match r with
  | .ok (t, q) => e = .returned (.string t) ∧ At w' g s q parts ∧ Only w w' g
  | .error k => e = gives k ∧ Only w w' g

set_option maxHeartbeats 1000000 in
set_option maxRecDepth 100000 in
theorem rstr_any (s : ByteArray) (p : Nat) (parts most : Int) (g : Nat) (w : World) (hs : s.size ≤ 100000) (hp : p ≤ s.size) (hm1 : -9223372036854775808 ≤ most) (hm2 : most ≤ 9223372036854775807) (h : At w g s p parts) :
    Calls Try.prog 56 #[.pointer (some ⟨g, 0, none⟩), .int .i64 most] w fun e w' => StrRead (readS s p most) s parts g w e w' := by
  have hr := ruint_any s p parts g w hs hp h
  clear h
  cases hu : readU s p 0 0 with
  | error k =>
    rw [hu] at hr
    have he : readS s p most = .error k := by unfold readS; rw [hu]
    have HE := Lib.hid he
    have HR := Lib.hid hr
    clear hr hu he
    go_enter Try.func56, Try.ntmps56
    go_wp2_with fail
    refine HR.out.mono ?_
    rintro e w2 ⟨rfl, ho2⟩
    unfold gives
    go_wp2
    refine ⟨rfl, ?_⟩
    unfold StrRead
    rw [HE.out]
    exact ⟨rfl, ho2⟩
  | ok nq =>
    obtain ⟨n, q⟩ := nq
    rw [hu] at hr
    obtain ⟨hn, hpq, hqs⟩ := readU_lt s p 0 0 (by decide) (by omega) n q hu
    have hre : readS s p most = if (n : Int) ≤ most then (if n ≤ s.size - q then .ok (s.extract q (q + n), q + n) else .error 14) else .error 5 := by unfold readS; rw [hu]
    have HR := Lib.hid hr
    clear hr hu
    by_cases hb : (n : Int) ≤ most
    · have hge : decide ((0 : Int) ≤ most) = true := by simp; omega
      have hcv : IntKind.u64.wrap most = most := by rw [IntKind.wrap_u64]; omega
      have hle : decide ((n : Int) ≤ most) = true := by simp; omega
      have hin : IntKind.i64.wrap (n : Int) = (n : Int) := IntWalk.i64_in _ (by omega)
      rw [if_pos hb] at hre
      by_cases hc : n ≤ s.size - q
      · rw [if_pos hc] at hre
        have HE := Lib.hid hre
        have hd : decide ((n : Int) ≤ (s.size : Int) - (q : Int)) = true := by simp; omega
        have hsub : IntKind.i64.wrap ((s.size : Int) - (q : Int)) = (s.size : Int) - (q : Int) := IntWalk.i64_in _ (by omega)
        have hsum : IntKind.i64.wrap ((q : Int) + (n : Int)) = (q : Int) + (n : Int) := IntWalk.i64_in _ (by omega)
        have hback : IntKind.i64.wrap ((q : Int) + (n : Int) - (n : Int)) = (q : Int) := by rw [IntWalk.i64_in _ (by omega)]; omega
        have hext : s.extract (q + n - n) (q + n) = s.extract q (q + n) := by rw [Nat.add_sub_cancel]
        have HX := Lib.hid hsum; have HY := Lib.hid hback
        clear hre hsum hback hext
        go_enter Try.func56, Try.ntmps56
        go_wp2_with fail
        refine HR.out.mono ?_
        rintro e w2 ⟨rfl, ha2, ho2⟩
        obtain ⟨W, hW⟩ : ∃ W, W = (w2.setCell ⟨g, 1, none⟩ (.int .i64 ((q : Int) + (n : Int)))).drew := ⟨_, rfl⟩
        have h2 : At W g s (q + n) parts := by
          rw [hW]
          exact (Blk.set_ ha2 1 (.int .i64 ((q : Int) + (n : Int))))
        have hO : Only w W g := by rw [hW]; exact (ho2.set_ (p := ⟨g, 1, none⟩) (.inl rfl) _).drew
        have h0 := ha2.cell 0
        have h1 := ha2.cell 1
        have hf := ha2.frozen 1
        have g0 := h2.cell 0
        have g1 := h2.cell 1
        simp at h0 h1 g0 g1
        have H2 := Lib.hid h2; have HO := Lib.hid hO; have HW := Lib.hid hW
        clear ha2 ho2 HR h2 hO hW
        go_wp2_with fail
        refine (must_ok _ _).mono ?_
        rintro e w' ⟨rfl, rfl⟩
        go_wp2_with fail
        go_still_tail 13, (by kernel_rfl)
        change wpList _ _ _ _ _ w2.drew
        go_wp2_with fail
        refine (must_ok _ _).mono ?_
        rintro e w' ⟨rfl, rfl⟩
        go_wp2
        rw [← HW.out]
        go_quiet (fail)
        go_wp2
        go_ret
        unfold StrRead
        rw [HE.out]
        exact ⟨rfl, Blk.drewN H2.out nq, HO.out.drewN nq⟩
      · rw [if_neg hc] at hre
        have HE := Lib.hid hre
        have hd : decide ((n : Int) ≤ (s.size : Int) - (q : Int)) = false := by simp; omega
        have hsub : IntKind.i64.wrap ((s.size : Int) - (q : Int)) = (s.size : Int) - (q : Int) := IntWalk.i64_in _ (by omega)
        clear hre
        go_enter Try.func56, Try.ntmps56
        go_wp2_with fail
        refine HR.out.mono ?_
        rintro e w2 ⟨rfl, ha2, ho2⟩
        have h0 := ha2.cell 0
        have h1 := ha2.cell 1
        simp at h0 h1
        have HO := Lib.hid ho2
        clear ha2 ho2 HR
        go_wp2_with fail
        refine (must_ok _ _).mono ?_
        rintro e w' ⟨rfl, rfl⟩
        go_wp2_with fail
        go_still_tail 13, (by kernel_rfl)
        change wpList _ _ _ _ _ w2.drew
        go_wp2_with fail
        refine (must_bad _ _).mono ?_
        rintro e w' ⟨rfl, rfl⟩
        go_wp2
        refine ⟨rfl, ?_⟩
        unfold StrRead
        rw [HE.out]
        exact ⟨rfl, HO.out.drew⟩
    · rw [if_neg hb] at hre
      have HE := Lib.hid hre
      clear hre
      by_cases hz : 0 ≤ most
      · have hge : decide ((0 : Int) ≤ most) = true := by simp; omega
        have hcv : IntKind.u64.wrap most = most := by rw [IntKind.wrap_u64]; omega
        have hle : decide ((n : Int) ≤ most) = false := by simp; omega
        go_enter Try.func56, Try.ntmps56
        go_wp2_with fail
        refine HR.out.mono ?_
        rintro e w2 ⟨rfl, ha2, ho2⟩
        have HO := Lib.hid ho2
        clear ha2 ho2 HR
        go_wp2_with fail
        refine (must_bad _ _).mono ?_
        rintro e w' ⟨rfl, rfl⟩
        go_wp2
        refine ⟨rfl, ?_⟩
        unfold StrRead
        rw [HE.out]
        exact ⟨rfl, HO.out⟩
      · have hge : decide ((0 : Int) ≤ most) = false := by simp; omega
        go_enter Try.func56, Try.ntmps56
        go_wp2_with fail
        refine HR.out.mono ?_
        rintro e w2 ⟨rfl, ha2, ho2⟩
        have HO := Lib.hid ho2
        clear ha2 ho2 HR
        go_wp2_with fail
        refine (must_bad _ _).mono ?_
        rintro e w' ⟨rfl, rfl⟩
        go_wp2
        refine ⟨rfl, ?_⟩
        unfold StrRead
        rw [HE.out]
        exact ⟨rfl, HO.out⟩
end Go.Proofs.Ytemhinagajfemaa
