/- What a reader reads as a string. -/
import Derived.Test.YtemhinagajfemaaCodecReadI
namespace Go.Proofs.Ytemhinagajfemaa
set_option linter.unusedVariables false
open Go.RowKit

/-- A string of at most so many bytes: the string and the place behind it; or the error. -/
def readS (s : ByteArray) (p : Nat) (most : Int) : Except Int (ByteArray × Nat) :=
  match readU s p 0 0 with
  | .error k => .error k
  | .ok (n, q) => if (n : Int) ≤ most then (if n ≤ s.size - q then .ok (s.extract q (q + n), q + n) else .error 14) else .error 5

def StrRead (r : Except Int (ByteArray × Nat)) (s : ByteArray) (parts : Int) (g : Nat) (w : World) (e : Ending) (w' : World) : Prop :=
  match r with
  | .ok (t, q) => e = .returned (.string t) ∧ At w' g s q parts ∧ Only w w' g
  | .error k => e = gives k ∧ Only w w' g

set_option maxHeartbeats 1000000 in
set_option maxRecDepth 100000 in
theorem rstr_any (s : ByteArray) (p : Nat) (parts most : Int) (g : Nat) (w : World) (hs : s.size ≤ 100000) (hp : p ≤ s.size) (hm1 : -9223372036854775808 ≤ most) (hm2 : most ≤ 9223372036854775807) (h : At w g s p parts) :
    Calls Try.prog 56 #[.pointer (some ⟨g, 0, none⟩), .int .i64 most] w fun e w' => StrRead (readS s p most) s parts g w e w' := by
  have hr := ruint_any s p parts g w hs hp h
  clear h
  cases hu : readU s p 0 0 with
  | error k =>
    rw [hu] at hr
    have he : readS s p most = .error k := by unfold readS; rw [hu]
    have HE := Lib.hid he
    have HR := Lib.hid hr
    clear hr hu he
    go_enter Try.func56, Try.ntmps56
    go_wp2_with fail
    refine HR.out.mono ?_
    rintro e w2 ⟨rfl, ho2⟩
    unfold gives
    go_wp2
    refine ⟨rfl, ?_⟩
    unfold StrRead
    rw [HE.out]
    exact ⟨rfl, ho2⟩
  | ok nq =>
    obtain ⟨n, q⟩ := nq
    rw [hu] at hr
    obtain ⟨hn, hpq, hqs⟩ := readU_lt s p 0 0 (by decide) (by omega) n q hu
    have hre : readS s p most = if (n : Int) ≤ most then (if n ≤ s.size - q then .ok (s.extract q (q + n), q + n) else .error 14) else .error 5 := by unfold readS; rw [hu]
    have HR := Lib.hid hr
    clear hr hu
    by_cases hb : (n : Int) ≤ most
    · have hge : decide ((0 : Int) ≤ most) = true := by simp; omega
      have hcv : IntKind.u64.wrap most = most := by rw [IntKind.wrap_u64]; omega
      have hle : decide ((n : Int) ≤ most) = true := by simp; omega
      have hin : IntKind.i64.wrap (n : Int) = (n : Int) := IntWalk.i64_in _ (by omega)
      rw [if_pos hb] at hre
      by_cases hc : n ≤ s.size - q
      · rw [if_pos hc] at hre
        have HE := Lib.hid hre
        have hd : decide ((n : Int) ≤ (s.size : Int) - (q : Int)) = true := by simp; omega
        have hsub : IntKind.i64.wrap ((s.size : Int) - (q : Int)) = (s.size : Int) - (q : Int) := IntWalk.i64_in _ (by omega)
        have hsum : IntKind.i64.wrap ((q : Int) + (n : Int)) = (q : Int) + (n : Int) := IntWalk.i64_in _ (by omega)
        have hback : IntKind.i64.wrap ((q : Int) + (n : Int) - (n : Int)) = (q : Int) := by rw [IntWalk.i64_in _ (by omega)]; omega
        have hext : s.extract (q + n - n) (q + n) = s.extract q (q + n) := by rw [Nat.add_sub_cancel]
        have HX := Lib.hid hsum; have HY := Lib.hid hback
        clear hre hsum hback hext
        go_enter Try.func56, Try.ntmps56
        go_wp2_with fail
        refine HR.out.mono ?_
        rintro e w2 ⟨rfl, ha2, ho2⟩
        obtain ⟨W, hW⟩ : ∃ W, W = (w2.setCell ⟨g, 1, none⟩ (.int .i64 ((q : Int) + (n : Int)))).drew := ⟨_, rfl⟩
        have h2 : At W g s (q + n) parts := by
          rw [hW]
          exact (Blk.set_ ha2 1 (.int .i64 ((q : Int) + (n : Int))))
        have hO : Only w W g := by rw [hW]; exact (ho2.set_ (p := ⟨g, 1, none⟩) (.inl rfl) _).drew
        have h0 := ha2.cell 0
        have h1 := ha2.cell 1
        have hf := ha2.frozen 1
        have g0 := h2.cell 0
        have g1 := h2.cell 1
        simp at h0 h1 g0 g1
        have H2 := Lib.hid h2; have HO := Lib.hid hO; have HW := Lib.hid hW
        clear ha2 ho2 HR h2 hO hW
        go_wp2_with fail
        refine (must_ok _ _).mono ?_
        rintro e w' ⟨rfl, rfl⟩
        go_wp2_with fail
        go_still_tail 13, (by kernel_rfl)
        change wpList _ _ _ _ _ w2.drew
        go_wp2_with fail
        refine (must_ok _ _).mono ?_
        rintro e w' ⟨rfl, rfl⟩
        go_wp2
        rw [← HW.out]
        go_quiet (fail)
        go_wp2
        go_ret
        unfold StrRead
        rw [HE.out]
        exact ⟨rfl, Blk.drewN H2.out nq, HO.out.drewN nq⟩
      · rw [if_neg hc] at hre
        have HE := Lib.hid hre
        have hd : decide ((n : Int) ≤ (s.size : Int) - (q : Int)) = false := by simp; omega
        have hsub : IntKind.i64.wrap ((s.size : Int) - (q : Int)) = (s.size : Int) - (q : Int) := IntWalk.i64_in _ (by omega)
        clear hre
        go_enter Try.func56, Try.ntmps56
        go_wp2_with fail
        refine HR.out.mono ?_
        rintro e w2 ⟨rfl, ha2, ho2⟩
        have h0 := ha2.cell 0
        have h1 := ha2.cell 1
        simp at h0 h1
        have HO := Lib.hid ho2
        clear ha2 ho2 HR
        go_wp2_with fail
        refine (must_ok _ _).mono ?_
        rintro e w' ⟨rfl, rfl⟩
        go_wp2_with fail
        go_still_tail 13, (by kernel_rfl)
        change wpList _ _ _ _ _ w2.drew
        go_wp2_with fail
        refine (must_bad _ _).mono ?_
        rintro e w' ⟨rfl, rfl⟩
        go_wp2
        refine ⟨rfl, ?_⟩
        unfold StrRead
        rw [HE.out]
        exact ⟨rfl, HO.out.drew⟩
    · rw [if_neg hb] at hre
      have HE := Lib.hid hre
      clear hre
      by_cases hz : 0 ≤ most
      · have hge : decide ((0 : Int) ≤ most) = true := by simp; omega
        have hcv : IntKind.u64.wrap most = most := by rw [IntKind.wrap_u64]; omega
        have hle : decide ((n : Int) ≤ most) = false := by simp; omega
        go_enter Try.func56, Try.ntmps56
        go_wp2_with fail
        refine HR.out.mono ?_
        rintro e w2 ⟨rfl, ha2, ho2⟩
        have HO := Lib.hid ho2
        clear ha2 ho2 HR
        go_wp2_with fail
        refine (must_bad _ _).mono ?_
        rintro e w' ⟨rfl, rfl⟩
        go_wp2
        refine ⟨rfl, ?_⟩
        unfold StrRead
        rw [HE.out]
        exact ⟨rfl, HO.out⟩
      · have hge : decide ((0 : Int) ≤ most) = false := by simp; omega
        go_enter Try.func56, Try.ntmps56
        go_wp2_with fail
        refine HR.out.mono ?_
        rintro e w2 ⟨rfl, ha2, ho2⟩
        have HO := Lib.hid ho2
        clear ha2 ho2 HR
        go_wp2_with fail
        refine (must_bad _ _).mono ?_
        rintro e w' ⟨rfl, rfl⟩
        go_wp2
        refine ⟨rfl, ?_⟩
        unfold StrRead
        rw [HE.out]
        exact ⟨rfl, HO.out⟩
end Go.Proofs.Ytemhinagajfemaa
