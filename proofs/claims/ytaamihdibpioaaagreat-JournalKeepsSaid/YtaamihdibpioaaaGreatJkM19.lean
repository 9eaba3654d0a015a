/- The code's reader: the beginning of a part, how many items, a float. -/
import Derived.Test.YtaamihdibpioaaaGreatJkM18
import Derived.Deep.DeepCutAuto
namespace Go.Proofs.YtaamihdibpioaaaGreat
set_option linter.unusedVariables false
open Go.RowKit

def Begun (s : ByteArray) (p m g : Nat) (w : World) (e : Ending) (w' : World) : Prop := e = .returned (.tuple #[]) ∧ At w' g s p ((m + 1 : Nat) : Int) ∧ Only w w' g

set_option maxHeartbeats 1000000 in
theorem rbegin_ok (s : ByteArray) (p m deep g : Nat) (w : World) (hd : deep ≤ 12) (hm : m + 1 ≤ 200) (h : At w g s p (m : Int)) :
    Calls Tryz.prog 175 #[.pointer (some ⟨g, 0, none⟩), .int .i64 deep] w fun e w' => Begun s p m g w e w' := by
  have hw1 : IntKind.i64.wrap ((m : Int) + 1) = (m : Int) + 1 := IntWalk.i64_in _ (by omega)
  have i1 : decide ((deep : Int) ≤ 12) = true := by simp; omega
  have i2 : decide ((m : Int) + 1 ≤ 200) = true := by simp; omega
  have h2 := h.cell 2
  have f2 := h.frozen 2
  simp at h2
  obtain ⟨W, hW⟩ : ∃ W, W = w.setCell ⟨g, 2, none⟩ (.int .i64 ((m : Int) + 1)) := ⟨_, rfl⟩
  have hA : At W g s p ((m + 1 : Nat) : Int) := by
    rw [hW]
    have := Blk.set_ h 2 (.int .i64 ((m : Int) + 1))
    exact this
  have hO : Only w W g := by rw [hW]; exact (Only.refl w g).set_ (p := ⟨g, 2, none⟩) (.inl rfl) _
  have c2 := hA.cell 2
  simp at c2
  have HA := Lib.hid hA; have HO := Lib.hid hO; have HW := Lib.hid hW
  clear h hA hO hW hm hd
  go_enter Tryz.func175, Tryz.ntmps175
  go_upto_region 1 with fail
  rw [← HW.out]
  go_wp2_with fail
  refine (must_true _ _ _ (by first | rfl | (simp; omega))).mono ?_
  rintro e w3 ⟨rfl, rfl⟩
  go_wp2
  go_end0
  exact ⟨rfl, HA.out, HO.out⟩

set_option maxHeartbeats 1000000 in
theorem rbegin_bad (s : ByteArray) (p m deep g : Nat) (w : World) (hm : m ≤ 200) (hbad : 12 < deep ∨ 200 < m + 1) (h : At w g s p (m : Int)) :
    Calls Tryz.prog 175 #[.pointer (some ⟨g, 0, none⟩), .int .i64 deep] w fun e w' => GaveUp 5 g w e w' := by
  have hw1 : IntKind.i64.wrap ((m : Int) + 1) = (m : Int) + 1 := IntWalk.i64_in _ (by omega)
  have h2 := h.cell 2
  have f2 := h.frozen 2
  simp at h2
  obtain ⟨W, hW⟩ : ∃ W, W = w.setCell ⟨g, 2, none⟩ (.int .i64 ((m : Int) + 1)) := ⟨_, rfl⟩
  have hA : At W g s p ((m + 1 : Nat) : Int) := by
    rw [hW]
    have := Blk.set_ h 2 (.int .i64 ((m : Int) + 1))
    exact this
  have hO : Only w W g := by rw [hW]; exact (Only.refl w g).set_ (p := ⟨g, 2, none⟩) (.inl rfl) _
  have c2 := hA.cell 2
  simp at c2
  have HA := Lib.hid hA; have HO := Lib.hid hO; have HW := Lib.hid hW
  clear h hA hO hW
  by_cases hd : 12 < deep
  · have i1 : decide ((deep : Int) ≤ 12) = false := by simp; omega
    clear hbad hd hm
    go_enter Tryz.func175, Tryz.ntmps175
    go_upto_region 1 with fail
    rw [← HW.out]
    go_wp2_with fail
    refine (must_false _ _ _ (by first | rfl | (simp; omega))).mono ?_
    rintro e w3 ⟨rfl, rfl⟩
    go_wp2
    exact ⟨rfl, rfl, HO.out⟩
  · have i1 : decide ((deep : Int) ≤ 12) = true := by simp; omega
    have i2 : decide ((m : Int) + 1 ≤ 200) = false := by simp; omega
    clear hbad hd hm
    go_enter Tryz.func175, Tryz.ntmps175
    go_upto_region 1 with fail
    rw [← HW.out]
    go_wp2_with fail
    refine (must_false _ _ _ (by first | rfl | (simp; omega))).mono ?_
    rintro e w3 ⟨rfl, rfl⟩
    go_wp2
    exact ⟨rfl, rfl, HO.out⟩

def ManyRead (r : Except Int (Nat × Nat)) (s : ByteArray) (parts : Int) (g : Nat) (w : World) (e : Ending) (w' : World) : Prop :=
  match r with
  | .ok (n, q) => e = .returned (.int .i64 n) ∧ At w' g s q parts ∧ Only w w' g
  | .error k => e = gives k ∧ Only w w' g

set_option maxHeartbeats 1000000 in
theorem rmany_any (s : ByteArray) (p : Nat) (parts : Int) (g : Nat) (w : World) (hs : s.size ≤ 100000) (hp : p ≤ s.size) (h : At w g s p parts) :
    Calls Tryz.prog 179 #[.pointer (some ⟨g, 0, none⟩)] w fun e w' => ManyRead (readM s p) s parts g w e w' := by
  have hr := ruint_any s p parts g w hs hp h
  clear h
  cases hu : readU s p 0 0 with
  | error k =>
    rw [hu] at hr
    have he : readM s p = .error k := by unfold readM; rw [hu]
    have HE := Lib.hid he
    have HR := Lib.hid hr
    clear hr hu he
    go_enter Tryz.func179, Tryz.ntmps179
    go_wp2_with fail
    refine HR.out.mono ?_
    rintro e w2 ⟨rfl, ho2⟩
    unfold gives
    go_wp2
    refine ⟨rfl, ?_⟩
    unfold ManyRead
    rw [HE.out]
    exact ⟨rfl, ho2⟩
  | ok nq =>
    obtain ⟨n, q⟩ := nq
    rw [hu] at hr
    obtain ⟨hn, hpq, hqs⟩ := readU_lt s p 0 0 (by decide) (by omega) n q hu
    have hre : readM s p = if n ≤ 200 then .ok (n, q) else .error 5 := by unfold readM; rw [hu]
    have HR := Lib.hid hr
    clear hr hu
    by_cases hb : n ≤ 200
    · rw [if_pos hb] at hre
      have i1 : decide ((n : Int) ≤ 200) = true := by simp; omega
      have HE := Lib.hid hre
      clear hre
      go_enter Tryz.func179, Tryz.ntmps179
      go_wp2_with fail
      refine HR.out.mono ?_
      rintro e w2 ⟨rfl, ha2, ho2⟩
      have HA2 := Lib.hid ha2; have HO2 := Lib.hid ho2
      clear ha2 ho2 HR
      go_wp2_with fail
      refine (must_true _ _ _ (by first | rfl | (simp; omega))).mono ?_
      rintro e w3 ⟨rfl, rfl⟩
      go_wp2
      go_ret
      unfold ManyRead
      rw [HE.out]
      refine ⟨?_, HA2.out, HO2.out⟩
      first
      | rfl
      | exact congrArg (fun v => Ending.returned (Value.int .i64 v)) (IntWalk.wrap64_in _ (by omega))
      | (refine congrArg (fun v => Ending.returned (Value.int .i64 v)) ?_; simp; omega)
    · rw [if_neg hb] at hre
      have i1 : decide ((n : Int) ≤ 200) = false := by simp; omega
      have HE := Lib.hid hre
      clear hre
      go_enter Tryz.func179, Tryz.ntmps179
      go_wp2_with fail
      refine HR.out.mono ?_
      rintro e w2 ⟨rfl, ha2, ho2⟩
      have HO2 := Lib.hid ho2
      clear ha2 ho2 HR
      go_wp2_with fail
      refine (must_false _ _ _ (by first | rfl | (simp; omega))).mono ?_
      rintro e w3 ⟨rfl, rfl⟩
      go_wp2
      refine ⟨rfl, ?_⟩
      unfold ManyRead
      rw [HE.out]
      exact ⟨rfl, HO2.out⟩

theorem shl_or (b c : Nat) (hb : b < 72057594037927936) (hc : c < 256) : bits .or .u64 (IntKind.u64.wrap ((b : Int) * 256)) (IntKind.u64.wrap (c : Int)) = ((b * 256 + c : Nat) : Int) := by
  have e : IntKind.u64.wrap ((b : Int) * 256) = ((b * 256 : Nat) : Int) := by rw [IntKind.wrap_u64]; omega
  have e2 : IntKind.u64.wrap (c : Int) = ((c : Nat) : Int) := by rw [IntKind.wrap_u64]; omega
  rw [e, e2, u64_or_nat _ _ (by omega) (by omega)]
  have h3 := Nat.shiftLeft_add_eq_or_of_lt (b := c) (i := 8) (by omega) b
  rw [Nat.shiftLeft_eq] at h3
  have h4 : (2 : Nat) ^ 8 = 256 := by decide
  rw [h4] at h3
  rw [← h3]
def FloatRead (r : Except Int (Nat × Nat)) (s : ByteArray) (parts : Int) (g : Nat) (w : World) (e : Ending) (w' : World) : Prop :=
  match r with
  | .ok (f, q) => e = .returned (.float .f64 f) ∧ At w' g s q parts ∧ Only w w' g
  | .error k => e = gives k ∧ Only w w' g

set_option maxHeartbeats 2000000 in
set_option maxRecDepth 100000 in
theorem rfloat_any (s : ByteArray) (p : Nat) (parts : Int) (g : Nat) (w : World) (hs : s.size ≤ 100000) (hp : p ≤ s.size) (h : At w g s p parts) :
    Calls Tryz.prog 177 #[.pointer (some ⟨g, 0, none⟩)] w fun e w' => FloatRead (readF s p) s parts g w e w' := by
  have hfrom := frombits_run (beAt s p 8)
  have hbits := bits_run' (fcan (beAt s p 8))
  have H := Lib.hid h
  clear h
  go_enter Tryz.func177, Tryz.ntmps177
  go_wp2_with fail
  go_loopw [3, 5] (fun bv iv wr => ∃ k : Nat, k ≤ 8 ∧ p + k ≤ s.size ∧ bv = .int .u64 (beAt s p k : Nat) ∧ iv = .int .i64 k ∧ Hid (At wr g s (p + k) parts) ∧ Hid (Only w wr g)) (fun _ iv _ => (8 - intOf iv).toNat)
  case atStart => exact ⟨0, by omega, by omega, rfl, rfl, H, Lib.hid (Only.refl w g)⟩
  case round =>
    obtain ⟨k, hk, hpk, rfl, rfl, HA, HO⟩ := hrel
    by_cases hlt : k < 8
    · have i1 : decide ((k : Int) < 8) = true := by simp; omega
      by_cases hin : p + k < s.size
      · obtain ⟨c, hc⟩ : ∃ c, c = s[p + k]'hin := ⟨_, rfl⟩
        have hb := byte_ok s (p + k) parts g wr hs hin HA.out
        rw [← hc] at hb
        have hbe : beAt s p (k + 1) = beAt s p k * 256 + c.toNat := by rw [hc, ← byteAt_eq]; rfl
        have hlt8 : beAt s p k < 72057594037927936 := by
          have h1 := beAt_lt s p k
          have h2 : 256 ^ k ≤ 256 ^ 7 := Nat.pow_le_pow_right (by omega) (by omega)
          have h3 : (256 : Nat) ^ 7 = 72057594037927936 := by decide
          omega
        have hor := shl_or (beAt s p k) c.toNat hlt8 c.toNat_lt
        have HB := Lib.hid hb; have HBE := Lib.hid hbe; have HOR := Lib.hid hor
        clear hb hbe hor hc hlt8 HA
        go_wp2_with fail
        refine HB.out.mono ?_
        rintro e w2 ⟨rfl, ha2, ho2⟩
        have HA2 := Lib.hid ha2; have HO2 := Lib.hid (HO.out.trans ho2)
        clear ha2 ho2 HB HO
        go_wp2
        go_roundw
        case rel => exact ⟨k + 1, by omega, by omega, by rw [HBE.out, ← HOR.out], by go_num, HA2, HO2⟩
        case measure => simp [intOf]; omega
      · have hb := Lib.hid (byte_torn s (p + k) parts g wr hs (by omega) (by omega) HA.out)
        have he : readF s p = .error 14 := by unfold readF; rw [if_neg (by omega)]
        have HE := Lib.hid he
        clear he HA
        go_wp2_with fail
        refine hb.out.mono ?_
        rintro e w2 ⟨rfl, ho2⟩
        have ho := HO.out.trans ho2
        clear hb HO ho2
        unfold gives
        go_wp2
        refine ⟨rfl, ?_⟩
        unfold FloatRead
        rw [HE.out]
        exact ⟨rfl, ho⟩
    · obtain rfl : k = 8 := by omega
      have i1 : decide (((8 : Nat) : Int) < 8) = false := by simp
      have hre : readF s p = if fcan (beAt s p 8) = beAt s p 8 then .ok (beAt s p 8, p + 8) else .error 5 := by unfold readF; rw [if_pos hpk]
      by_cases hf : fcan (beAt s p 8) = beAt s p 8
      · rw [if_pos hf] at hre
        have HE := Lib.hid hre
        rw [hf] at hbits
        have hcan := Lib.hid (fun W => canon_any (beAt s p 8) W)
        rw [hf] at hcan
        clear hre hf
        go_wp2_with fail
        refine (hcan.out _).mono ?_
        rintro e w3 ⟨rfl, rfl⟩
        go_wp2_with fail
        refine (must_true _ _ _ (by first | rfl | simp)).mono ?_
        rintro e w3 ⟨rfl, rfl⟩
        go_wp2
        go_ret
        unfold FloatRead
        rw [HE.out]
        exact ⟨rfl, HA.out, HO.out⟩
      · rw [if_neg hf] at hre
        have HE := Lib.hid hre
        have hne : (((fcan (beAt s p 8) : Nat) : Int) == ((beAt s p 8 : Nat) : Int)) = false := by simpa using fun h => hf (by omega)
        clear hre hf
        go_wp2_with fail
        refine (canon_any _ _).mono ?_
        rintro e w3 ⟨rfl, rfl⟩
        go_wp2_with fail
        refine (must_false _ _ _ (by first | rfl | assumption | simp)).mono ?_
        rintro e w3 ⟨rfl, rfl⟩
        go_wp2
        refine ⟨rfl, ?_⟩
        unfold FloatRead
        rw [HE.out]
        exact ⟨rfl, HO.out⟩
end Go.Proofs.YtaamihdibpioaaaGreat
