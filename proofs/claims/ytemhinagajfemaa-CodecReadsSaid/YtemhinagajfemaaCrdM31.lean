/- The document's reader: a float; any value (printed by wip/gen_refrd.py). -/
import Derived.Test.YtemhinagajfemaaCrdM28
import Derived.Test.YtemhinagajfemaaCrdM30
import Derived.BigGuardPart
namespace Go.Proofs.Ytemhinagajfemaa
set_option linter.unusedVariables false
open Go.RowKit


set_option maxHeartbeats 4000000 in
set_option maxRecDepth 100000 in
theorem fV_float (s : ByteArray) (hs : s.size ≤ 100000) (d p m deep g : Nat) (w : World) (hd : deep + d = 13) (hp : p ≤ s.size) (hm : m ≤ 200) (hd12 : deep ≤ 12) (hm1 : m + 1 ≤ 200) (hin : p < s.size) (hk : (byteAt s p).toNat = 3) (h : RAt w g s p 0 (m : Int)) :
    Calls Try.prog 81 #[.pointer (some ⟨g, 0, none⟩), .int .i64 deep] w fun e w' => FValD s d p m 0 g w e w' := by

  have hsf := run_store_flt
  obtain ⟨R, hR⟩ : ∃ R, R = w.heap.size := ⟨_, rfl⟩
  obtain ⟨W, hW⟩ : ∃ W, W = w.alloc (.cells #[.int .i64 0, .int .i64 0, .float .f64 0, .string ⟨#[]⟩, .slice none 0 0, .slice none 0 0] 46) := ⟨_, rfl⟩
  have hst : RS1 46 [.int .i64 0, .int .i64 0, .float .f64 0, .string ⟨#[]⟩, .slice none 0 0, .slice none 0 0] w W g R s p 0 (m : Int) := by rw [hR, hW]; exact RS1.start 46 [.int .i64 0, .int .i64 0, .float .f64 0, .string ⟨#[]⟩, .slice none 0 0, .slice none 0 0] h
  have HR := Lib.hid hR; have HW := Lib.hid hW; have HS0 := Lib.hid hst
  clear hR hW hst h
  obtain ⟨d, rfl⟩ : ∃ d2, d = d2 + 1 := ⟨d - 1, by omega⟩
  have HBEG := Lib.hid (fbegin_ok s p m deep g 0 W hm (by omega) hm1 HS0.out.rd)
  have HE : Hid (rdV s (d + 1) p m = (match readF s (p + 1) with
      | .error k => .error k
      | .ok (f, q) => .ok (Val.leafF f, q, m + 1))) := Lib.hid (by unfold rdV; rw [if_neg (by omega), if_neg (by omega), if_neg (by rw [hk]; decide), if_neg (by rw [hk]; decide), if_pos hk]; rfl)

  go_enter Try.func81, Try.ntmps81
  go_wp2_with fail
  rw [← HW.out, ← HR.out]

  refine HBEG.out.mono ?_
  rintro e w1 ⟨rfl, ha1, ho1⟩
  have HS1 := Lib.hid (HS0.out.read ha1 ho1)
  clear ha1 ho1 HBEG HW
  have HB1 := Lib.hid (fbyte_k s p ((m + 1 : Nat) : Int) g 3 w1 hs hin HS1.out.rd hk)
  go_wp2_with fail
  refine HB1.out.mono ?_
  rintro e w2 ⟨rfl, ha2, ho2⟩
  have HS2 := Lib.hid (HS1.out.read ha2 ho2)
  clear ha2 ho2 HB1 HS1

  obtain ⟨V, hV⟩ : ∃ V, V = w2.heap.size := ⟨_, rfl⟩
  obtain ⟨W2, hW2⟩ : ∃ W2, W2 = w2.alloc (.cells #[.int .i64 3, .int .i64 0, .float .f64 0, .string ⟨#[]⟩, .slice none 0 0, .slice none 0 0] 46) := ⟨_, rfl⟩
  have hs3 := HS2.out.make [.int .i64 3, .int .i64 0, .float .f64 0, .string ⟨#[]⟩, .slice none 0 0, .slice none 0 0]
  rw [show w2.alloc (.cells [.int .i64 3, .int .i64 0, .float .f64 0, .string ⟨#[]⟩, .slice none 0 0, .slice none 0 0].toArray 46) = W2 from hW2.symm, ← hV] at hs3
  have HS3 := Lib.hid hs3; have HW2 := Lib.hid hW2; have HV := Lib.hid hV
  clear hs3 hW2 hV HS2
  go_upto_region 3 with fail
  rw [← HW2.out, ← HV.out]
  have c0 := HS3.out.cell 0; have ce := HS3.out.err; have hvl := HS3.out.vlt
  simp only [List.getElem?_cons_zero, List.getElem?_cons_succ] at c0
  go_wp2_with fail
  go_loopw [6, 7] (fun bv iv wr => ∃ (i b q : Nat) (k : Int), bv = .int .u64 b ∧ iv = .int .i64 i ∧ i ≤ 8 ∧ b < 256 ^ i ∧ q ≤ s.size ∧ Hid ((k = 0 ∧ q = p + 1 + i ∧ b = beAt s (p + 1) i) ∨ (k = 14 ∧ s.size < p + 1 + 8)) ∧ Hid (RS2 46 [.int .i64 0, .int .i64 0, .float .f64 0, .string ⟨#[]⟩, .slice none 0 0, .slice none 0 0] w wr g R V s q k ((m + 1 : Nat) : Int) [.int .i64 3, .int .i64 0, .float .f64 0, .string ⟨#[]⟩, .slice none 0 0, .slice none 0 0])) (fun _ iv _ => (8 - intOf iv).toNat)
  case atStart => exact ⟨0, 0, p + 1, 0, rfl, rfl, by omega, by decide, by omega, Lib.hid (.inl ⟨rfl, rfl, rfl⟩), HS3⟩
  case round =>
    obtain ⟨i, b, q, k, rfl, rfl, hi, hb, hq, HST, HRS⟩ := hrel
    clear HS3 c0 ce hvl
    have c0 := HRS.out.cell 0; have ce := HRS.out.err; have hvl := HRS.out.vlt
    simp only [List.getElem?_cons_zero, List.getElem?_cons_succ] at c0
    have hb8 : b < 18446744073709551616 := by
      have h2 : 256 ^ i ≤ 256 ^ 8 := Nat.pow_le_pow_right (by omega) (by omega)
      have h3 : (256 : Nat) ^ 8 = 18446744073709551616 := by decide
      omega
    by_cases hlt : i < 8
    · have i1 : decide ((i : Int) < 8) = true := by simp; omega
      have hb7 : b * 256 + 255 < 18446744073709551616 := by
        have h2 : 256 ^ i ≤ 256 ^ 7 := Nat.pow_le_pow_right (by omega) (by omega)
        have h3 : (256 : Nat) ^ 7 = 72057594037927936 := by decide
        omega
      have e1 : IntKind.u64.wrap ((b : Int) * 256) = ((b * 256 : Nat) : Int) := by rw [IntKind.wrap_u64]; omega
      have hnext : ∀ c, c < 256 → b * 256 + c < 256 ^ (i + 1) := fun c hc => by rw [Nat.pow_succ]; omega
      have HNX := Lib.hid hnext
      clear hnext hb
      have HB2 : Hid (Calls Try.prog 57 #[.pointer (some ⟨g, 0, none⟩)] wr fun e w' => ∃ (c q' : Nat) (k' : Int), e = .returned (.int .i64 c) ∧ c < 256 ∧ q' ≤ s.size ∧ RAt w' g s q' k' ((m + 1 : Nat) : Int) ∧ Only wr w' g ∧ ((k' = 0 ∧ q' = p + 1 + (i + 1) ∧ b * 256 + c = beAt s (p + 1) (i + 1)) ∨ (k' = 14 ∧ s.size < p + 1 + 8))) := Lib.hid (by
        rcases HST.out with ⟨rfl, rfl, rfl⟩ | ⟨rfl, h⟩
        · refine (fbyte_any s (p + 1 + i) ((m + 1 : Nat) : Int) g wr hs hq HRS.out.rd).mono ?_
          rintro e w' ⟨ho, c, q', k', rfl, hc, ha, hq', ⟨rfl, rfl, h3, rfl⟩ | ⟨rfl, rfl, h3⟩⟩
          · exact ⟨_, _, _, rfl, hc, hq', ha, ho, .inl ⟨rfl, by omega, rfl⟩⟩
          · exact ⟨_, _, _, rfl, hc, hq', ha, ho, .inr ⟨rfl, by omega⟩⟩
        · refine (fbyte_old 14 s q ((m + 1 : Nat) : Int) g wr HRS.out.rd (by decide)).mono ?_
          rintro e w' ⟨rfl, rfl⟩
          exact ⟨0, q, 14, rfl, by omega, hq, HRS.out.rd, Only.refl wr g, .inr ⟨rfl, h⟩⟩)
      go_wp2_with fail
      refine HB2.out.mono ?_
      rintro e w3 ⟨c, q', k', rfl, hc, hq', ha3, ho3, hfin⟩
      have HS4 := Lib.hid (HRS.out.read ha3 ho3)
      have HFIN := Lib.hid hfin
      have e2 : IntKind.u64.wrap (c : Int) = (c : Int) := by rw [IntKind.wrap_u64]; omega
      have e3 : IntKind.u64.wrap (((b * 256 : Nat) : Int) + (c : Int)) = ((b * 256 + c : Nat) : Int) := by rw [IntKind.wrap_u64]; omega
      clear ha3 ho3 hfin HB2
      go_wp2
      go_roundw
      case rel => exact ⟨i + 1, b * 256 + c, q', k', by simp, by go_num, by omega, HNX.out c hc, hq', HFIN, HS4⟩
      case measure => simp [intOf]; omega
    · obtain rfl : i = 8 := by omega
      have i1 : decide (((8 : Nat) : Int) < 8) = false := by simp
      have hfrom := frombits_run b
      have hbits := bits_run' (fcan b)
      have c2 := HRS.out.cell 2; have f2 := HRS.out.frozen 2
      simp only [List.getElem?_cons_zero, List.getElem?_cons_succ] at c2
      clear hlt
      go_upto_region 28 with fail
      obtain ⟨W4, hW4⟩ : ∃ W4, W4 = wr.setCell ⟨V, 2, none⟩ (.float .f64 b) := ⟨_, rfl⟩
      have hs5 := HRS.out.set_ 2 (.float .f64 b)
      rw [← hW4] at hs5
      have HS5 : Hid (RS2 46 _ w W4 g R V s q k ((m + 1 : Nat) : Int) [.int .i64 3, .int .i64 0, .float .f64 b, .string ⟨#[]⟩, .slice none 0 0, .slice none 0 0]) := Lib.hid hs5
      have HW4 := Lib.hid hW4
      rw [← HW4.out]
      clear hs5 hW4 c2 f2 c0 ce hvl HRS
      have c2 := HS5.out.cell 2; have ce := HS5.out.err; have hvl := HS5.out.vlt
      simp only [List.getElem?_cons_zero, List.getElem?_cons_succ] at c2
      by_cases hk0 : k = 0
      · subst hk0
        obtain ⟨hq8, hb0⟩ : q = p + 1 + 8 ∧ b = beAt s (p + 1) 8 := by
          rcases HST.out with ⟨_, h1, h2⟩ | ⟨h, _⟩
          · exact ⟨h1, h2⟩
          · cases h
        by_cases hfc : fcan b = b
        · have HE2 : Hid (rdV s (d + 1) p m = .ok (Val.leafF b, q, m + 1)) := Lib.hid (by
            rw [HE.out]
            unfold readF
            rw [if_pos (by omega), ← hb0, if_pos hfc, hq8])
          have HCAN := Lib.hid (fun W => rcanon_any b W)
          rw [hfc] at HCAN hbits
          clear hfc HE HST hq8 hb0
          go_wp2_with fail
          refine (HCAN.out _).mono ?_
          rintro e w5 ⟨rfl, rfl⟩
          clear c2
          have e0 := HS5.out.cell 0; have e1 := HS5.out.cell 1; have e2 := HS5.out.cell 2; have e3 := HS5.out.cell 3; have e4 := HS5.out.cell 4; have e5 := HS5.out.cell 5
          simp only [List.getElem?_cons_zero, List.getElem?_cons_succ] at e0 e1 e2 e3 e4 e5
          have r0 := HS5.out.res.cell 0; have f0 := HS5.out.res.frozen 0; have r1 := HS5.out.res.cell 1; have f1 := HS5.out.res.frozen 1; have r2 := HS5.out.res.cell 2; have f2 := HS5.out.res.frozen 2; have r3 := HS5.out.res.cell 3; have f3 := HS5.out.res.frozen 3; have r4 := HS5.out.res.cell 4; have f4 := HS5.out.res.frozen 4; have r5 := HS5.out.res.cell 5; have f5 := HS5.out.res.frozen 5
          simp only [List.getElem?_toArray, List.getElem?_cons_zero, List.getElem?_cons_succ] at r0 r1 r2 r3 r4 r5
          obtain ⟨WF, hWF⟩ : ∃ WF, WF = ((((((W4.setCell ⟨R, 0, none⟩ (.int .i64 3)).setCell ⟨R, 1, none⟩ (.int .i64 0)).setCell ⟨R, 2, none⟩ (.float .f64 b)).setCell ⟨R, 3, none⟩ (.string ⟨#[]⟩)).setCell ⟨R, 4, none⟩ (.slice none 0 0)).setCell ⟨R, 5, none⟩ (.slice none 0 0)) := ⟨_, rfl⟩
          have hst := stored6' HS5.out.res (.int .i64 3) (.int .i64 0) (.float .f64 b) (.string ⟨#[]⟩) (.slice none 0 0) (.slice none 0 0)
          rw [← hWF] at hst
          have HST := Lib.hid hst; have HWF := Lib.hid hWF
          have HRD := Lib.hid (Blk.grown HS5.out.rd hst.2 (by have := HS5.out.glt; simp; omega))
          have HON := Lib.hid (only_far HS5.out.only hst.2 (by rw [HS5.out.eq]; exact Nat.le_refl _))
          clear hWF hst
          go_wp2_with fail
          rw [← HWF.out]
          clear e0 r0 f0 e1 r1 f1 e2 r2 f2 e3 r3 f3 e4 r4 f4 e5 r5 f5
          have e0 := HST.out.1.cell 0; have e1 := HST.out.1.cell 1; have e2 := HST.out.1.cell 2; have e3 := HST.out.1.cell 3; have e4 := HST.out.1.cell 4; have e5 := HST.out.1.cell 5
          simp only [List.getElem?_toArray, List.getElem?_cons_zero, List.getElem?_cons_succ] at e0 e1 e2 e3 e4 e5
          refine bodyPost_ret (v := .agg #[.int .i64 3, .int .i64 0, .float .f64 b, .string ⟨#[]⟩, .slice none 0 0, .slice none 0 0]) (by simp [results, Try.results81, go_sem, e0, e1, e2, e3, e4, e5]) rfl ?_
          exact fleaf_end (R := R) (V := V) HRD.out HON.out (by unfold i64r; omega) (by unfold i64r; omega) hb8 (by unfold strok; decide) hq (by omega) (.inl ⟨rfl, rfl, hm1, HE2.out⟩)
        · have HE2 : Hid (rdV s (d + 1) p m = .error 5) := Lib.hid (by
            rw [HE.out]
            unfold readF
            rw [if_pos (by omega), ← hb0, if_neg hfc])
          have hne : (((fcan b : Nat) : Int) != ((b : Nat) : Int)) = true := by simpa using fun h => hfc (by omega)
          clear hfc HE HST hq8 hb0
          go_wp2_with fail
          refine (rcanon_any b _).mono ?_
          rintro e w5 ⟨rfl, rfl⟩
          go_wp2_with fail
          refine (ffail_any 5 s q ((m + 1 : Nat) : Int) g _ HS5.out.rd).mono ?_
          rintro e w6 ⟨rfl, ha6, ho6⟩
          have HS6 : Hid (RS2 46 _ w w6 g R V s q 5 ((m + 1 : Nat) : Int) [.int .i64 3, .int .i64 0, .float .f64 b, .string ⟨#[]⟩, .slice none 0 0, .slice none 0 0]) := Lib.hid (HS5.out.read ha6 ho6)
          clear ha6 ho6 HS5 c2 ce
          have e0 := HS6.out.cell 0; have e1 := HS6.out.cell 1; have e2 := HS6.out.cell 2; have e3 := HS6.out.cell 3; have e4 := HS6.out.cell 4; have e5 := HS6.out.cell 5
          simp only [List.getElem?_cons_zero, List.getElem?_cons_succ] at e0 e1 e2 e3 e4 e5
          have r0 := HS6.out.res.cell 0; have f0 := HS6.out.res.frozen 0; have r1 := HS6.out.res.cell 1; have f1 := HS6.out.res.frozen 1; have r2 := HS6.out.res.cell 2; have f2 := HS6.out.res.frozen 2; have r3 := HS6.out.res.cell 3; have f3 := HS6.out.res.frozen 3; have r4 := HS6.out.res.cell 4; have f4 := HS6.out.res.frozen 4; have r5 := HS6.out.res.cell 5; have f5 := HS6.out.res.frozen 5
          simp only [List.getElem?_toArray, List.getElem?_cons_zero, List.getElem?_cons_succ] at r0 r1 r2 r3 r4 r5
          obtain ⟨WF, hWF⟩ : ∃ WF, WF = ((((((w6.setCell ⟨R, 0, none⟩ (.int .i64 3)).setCell ⟨R, 1, none⟩ (.int .i64 0)).setCell ⟨R, 2, none⟩ (.float .f64 b)).setCell ⟨R, 3, none⟩ (.string ⟨#[]⟩)).setCell ⟨R, 4, none⟩ (.slice none 0 0)).setCell ⟨R, 5, none⟩ (.slice none 0 0)) := ⟨_, rfl⟩
          have hst := stored6' HS6.out.res (.int .i64 3) (.int .i64 0) (.float .f64 b) (.string ⟨#[]⟩) (.slice none 0 0) (.slice none 0 0)
          rw [← hWF] at hst
          have HST := Lib.hid hst; have HWF := Lib.hid hWF
          have HRD := Lib.hid (Blk.grown HS6.out.rd hst.2 (by have := HS6.out.glt; simp; omega))
          have HON := Lib.hid (only_far HS6.out.only hst.2 (by rw [HS6.out.eq]; exact Nat.le_refl _))
          clear hWF hst
          go_wp2_with fail
          rw [← HWF.out]
          clear e0 r0 f0 e1 r1 f1 e2 r2 f2 e3 r3 f3 e4 r4 f4 e5 r5 f5
          have e0 := HST.out.1.cell 0; have e1 := HST.out.1.cell 1; have e2 := HST.out.1.cell 2; have e3 := HST.out.1.cell 3; have e4 := HST.out.1.cell 4; have e5 := HST.out.1.cell 5
          simp only [List.getElem?_toArray, List.getElem?_cons_zero, List.getElem?_cons_succ] at e0 e1 e2 e3 e4 e5
          refine bodyPost_ret (v := .agg #[.int .i64 3, .int .i64 0, .float .f64 b, .string ⟨#[]⟩, .slice none 0 0, .slice none 0 0]) (by simp [results, Try.results81, go_sem, e0, e1, e2, e3, e4, e5]) rfl ?_
          exact fleaf_end (R := R) (V := V) HRD.out HON.out (by unfold i64r; omega) (by unfold i64r; omega) hb8 (by unfold strok; decide) hq (by omega) (.inr (.inl ⟨rfl, by decide, HE2.out⟩))
      · have hz : s.size < p + 1 + 8 ∧ k = 14 := by
          rcases HST.out with ⟨h, _⟩ | ⟨h1, h2⟩
          · exact absurd h hk0
          · exact ⟨h2, h1⟩
        have HE2 : Hid (rdV s (d + 1) p m = .error k) := Lib.hid (by
          rw [HE.out]
          unfold readF
          rw [if_neg (by omega), hz.2])
        have HK := Lib.hid hk0
        have j1 : (k == 0) = false := by simpa using hk0
        clear hz HE HST hk0
        have e0 := HS5.out.cell 0; have e1 := HS5.out.cell 1; have e2 := HS5.out.cell 2; have e3 := HS5.out.cell 3; have e4 := HS5.out.cell 4; have e5 := HS5.out.cell 5
        simp only [List.getElem?_cons_zero, List.getElem?_cons_succ] at e0 e1 e2 e3 e4 e5
        have r0 := HS5.out.res.cell 0; have f0 := HS5.out.res.frozen 0; have r1 := HS5.out.res.cell 1; have f1 := HS5.out.res.frozen 1; have r2 := HS5.out.res.cell 2; have f2 := HS5.out.res.frozen 2; have r3 := HS5.out.res.cell 3; have f3 := HS5.out.res.frozen 3; have r4 := HS5.out.res.cell 4; have f4 := HS5.out.res.frozen 4; have r5 := HS5.out.res.cell 5; have f5 := HS5.out.res.frozen 5
        simp only [List.getElem?_toArray, List.getElem?_cons_zero, List.getElem?_cons_succ] at r0 r1 r2 r3 r4 r5
        obtain ⟨WF, hWF⟩ : ∃ WF, WF = ((((((W4.setCell ⟨R, 0, none⟩ (.int .i64 3)).setCell ⟨R, 1, none⟩ (.int .i64 0)).setCell ⟨R, 2, none⟩ (.float .f64 b)).setCell ⟨R, 3, none⟩ (.string ⟨#[]⟩)).setCell ⟨R, 4, none⟩ (.slice none 0 0)).setCell ⟨R, 5, none⟩ (.slice none 0 0)) := ⟨_, rfl⟩
        have hst := stored6' HS5.out.res (.int .i64 3) (.int .i64 0) (.float .f64 b) (.string ⟨#[]⟩) (.slice none 0 0) (.slice none 0 0)
        rw [← hWF] at hst
        have HST := Lib.hid hst; have HWF := Lib.hid hWF
        have HRD := Lib.hid (Blk.grown HS5.out.rd hst.2 (by have := HS5.out.glt; simp; omega))
        have HON := Lib.hid (only_far HS5.out.only hst.2 (by rw [HS5.out.eq]; exact Nat.le_refl _))
        clear hWF hst
        go_wp2_with fail
        rw [← HWF.out]
        clear e0 r0 f0 e1 r1 f1 e2 r2 f2 e3 r3 f3 e4 r4 f4 e5 r5 f5
        have e0 := HST.out.1.cell 0; have e1 := HST.out.1.cell 1; have e2 := HST.out.1.cell 2; have e3 := HST.out.1.cell 3; have e4 := HST.out.1.cell 4; have e5 := HST.out.1.cell 5
        simp only [List.getElem?_toArray, List.getElem?_cons_zero, List.getElem?_cons_succ] at e0 e1 e2 e3 e4 e5
        refine bodyPost_ret (v := .agg #[.int .i64 3, .int .i64 0, .float .f64 b, .string ⟨#[]⟩, .slice none 0 0, .slice none 0 0]) (by simp [results, Try.results81, go_sem, e0, e1, e2, e3, e4, e5]) rfl ?_
        exact fleaf_end (R := R) (V := V) HRD.out HON.out (by unfold i64r; omega) (by unfold i64r; omega) hb8 (by unfold strok; decide) hq (by omega) (.inr (.inl ⟨rfl, HK.out, HE2.out⟩))

/-- A value, whatever the bytes, whatever the reader's state. -/
theorem fvalue_any (s : ByteArray) (hs : s.size ≤ 100000) (d : Nat) : ∀ (deep : Nat) (k : Int) (p m g : Nat) (w : World), deep + d = 13 → p ≤ s.size → m ≤ 200 → RAt w g s p k (m : Int) →
    Calls Try.prog 81 #[.pointer (some ⟨g, 0, none⟩), .int .i64 deep] w fun e w' => FValD s d p m k g w e w' := by
  induction d with
  | zero =>
    intro deep k p m g w hd hp hm h
    by_cases hk : k = 0
    · subst hk
      exact fV_begin s hs 0 p m deep g w hd hp hm (.inl (by omega)) h
    · exact fV_old s hs 0 p m deep g w hd hp hm k hk h
  | succ d ih =>
    intro deep k p m g w hd hp hm h
    by_cases hk : k = 0
    case neg => exact fV_old s hs (d + 1) p m deep g w hd hp hm k hk h
    subst hk
    by_cases hm1 : m + 1 ≤ 200
    case neg => exact fV_begin s hs (d + 1) p m deep g w hd hp hm (.inr (by omega)) h
    have h12 : deep ≤ 12 := by omega
    by_cases hin : p < s.size
    case neg => exact fV_torn s hs (d + 1) p m deep g w hd hp hm h12 hm1 hin h
    by_cases h1 : (byteAt s p).toNat = 1
    · exact fV_bool s hs (d + 1) p m deep g w hd hp hm h12 hm1 hin h1 h
    by_cases h2 : (byteAt s p).toNat = 2
    · cases hu : readU s (p + 1) 0 0 with
      | error k => exact fV_int_bad s hs (d + 1) p m deep g w hd hp hm h12 hm1 hin h2 k hu h
      | ok x => exact fV_int_ok s hs (d + 1) p m deep g w hd hp hm h12 hm1 hin h2 x.1 x.2 hu h
    by_cases h3 : (byteAt s p).toNat = 3
    · exact fV_float s hs (d + 1) p m deep g w hd hp hm h12 hm1 hin h3 h
    by_cases h4 : (byteAt s p).toNat = 4
    · exact fV_str s hs (d + 1) p m deep g w hd hp hm h12 hm1 hin h4 h
    have ih' := fun (k : Int) (p m g : Nat) (w : World) hp hm h => ih (deep + 1) k p m g w (by omega) hp hm h
    by_cases h5 : (byteAt s p).toNat = 5
    · exact fV_list s hs d p m deep g w (by omega) hp hm hm1 hin h5 ih' h
    by_cases h6 : (byteAt s p).toNat = 6
    · exact fV_rec s hs d p m deep g w (by omega) hp hm hm1 hin h6 ih' h
    by_cases h0 : (byteAt s p).toNat = 0
    · exact fV_low s hs (d + 1) p m deep g w hd hp hm h12 hm1 hin _ rfl h0 h
    · exact fV_high s hs (d + 1) p m deep g w hd hp hm h12 hm1 hin _ rfl (by omega) h
end Go.Proofs.Ytemhinagajfemaa
