/- The document's parser: a text that is one (printed by wip/gen_par10.py). -/
import Derived.Test.YtjpdbhhjlnmacaaGreatTcM31
import Derived.Test.YtjpdbhhjlnmacaaGreatTcM35
import Derived.Test.YtjpdbhhjlnmacaaGreatTcM43
import Derived.Test.YtjpdbhhjlnmacaaGreatTcM44
namespace Go.Proofs.YtjpdbhhjlnmacaaGreat
set_option linter.unusedVariables false
open Go.RowKit

set_option maxHeartbeats 8000000 in
set_option maxRecDepth 100000 in
theorem parse_ok (s : ByteArray) (ts : List Tok) (P : Nat → Nat) (Q : Exp → Prop) (hs : s.size ≤ 2000) (hl : Lexed s ts P) (hn : ts.length ≤ 1000)
    (hx : ∀ w p tp tc, PS w p tp tc ts s.size 0 0 → Calls Tryz.prog 64 #[.pointer (some ⟨p, 0, none⟩)] w fun e w' => PX Q p tp tc ts s.size ts.length 0 w e w') (hr : ∀ x, Q x → x.RightB = true) (w : World) :
    Calls Tryz.prog 45 #[.string s] w fun e w' => ∃ x : Exp, e = .returned (.tuple #[x.agg, .int .i64 0, .int .i64 0]) ∧ Q x ∧ x.In w' ∧ x.Sep (fun b => w.heap.size ≤ b) ∧ Below w.heap.size w w' := by
  obtain ⟨W, hW⟩ : ∃ W, W = w.alloc (.cells zero10 29) := ⟨_, rfl⟩
  obtain ⟨A, hA⟩ : ∃ A, A = w.heap.size := ⟨_, rfl⟩
  have hBW : Below w.heap.size w W := by rw [hW]; exact (Below.refl _ w).alloc (Nat.le_refl _) _
  have hbA : Blk W A 29 zero10 := by rw [hW, hA]; exact Blk.new w 29 zero10
  have HAL := Lib.hid (all_any s ts P W hl hn)
  have HX := Lib.hid hx; have HR := Lib.hid hr
  have HW := Lib.hid hW; have HA := Lib.hid hA; have HBW := Lib.hid hBW; have HBA := Lib.hid hbA
  have h0 : decide ((2000 : Int) < (s.size : Int)) = false := by simp; omega
  have h1 : ¬ (2000 < s.size) := by omega
  have hsf := run_store_flt
  clear hW hA hBW hbA hl hx hr
  go_enter Tryz.func45, Tryz.ntmps45
  go_upto_region 1 with fail
  unfold zero10 at HW
  rw [← HW.out, ← HA.out]
  go_wp2_with fail
  refine HAL.out.mono ?_
  rintro e w2 ⟨tp, tc, rfl, htk, htg, hb2⟩
  obtain ⟨W3, hW3⟩ : ∃ W3, W3 = w2.alloc (.cells #[.slice tp ts.length tc, .int .i64 0, .int .i64 (s.size : Int), .int .i64 0, .int .i64 0, .int .i64 0] 97) := ⟨_, rfl⟩
  obtain ⟨p, hp⟩ : ∃ p, p = w2.heap.size := ⟨_, rfl⟩
  have hb3 : Below w2.heap.size w2 W3 := by rw [hW3]; exact (Below.refl _ w2).alloc (Nat.le_refl _) _
  have hps : PS W3 p tp tc ts s.size 0 0 := by
    refine ⟨by rw [hW3, hp]; exact Blk.new w2 97 _, ⟨htk.cap, fun k hk => ?_⟩, fun g o m e => ?_⟩
    · obtain ⟨g, a, b, c⟩ := htk.at_ k hk
      exact ⟨g, a, Nat.lt_of_lt_of_le b hb3.size, fun j hj => (hb3.cell (p := ⟨g, k * 6 + j, none⟩) b).trans (c j hj)⟩
    · rcases Nat.eq_zero_or_pos ts.length with h0 | h0
      · exact .inl h0
      · obtain ⟨g', a, b, _⟩ := htk.at_ 0 h0
        rw [a] at e
        injection e with e
        injection e with e
        exact .inr (by omega)
  have hAlt : A < W.heap.size := HBA.out.lt
  have hAp : A < p := by have := hb2.size; omega
  have hB3 : Below w.heap.size w W3 := HBW.out.trans ((hb2.trans (hb3.mono hb2.size)).mono HBW.out.size)
  have hbA3 : Blk W3 A 29 zero10 := (HBA.out.below hb2 hAlt).below hb3 (by omega)
  have hp3 : p < W3.heap.size := hps.blk.lt
  have HW3 := Lib.hid hW3; have HP := Lib.hid hp; have HPS := Lib.hid hps; have HB3 := Lib.hid hB3; have HBA3 := Lib.hid hbA3
  clear hW3 hp hps hB3 hbA3 htk htg hb2 hb3 hAlt
  go_upto_region 7 with fail
  rw [← HW3.out, ← HP.out]
  go_wp2_with fail
  refine (HX.out _ _ _ _ HPS.out).mono ?_
  rintro e w4 ⟨x, rfl, hq, hxi, hxs, hps4, ho4⟩
  obtain ⟨p8, q8, e8⟩ := hxi.nslice
  obtain ⟨p9, q9, e9⟩ := hxi.xslice
  obtain ⟨p6, q6, e6⟩ := hxi.val.nslice
  obtain ⟨p7, q7, e7⟩ := hxi.val.xslice
  have hrx := rxrightf_any x
  rw [HR.out x hq] at hrx
  unfold Exp.agg at hrx ⊢
  rw [e6, e7, e8, e9] at hrx ⊢
  obtain ⟨W5, hW5⟩ : ∃ W5, W5 = w4.alloc (.cells #[.int .i64 x.k, .string x.s, .int .i64 x.v.k, .int .i64 x.v.n, .float .f64 x.v.f, .string x.v.s, .slice p6 x.v.ns.length q6, .slice p7 x.v.xs.length q7, .slice p8 x.ns.length q8, .slice p9 x.xs.length q9] 29) := ⟨_, rfl⟩
  obtain ⟨B, hB⟩ : ∃ B, B = w4.heap.size := ⟨_, rfl⟩
  have hb5 : Below w4.heap.size w4 W5 := by rw [hW5]; exact (Below.refl _ w4).alloc (Nat.le_refl _) _
  have hps5 := hps4.below hb5
  have hbA5 : Blk W5 A 29 zero10 := (HBA3.out.grown ho4 (by simp; omega)).below hb5 (by have := ho4.size; omega)
  have hbB5 : Blk W5 B 29 #[.int .i64 x.k, .string x.s, .int .i64 x.v.k, .int .i64 x.v.n, .float .f64 x.v.f, .string x.v.s, .slice p6 x.v.ns.length q6, .slice p7 x.v.xs.length q7, .slice p8 x.ns.length q8, .slice p9 x.xs.length q9] := by rw [hW5, hB]; exact Blk.new w4 29 _
  have hB5 : Below w.heap.size w W5 := (Below.only HB3.out ho4 (by have := HA.out; omega) HB3.out.size).trans (hb5.mono (Nat.le_trans HB3.out.size ho4.size))
  have hx5 := hxi.below hb5
  have HRX := Lib.hid (hrx W5 hx5)
  have hAB : A < B := by have := ho4.size; omega
  have hA5 : A < W5.heap.size := hbA5.lt
  have hB5l : B < W5.heap.size := hbB5.lt
  have d1 := hps5.blk.cell 1; have d3 := hps5.blk.cell 3
  simp at d1 d3
  have c0 := hbB5.cell 0; have c1 := hbB5.cell 1; have c2 := hbB5.cell 2; have c3 := hbB5.cell 3; have c4 := hbB5.cell 4; have c5 := hbB5.cell 5; have c6 := hbB5.cell 6; have c7 := hbB5.cell 7; have c8 := hbB5.cell 8; have c9 := hbB5.cell 9
  simp at c0 c1 c2 c3 c4 c5 c6 c7 c8 c9
  have HW5 := Lib.hid hW5; have HB := Lib.hid hB; have HQ := Lib.hid hq; have HXS := Lib.hid (hxs.mono (fun b (hb : W3.heap.size ≤ b) => show A + 1 ≤ b by omega)); have HX5 := Lib.hid hx5; have HPS5 := Lib.hid hps5; have HBA5 := Lib.hid hbA5; have HBB5 := Lib.hid hbB5; have HB5 := Lib.hid hB5; have E6 := Lib.hid e6; have E7 := Lib.hid e7; have E8 := Lib.hid e8; have E9 := Lib.hid e9
  clear hW5 hB hq hxi hxs hps4 ho4 hb5 hps5 hbA5 hbB5 hB5 hx5 hrx e6 e7 e8 e9
  go_upto_region 8 with fail
  rw [← HW5.out, ← HB.out]
  go_wp2_with fail
  refine HRX.out.mono ?_
  rintro e w6 ⟨rfl, hb6⟩
  have hps6 := HPS5.out.below hb6
  have hbA6 := HBA5.out.below hb6 hA5
  have hbB6 := HBB5.out.below hb6 hB5l
  clear d1 d3 c0 c1 c2 c3 c4 c5 c6 c7 c8 c9
  have d3 := hps6.blk.cell 3
  simp at d3
  have c0 := hbB6.cell 0; have c1 := hbB6.cell 1; have c2 := hbB6.cell 2; have c3 := hbB6.cell 3; have c4 := hbB6.cell 4; have c5 := hbB6.cell 5; have c6 := hbB6.cell 6; have c7 := hbB6.cell 7; have c8 := hbB6.cell 8; have c9 := hbB6.cell 9
  have r0 := hbA6.cell 0; have r1 := hbA6.cell 1; have r2 := hbA6.cell 2; have r3 := hbA6.cell 3; have r4 := hbA6.cell 4; have r5 := hbA6.cell 5; have r6 := hbA6.cell 6; have r7 := hbA6.cell 7; have r8 := hbA6.cell 8; have r9 := hbA6.cell 9
  have s0 := hbA6.frozen 0; have s1 := hbA6.frozen 1; have s2 := hbA6.frozen 2; have s3 := hbA6.frozen 3; have s4 := hbA6.frozen 4; have s5 := hbA6.frozen 5; have s6 := hbA6.frozen 6; have s7 := hbA6.frozen 7; have s8 := hbA6.frozen 8; have s9 := hbA6.frozen 9
  simp at c0 c1 c2 c3 c4 c5 c6 c7 c8 c9 r0 r1 r2 r3 r4 r5 r6 r7 r8 r9
  obtain ⟨WF, hWF⟩ : ∃ WF, WF = ((((((((((w6.setCell ⟨A, 0, none⟩ (.int .i64 x.k)).setCell ⟨A, 1, none⟩ (.string x.s)).setCell ⟨A, 2, none⟩ (.int .i64 x.v.k)).setCell ⟨A, 3, none⟩ (.int .i64 x.v.n)).setCell ⟨A, 4, none⟩ (.float .f64 x.v.f)).setCell ⟨A, 5, none⟩ (.string x.v.s)).setCell ⟨A, 6, none⟩ (.slice p6 x.v.ns.length q6)).setCell ⟨A, 7, none⟩ (.slice p7 x.v.xs.length q7)).setCell ⟨A, 8, none⟩ (.slice p8 x.ns.length q8)).setCell ⟨A, 9, none⟩ (.slice p9 x.xs.length q9)) := ⟨_, rfl⟩
  have hoF : Only w6 WF A := by
    rw [hWF]
    exact ((((((((((Only.refl w6 A).set_ (p := ⟨A, 0, none⟩) (.inl rfl) _).set_ (p := ⟨A, 1, none⟩) (.inl rfl) _).set_ (p := ⟨A, 2, none⟩) (.inl rfl) _).set_ (p := ⟨A, 3, none⟩) (.inl rfl) _).set_ (p := ⟨A, 4, none⟩) (.inl rfl) _).set_ (p := ⟨A, 5, none⟩) (.inl rfl) _).set_ (p := ⟨A, 6, none⟩) (.inl rfl) _).set_ (p := ⟨A, 7, none⟩) (.inl rfl) _).set_ (p := ⟨A, 8, none⟩) (.inl rfl) _).set_ (p := ⟨A, 9, none⟩) (.inl rfl) _
  have hF : Blk WF A 29 #[.int .i64 x.k, .string x.s, .int .i64 x.v.k, .int .i64 x.v.n, .float .f64 x.v.f, .string x.v.s, .slice p6 x.v.ns.length q6, .slice p7 x.v.xs.length q7, .slice p8 x.ns.length q8, .slice p9 x.xs.length q9] := by rw [hWF]; exact blk10_set hbA6 (.int .i64 x.k) (.string x.s) (.int .i64 x.v.k) (.int .i64 x.v.n) (.float .f64 x.v.f) (.string x.v.s) (.slice p6 x.v.ns.length q6) (.slice p7 x.v.xs.length q7) (.slice p8 x.ns.length q8) (.slice p9 x.xs.length q9)
  have hBF : Below w.heap.size w WF := by rw [hWF]; exact below10_set (HB5.out.trans (hb6.mono HB5.out.size)) (by have := HA.out; omega) (.int .i64 x.k) (.string x.s) (.int .i64 x.v.k) (.int .i64 x.v.n) (.float .f64 x.v.f) (.string x.v.s) (.slice p6 x.v.ns.length q6) (.slice p7 x.v.xs.length q7) (.slice p8 x.ns.length q8) (.slice p9 x.xs.length q9)
  have hxF : x.In WF := In.only (HX5.out.below hb6) HXS.out (fun b hb => by omega) hoF
  have HF := Lib.hid hF; have HBF := Lib.hid hBF; have HXF := Lib.hid hxF; have HWF := Lib.hid hWF
  clear hoF hF hBF hxF hWF hps6 hbA6 hbB6 hb6
  go_wp2_with fail
  rw [← HWF.out]
  have f0 := HF.out.cell 0; have f1 := HF.out.cell 1; have f2 := HF.out.cell 2; have f3 := HF.out.cell 3; have f4 := HF.out.cell 4; have f5 := HF.out.cell 5; have f6 := HF.out.cell 6; have f7 := HF.out.cell 7; have f8 := HF.out.cell 8; have f9 := HF.out.cell 9
  simp at f0 f1 f2 f3 f4 f5 f6 f7 f8 f9
  refine bodyPost_ret (v := .tuple #[.agg #[.int .i64 x.k, .string x.s, .int .i64 x.v.k, .int .i64 x.v.n, .float .f64 x.v.f, .string x.v.s, .slice p6 x.v.ns.length q6, .slice p7 x.v.xs.length q7, .slice p8 x.ns.length q8, .slice p9 x.xs.length q9], .int .i64 0, .int .i64 0]) (by simp [results, Tryz.results45, go_sem, f0, f1, f2, f3, f4, f5, f6, f7, f8, f9]) rfl ?_
  exact ⟨x, by unfold Exp.agg; rw [E6.out, E7.out, E8.out, E9.out], HQ.out, HXF.out, HXS.out.mono (fun b hb => by have := HA.out; omega), HBF.out⟩
end Go.Proofs.YtjpdbhhjlnmacaaGreat

/- The document's lexer: the tokens of the texts (printed by wip/gen_lex8.py). -/
namespace Go.Proofs.YtjpdbhhjlnmacaaGreat
set_option linter.unusedVariables false
open Go.RowKit

theorem blankTo_of (s : ByteArray) (i a : Nat) (h : (decide (i ≤ a) && decide (a ≤ s.size) && ((List.range a).all fun k => decide (k < i) || blankB (byteAt s k)) && (decide (a = s.size) || !blankB (byteAt s a))) = true) : BlankTo s i a := by
  simp only [Bool.and_eq_true, decide_eq_true_eq, List.all_eq_true, List.mem_range, Bool.or_eq_true, Bool.not_eq_true'] at h
  exact ⟨h.1.1.1, h.1.1.2, fun k h1 h2 => by rcases h.1.2 k h2 with h' | h'; omega; exact h', h.2⟩
theorem runTo_of (s : ByteArray) (i a : Nat) (h : (decide (i ≤ a) && decide (a ≤ s.size) && ((List.range a).all fun k => decide (k < i) || digitB (byteAt s k)) && (decide (a = s.size) || !digitB (byteAt s a))) = true) : RunTo s i a := by
  simp only [Bool.and_eq_true, decide_eq_true_eq, List.all_eq_true, List.mem_range, Bool.or_eq_true, Bool.not_eq_true'] at h
  exact ⟨h.1.1.1, h.1.1.2, fun k h1 h2 => by rcases h.1.2 k h2 with h' | h'; omega; exact h', h.2⟩
theorem signs_of (s : ByteArray) (a J : Nat) (h : ((List.range J).all fun k => !decide (byteAt allSigns k = byteAt s a)) = true) : ∀ i, i < J → byteAt allSigns i ≠ byteAt s a := by
  simp only [List.all_eq_true, List.mem_range, Bool.not_eq_true', decide_eq_false_iff_not] at h
  exact h
def tx1 : ByteArray := ⟨#[120, 43, 49, 32, 60, 32, 50]⟩
def tx1T : List Tok := [Tok.mk 5 0 1 0 0 ⟨#[120]⟩, Tok.mk 6 1 2 0 0 ⟨#[43]⟩, Tok.mk 2 2 3 1 0 ⟨#[]⟩, Tok.mk 6 4 5 0 0 ⟨#[60]⟩, Tok.mk 2 6 7 2 0 ⟨#[]⟩]
def tx1P (i : Nat) : Nat := [0, 1, 2, 3, 5, 7].getD i 0
theorem tx1_lexed : Lexed tx1 tx1T tx1P where
  zero := rfl
  next := fun i h => by
    match i, h with
    | 0, _ => exact ⟨rfl, rfl, _, fun w => next_name tx1 0 0 _ w (by decide) (blankTo_of tx1 0 0 (by kernel_rfl)) (by decide) (by kernel_rfl) (by kernel_rfl) (fun w => name_one tx1 0 w (by decide) (by decide) (by kernel_rfl) (.inr ⟨by decide, by kernel_rfl, by kernel_rfl, by decide⟩))⟩
    | 1, _ => exact ⟨rfl, rfl, _, fun w => next_sign tx1 1 1 _ w (by decide) (blankTo_of tx1 1 1 (by kernel_rfl)) (by decide) (by kernel_rfl) (by kernel_rfl) (by decide) (fun w => sign_one tx1 1 w (by decide) (by decide) 10 (by decide) (by kernel_rfl) (signs_of tx1 1 10 (by kernel_rfl)) (tx1.extract 1 3) (.inl ⟨by decide, rfl⟩) (by kernel_rfl) (by kernel_rfl) (by kernel_rfl) (by kernel_rfl))⟩
    | 2, _ => exact ⟨rfl, rfl, _, fun w => next_num tx1 2 2 _ w (by decide) (blankTo_of tx1 2 2 (by kernel_rfl)) (by decide) (by kernel_rfl) (fun w => num_one tx1 2 w (by decide) (by decide) 49 1 (by kernel_rfl) (.inl ⟨rfl, rfl⟩) (runTo_of tx1 2 3 (by kernel_rfl)) (.inr ⟨by decide, by decide⟩))⟩
    | 3, _ => exact ⟨rfl, rfl, _, fun w => next_sign tx1 3 4 _ w (by decide) (blankTo_of tx1 3 4 (by kernel_rfl)) (by decide) (by kernel_rfl) (by kernel_rfl) (by decide) (fun w => sign_one tx1 4 w (by decide) (by decide) 16 (by decide) (by kernel_rfl) (signs_of tx1 4 16 (by kernel_rfl)) (tx1.extract 4 6) (.inl ⟨by decide, rfl⟩) (by kernel_rfl) (by kernel_rfl) (by kernel_rfl) (by kernel_rfl))⟩
    | 4, _ => exact ⟨rfl, rfl, _, fun w => next_num tx1 5 6 _ w (by decide) (blankTo_of tx1 5 6 (by kernel_rfl)) (by decide) (by kernel_rfl) (fun w => num_one tx1 6 w (by decide) (by decide) 50 2 (by kernel_rfl) (.inr ⟨rfl, rfl⟩) (runTo_of tx1 6 7 (by kernel_rfl)) (.inl rfl))⟩
  end_ := fun w => next_end tx1 7 w (by decide) (blankTo_of tx1 7 7 (by kernel_rfl))
def tx2 : ByteArray := ⟨#[91, 93, 32, 43, 32, 91, 49, 93]⟩
def tx2T : List Tok := [Tok.mk 6 0 1 0 0 ⟨#[91]⟩, Tok.mk 6 1 2 0 0 ⟨#[93]⟩, Tok.mk 6 3 4 0 0 ⟨#[43]⟩, Tok.mk 6 5 6 0 0 ⟨#[91]⟩, Tok.mk 2 6 7 1 0 ⟨#[]⟩, Tok.mk 6 7 8 0 0 ⟨#[93]⟩]
def tx2P (i : Nat) : Nat := [0, 1, 2, 4, 6, 7, 8].getD i 0
theorem tx2_lexed : Lexed tx2 tx2T tx2P where
  zero := rfl
  next := fun i h => by
    match i, h with
    | 0, _ => exact ⟨rfl, rfl, _, fun w => next_sign tx2 0 0 _ w (by decide) (blankTo_of tx2 0 0 (by kernel_rfl)) (by decide) (by kernel_rfl) (by kernel_rfl) (by decide) (fun w => sign_one tx2 0 w (by decide) (by decide) 2 (by decide) (by kernel_rfl) (signs_of tx2 0 2 (by kernel_rfl)) (tx2.extract 0 2) (.inl ⟨by decide, rfl⟩) (by kernel_rfl) (by kernel_rfl) (by kernel_rfl) (by kernel_rfl))⟩
    | 1, _ => exact ⟨rfl, rfl, _, fun w => next_sign tx2 1 1 _ w (by decide) (blankTo_of tx2 1 1 (by kernel_rfl)) (by decide) (by kernel_rfl) (by kernel_rfl) (by decide) (fun w => sign_one tx2 1 w (by decide) (by decide) 3 (by decide) (by kernel_rfl) (signs_of tx2 1 3 (by kernel_rfl)) (tx2.extract 1 3) (.inl ⟨by decide, rfl⟩) (by kernel_rfl) (by kernel_rfl) (by kernel_rfl) (by kernel_rfl))⟩
    | 2, _ => exact ⟨rfl, rfl, _, fun w => next_sign tx2 2 3 _ w (by decide) (blankTo_of tx2 2 3 (by kernel_rfl)) (by decide) (by kernel_rfl) (by kernel_rfl) (by decide) (fun w => sign_one tx2 3 w (by decide) (by decide) 10 (by decide) (by kernel_rfl) (signs_of tx2 3 10 (by kernel_rfl)) (tx2.extract 3 5) (.inl ⟨by decide, rfl⟩) (by kernel_rfl) (by kernel_rfl) (by kernel_rfl) (by kernel_rfl))⟩
    | 3, _ => exact ⟨rfl, rfl, _, fun w => next_sign tx2 4 5 _ w (by decide) (blankTo_of tx2 4 5 (by kernel_rfl)) (by decide) (by kernel_rfl) (by kernel_rfl) (by decide) (fun w => sign_one tx2 5 w (by decide) (by decide) 2 (by decide) (by kernel_rfl) (signs_of tx2 5 2 (by kernel_rfl)) (tx2.extract 5 7) (.inl ⟨by decide, rfl⟩) (by kernel_rfl) (by kernel_rfl) (by kernel_rfl) (by kernel_rfl))⟩
    | 4, _ => exact ⟨rfl, rfl, _, fun w => next_num tx2 6 6 _ w (by decide) (blankTo_of tx2 6 6 (by kernel_rfl)) (by decide) (by kernel_rfl) (fun w => num_one tx2 6 w (by decide) (by decide) 49 1 (by kernel_rfl) (.inl ⟨rfl, rfl⟩) (runTo_of tx2 6 7 (by kernel_rfl)) (.inr ⟨by decide, by decide⟩))⟩
    | 5, _ => exact ⟨rfl, rfl, _, fun w => next_sign tx2 7 7 _ w (by decide) (blankTo_of tx2 7 7 (by kernel_rfl)) (by decide) (by kernel_rfl) (by kernel_rfl) (by decide) (fun w => sign_one tx2 7 w (by decide) (by decide) 3 (by decide) (by kernel_rfl) (signs_of tx2 7 3 (by kernel_rfl)) (tx2.extract 7 8) (.inr ⟨rfl, rfl⟩) (by kernel_rfl) (by kernel_rfl) (by kernel_rfl) (by kernel_rfl))⟩
  end_ := fun w => next_end tx2 8 w (by decide) (blankTo_of tx2 8 8 (by kernel_rfl))
def tx3 : ByteArray := ⟨#[120, 32, 43, 32, 49, 112, 48]⟩
def tx3T : List Tok := [Tok.mk 5 0 1 0 0 ⟨#[120]⟩, Tok.mk 6 2 3 0 0 ⟨#[43]⟩, Tok.mk 3 4 7 0 4607182418800017408 ⟨#[]⟩]
def tx3P (i : Nat) : Nat := [0, 1, 3, 7].getD i 0
theorem tx3_lexed : Lexed tx3 tx3T tx3P where
  zero := rfl
  next := fun i h => by
    match i, h with
    | 0, _ => exact ⟨rfl, rfl, _, fun w => next_name tx3 0 0 _ w (by decide) (blankTo_of tx3 0 0 (by kernel_rfl)) (by decide) (by kernel_rfl) (by kernel_rfl) (fun w => name_one tx3 0 w (by decide) (by decide) (by kernel_rfl) (.inr ⟨by decide, by kernel_rfl, by kernel_rfl, by decide⟩))⟩
    | 1, _ => exact ⟨rfl, rfl, _, fun w => next_sign tx3 1 2 _ w (by decide) (blankTo_of tx3 1 2 (by kernel_rfl)) (by decide) (by kernel_rfl) (by kernel_rfl) (by decide) (fun w => sign_one tx3 2 w (by decide) (by decide) 10 (by decide) (by kernel_rfl) (signs_of tx3 2 10 (by kernel_rfl)) (tx3.extract 2 4) (.inl ⟨by decide, rfl⟩) (by kernel_rfl) (by kernel_rfl) (by kernel_rfl) (by kernel_rfl))⟩
    | 2, _ => exact ⟨rfl, rfl, _, fun w => next_num tx3 3 4 _ w (by decide) (blankTo_of tx3 3 4 (by kernel_rfl)) (by decide) (by kernel_rfl) (fun w => num_flt tx3 4 w (by decide) rfl (runTo_of tx3 4 5 (by kernel_rfl)) (runTo_of tx3 6 7 (by kernel_rfl)) (by kernel_rfl) (by kernel_rfl) (by kernel_rfl))⟩
  end_ := fun w => next_end tx3 7 w (by decide) (blankTo_of tx3 7 7 (by kernel_rfl))
def tx4 : ByteArray := ⟨#[121]⟩
def tx4T : List Tok := [Tok.mk 5 0 1 0 0 ⟨#[121]⟩]
def tx4P (i : Nat) : Nat := [0, 1].getD i 0
theorem tx4_lexed : Lexed tx4 tx4T tx4P where
  zero := rfl
  next := fun i h => by
    match i, h with
    | 0, _ => exact ⟨rfl, rfl, _, fun w => next_name tx4 0 0 _ w (by decide) (blankTo_of tx4 0 0 (by kernel_rfl)) (by decide) (by kernel_rfl) (by kernel_rfl) (fun w => name_one tx4 0 w (by decide) (by decide) (by kernel_rfl) (.inl rfl))⟩
  end_ := fun w => next_end tx4 1 w (by decide) (blankTo_of tx4 1 1 (by kernel_rfl))
def tx5 : ByteArray := ⟨#[91, 93]⟩
def tx5T : List Tok := [Tok.mk 6 0 1 0 0 ⟨#[91]⟩, Tok.mk 6 1 2 0 0 ⟨#[93]⟩]
def tx5P (i : Nat) : Nat := [0, 1, 2].getD i 0
theorem tx5_lexed : Lexed tx5 tx5T tx5P where
  zero := rfl
  next := fun i h => by
    match i, h with
    | 0, _ => exact ⟨rfl, rfl, _, fun w => next_sign tx5 0 0 _ w (by decide) (blankTo_of tx5 0 0 (by kernel_rfl)) (by decide) (by kernel_rfl) (by kernel_rfl) (by decide) (fun w => sign_one tx5 0 w (by decide) (by decide) 2 (by decide) (by kernel_rfl) (signs_of tx5 0 2 (by kernel_rfl)) (tx5.extract 0 2) (.inl ⟨by decide, rfl⟩) (by kernel_rfl) (by kernel_rfl) (by kernel_rfl) (by kernel_rfl))⟩
    | 1, _ => exact ⟨rfl, rfl, _, fun w => next_sign tx5 1 1 _ w (by decide) (blankTo_of tx5 1 1 (by kernel_rfl)) (by decide) (by kernel_rfl) (by kernel_rfl) (by decide) (fun w => sign_one tx5 1 w (by decide) (by decide) 3 (by decide) (by kernel_rfl) (signs_of tx5 1 3 (by kernel_rfl)) (tx5.extract 1 2) (.inr ⟨rfl, rfl⟩) (by kernel_rfl) (by kernel_rfl) (by kernel_rfl) (by kernel_rfl))⟩
  end_ := fun w => next_end tx5 2 w (by decide) (blankTo_of tx5 2 2 (by kernel_rfl))
end Go.Proofs.YtjpdbhhjlnmacaaGreat

/- The document's parser: the five texts of basculelaw09.awake. -/
namespace Go.Proofs.YtjpdbhhjlnmacaaGreat
set_option linter.unusedVariables false
open Go.RowKit

section
variable {p : Nat} {tp : Option Addr} {tc : Nat} {ts : List Tok} {en i j l d : Nat} {Q P : Exp → Prop}
/-- No sign of these is next. -/
def noSign (ts : List Tok) (i : Nat) (l : List (List UInt8)) : Bool := l.all fun s => !tokIs ts i ⟨s.toArray⟩
theorem noSign_at {l : List (List UInt8)} (h : noSign ts i l = true) (s : List UInt8) (hs : s ∈ l) : tokIs ts i ⟨s.toArray⟩ = false := by
  have := List.all_eq_true.1 h s hs
  simpa using this
theorem prod_of (hin : ∀ w, PS w p tp tc ts en i (d + 1) → Calls Tryz.prog 138 #[.pointer (some ⟨p, 0, none⟩)] w fun e w' => PX Q p tp tc ts en j (d + 1) w e w') (hi : i < 1000000) (hj : j < 1000000) (hd : d < 100) (n0 : noSign ts i [[45], [33]] = true) (n1 : noSign ts j [[46], [91], [42], [47], [37]] = true) (w : World) (h : PS w p tp tc ts en i d) :
    Calls Tryz.prog 134 #[.pointer (some ⟨p, 0, none⟩)] w fun e w' => PX Q p tp tc ts en j d w e w' :=
  prod_pass (fun w h => unary_pass (fun w h => post_pass hin (by omega) (noSign_at n1 [46] (by simp)) (noSign_at n1 [91] (by simp)) w h) (by omega) hd (noSign_at n0 [45] (by simp)) (noSign_at n0 [33] (by simp)) w h) (by omega) (noSign_at n1 [42] (by simp)) (noSign_at n1 [47] (by simp)) (noSign_at n1 [37] (by simp)) w h
theorem sum_of (hin : ∀ w, PS w p tp tc ts en i (d + 1) → Calls Tryz.prog 138 #[.pointer (some ⟨p, 0, none⟩)] w fun e w' => PX Q p tp tc ts en j (d + 1) w e w') (hi : i < 1000000) (hj : j < 1000000) (hd : d < 100) (n0 : noSign ts i [[45], [33]] = true) (n1 : noSign ts j [[46], [91], [42], [47], [37]] = true) (n2 : noSign ts j [[43], [45]] = true) (w : World) (h : PS w p tp tc ts en i d) :
    Calls Tryz.prog 133 #[.pointer (some ⟨p, 0, none⟩)] w fun e w' => PX Q p tp tc ts en j d w e w' :=
  sum_pass (fun w h => prod_of hin hi hj hd n0 n1 w h) (by omega) (noSign_at n2 [43] (by simp)) (noSign_at n2 [45] (by simp)) w h
theorem expr_of_sum (hin : ∀ w, PS w p tp tc ts en i (d + 1) → Calls Tryz.prog 133 #[.pointer (some ⟨p, 0, none⟩)] w fun e w' => PX Q p tp tc ts en j (d + 1) w e w') (hj : j < 1000000) (hd : d < 100) (n1 : noSign ts j [[61, 61], [60, 61], [60], [38, 38], [124, 124], [63]] = true) (w : World) (h : PS w p tp tc ts en i d) :
    Calls Tryz.prog 64 #[.pointer (some ⟨p, 0, none⟩)] w fun e w' => PX Q p tp tc ts en j d w e w' :=
  expr_pass (fun w h => or_pass (fun w h => and_pass (fun w h => cmp_pass hin (by omega) (noSign_at n1 [61, 61] (by simp)) (noSign_at n1 [60, 61] (by simp)) (noSign_at n1 [60] (by simp)) w h) (by omega) (noSign_at n1 [38, 38] (by simp)) w h) (by omega) (noSign_at n1 [124, 124] (by simp)) w h) (by omega) hd (noSign_at n1 [63] (by simp)) w h
/-- A name, a number, a float. -/
theorem nameP_at (s : ByteArray) (a n : Int) (ht : ts[i]? = some (Tok.mk 5 a n 0 0 s)) (hs : strok s) (m : (s.toList.length == 1) = true) (hi : i < 1000000) (n0 : noSign ts i [[40], [91], [123]] = true) (w : World) (h : PS w p tp tc ts en i d) :
    Calls Tryz.prog 138 #[.pointer (some ⟨p, 0, none⟩)] w fun e w' => PX (fun x => x = leafX 2 s 0 0 0 ⟨#[]⟩) p tp tc ts en (i + 1) d w e w' := by
  have hm : s.toList.length = 1 := by simpa using m
  exact prim_name _ ht rfl hs (list_ne_len (by simp [hm])) (list_ne_len (by simp [hm])) (list_ne_len (by simp [hm])) (list_ne_len (by simp [hm])) (list_ne_len (by simp [hm])) (list_ne_len (by simp [hm])) (by omega) (noSign_at n0 [40] (by simp)) (noSign_at n0 [91] (by simp)) (noSign_at n0 [123] (by simp)) w h
theorem numP_at (v a n : Int) (ht : ts[i]? = some (Tok.mk 2 a n v 0 ⟨#[]⟩)) (hv : i64r v) (hi : i < 1000000) (n0 : noSign ts i [[40], [91], [123]] = true) (w : World) (h : PS w p tp tc ts en i d) :
    Calls Tryz.prog 138 #[.pointer (some ⟨p, 0, none⟩)] w fun e w' => PX (fun x => x = leafX 1 ⟨#[]⟩ 2 v 0 ⟨#[]⟩) p tp tc ts en (i + 1) d w e w' :=
  prim_num _ ht rfl hv (by omega) (noSign_at n0 [40] (by simp)) (noSign_at n0 [91] (by simp)) (noSign_at n0 [123] (by simp)) w h
theorem fltP_at (f : Nat) (a n : Int) (ht : ts[i]? = some (Tok.mk 3 a n 0 f ⟨#[]⟩)) (hf : f < 18446744073709551616) (hi : i < 1000000) (n0 : noSign ts i [[40], [91], [123]] = true) (w : World) (h : PS w p tp tc ts en i d) :
    Calls Tryz.prog 138 #[.pointer (some ⟨p, 0, none⟩)] w fun e w' => PX (fun x => x = leafX 1 ⟨#[]⟩ 3 0 f ⟨#[]⟩) p tp tc ts en (i + 1) d w e w' :=
  prim_flt _ ht rfl hf (by omega) (noSign_at n0 [40] (by simp)) (noSign_at n0 [91] (by simp)) (noSign_at n0 [123] (by simp)) w h
end

abbrev xX : Exp := leafX 2 ⟨#[120]⟩ 0 0 0 ⟨#[]⟩
abbrev yX : Exp := leafX 2 ⟨#[121]⟩ 0 0 0 ⟨#[]⟩
abbrev nX (v : Int) : Exp := leafX 1 ⟨#[]⟩ 2 v 0 ⟨#[]⟩
abbrev fX : Exp := leafX 1 ⟨#[]⟩ 3 0 4607182418800017408 ⟨#[]⟩
def Q4 (x : Exp) : Prop := x = yX
def Q5 (x : Exp) : Prop := x = listX .no []
def Q3 (x : Exp) : Prop := SumQ (fun x => x = xX) (fun x => x = fX) x
def Q2 (x : Exp) : Prop := SumQ (fun x => x = listX .no []) (fun x => ∃ xa y, x = listX xa [y] ∧ y = nX 1) x
def Q1 (x : Exp) : Prop := ∃ g a b, x = Exp.two 11 (.at_ g 0 2) a b ∧ SumQ (fun x => x = xX) (fun x => x = nX 1) a ∧ b = nX 2
theorem strok1 (c : UInt8) : strok ⟨#[c]⟩ := by show (⟨#[c]⟩ : ByteArray).size ≤ _; show 1 ≤ _; omega

theorem parse_tx4 (w : World) : Calls Tryz.prog 45 #[.string tx4] w fun e w' => ∃ x : Exp, e = .returned (.tuple #[x.agg, .int .i64 0, .int .i64 0]) ∧ Q4 x ∧ x.In w' ∧ x.Sep (fun b => w.heap.size ≤ b) ∧ Below w.heap.size w w' :=
  parse_ok tx4 tx4T tx4P Q4 (by decide) tx4_lexed (by decide) (fun w p tp tc h => expr_of_sum (j := 1) (fun w h => sum_of (i := 0) (j := 1) (fun w h => nameP_at (i := 0) ⟨#[121]⟩ _ _ rfl (strok1 _) (by kernel_rfl) (by omega) (by kernel_rfl) w h) (by omega) (by omega) (by omega) (by kernel_rfl) (by kernel_rfl) (by kernel_rfl) w h) (by decide) (by omega) (by kernel_rfl) w h)
    (fun x hx => by rw [show x = yX from hx]; kernel_rfl) w
theorem parse_tx5 (w : World) : Calls Tryz.prog 45 #[.string tx5] w fun e w' => ∃ x : Exp, e = .returned (.tuple #[x.agg, .int .i64 0, .int .i64 0]) ∧ Q5 x ∧ x.In w' ∧ x.Sep (fun b => w.heap.size ≤ b) ∧ Below w.heap.size w w' :=
  parse_ok tx5 tx5T tx5P Q5 (by decide) tx5_lexed (by decide) (fun w p tp tc h => expr_of_sum (j := 2) (fun w h => sum_of (i := 0) (j := 2) (fun w h => prim_list (i := 0) (j := 2) (fun w h => list_nil (i := 1) (by omega) (by kernel_rfl) w h) (by omega) (by kernel_rfl) (by kernel_rfl) w h) (by omega) (by omega) (by omega) (by kernel_rfl) (by kernel_rfl) (by kernel_rfl) w h) (by decide) (by omega) (by kernel_rfl) w h)
    (fun x hx => by rw [show x = listX .no [] from hx]; kernel_rfl) w
theorem parse_tx3 (w : World) : Calls Tryz.prog 45 #[.string tx3] w fun e w' => ∃ x : Exp, e = .returned (.tuple #[x.agg, .int .i64 0, .int .i64 0]) ∧ Q3 x ∧ x.In w' ∧ x.Sep (fun b => w.heap.size ≤ b) ∧ Below w.heap.size w w' :=
  parse_ok tx3 tx3T tx3P Q3 (by decide) tx3_lexed (by decide) (fun w p tp tc h => expr_of_sum (fun w h => sum_plus (j := 1)
      (fun w h => prod_of (fun w h => nameP_at ⟨#[120]⟩ _ _ rfl (strok1 _) (by kernel_rfl) (by omega) (by kernel_rfl) w h) (by omega) (by omega) (by omega) (by kernel_rfl) (by kernel_rfl) w h)
      (fun w h => prod_of (fun w h => fltP_at 4607182418800017408 _ _ rfl (by decide) (by omega) (by kernel_rfl) w h) (by omega) (by omega) (by omega) (by kernel_rfl) (by kernel_rfl) w h)
      (by decide) (by decide) (by kernel_rfl) (by kernel_rfl) (by kernel_rfl) w h) (by decide) (by omega) (by kernel_rfl) w h)
    (fun x hx => by obtain ⟨g, a, b, rfl, rfl, rfl⟩ := hx; kernel_rfl) w
theorem parse_tx2 (w : World) : Calls Tryz.prog 45 #[.string tx2] w fun e w' => ∃ x : Exp, e = .returned (.tuple #[x.agg, .int .i64 0, .int .i64 0]) ∧ Q2 x ∧ x.In w' ∧ x.Sep (fun b => w.heap.size ≤ b) ∧ Below w.heap.size w w' :=
  parse_ok tx2 tx2T tx2P Q2 (by decide) tx2_lexed (by decide) (fun w p tp tc h => expr_of_sum (fun w h => sum_plus (j := 2)
      (fun w h => prod_of (fun w h => prim_list (fun w h => list_nil (by omega) (by kernel_rfl) w h) (by omega) (by kernel_rfl) (by kernel_rfl) w h) (by omega) (by omega) (by omega) (by kernel_rfl) (by kernel_rfl) w h)
      (fun w h => prod_of (fun w h => prim_list (fun w h => list_one (j := 5) (fun w h => expr_of_sum (fun w h => sum_of (fun w h => numP_at 1 _ _ rfl (by unfold i64r; decide) (by omega) (by kernel_rfl) w h) (by omega) (by omega) (by omega) (by kernel_rfl) (by kernel_rfl) (by kernel_rfl) w h) (by decide) (by omega) (by kernel_rfl) w h) (by omega) (by omega) (by kernel_rfl) (by kernel_rfl) (by kernel_rfl) w h) (by omega) (by kernel_rfl) (by kernel_rfl) w h) (by omega) (by omega) (by omega) (by kernel_rfl) (by kernel_rfl) w h)
      (by decide) (by decide) (by kernel_rfl) (by kernel_rfl) (by kernel_rfl) w h) (by decide) (by omega) (by kernel_rfl) w h)
    (fun x hx => by obtain ⟨g, a, b, rfl, rfl, xa, y, rfl, rfl⟩ := hx; kernel_rfl) w
theorem parse_tx1 (w : World) : Calls Tryz.prog 45 #[.string tx1] w fun e w' => ∃ x : Exp, e = .returned (.tuple #[x.agg, .int .i64 0, .int .i64 0]) ∧ Q1 x ∧ x.In w' ∧ x.Sep (fun b => w.heap.size ≤ b) ∧ Below w.heap.size w w' :=
  parse_ok tx1 tx1T tx1P Q1 (by decide) tx1_lexed (by decide) (fun w p tp tc h => expr_pass (fun w h => or_pass (fun w h => and_pass (fun w h => cmp_less (j := 3)
      (fun w h => sum_plus (j := 1)
        (fun w h => prod_of (fun w h => nameP_at ⟨#[120]⟩ _ _ rfl (strok1 _) (by kernel_rfl) (by omega) (by kernel_rfl) w h) (by omega) (by omega) (by omega) (by kernel_rfl) (by kernel_rfl) w h)
        (fun w h => prod_of (fun w h => numP_at 1 _ _ rfl (by unfold i64r; decide) (by omega) (by kernel_rfl) w h) (by omega) (by omega) (by omega) (by kernel_rfl) (by kernel_rfl) w h)
        (by decide) (by decide) (by kernel_rfl) (by kernel_rfl) (by kernel_rfl) w h)
      (fun w h => sum_of (fun w h => numP_at 2 _ _ rfl (by unfold i64r; decide) (by omega) (by kernel_rfl) w h) (by omega) (by omega) (by omega) (by kernel_rfl) (by kernel_rfl) (by kernel_rfl) w h)
      (by decide) (by kernel_rfl) (by kernel_rfl) (by kernel_rfl) w h) (by decide) (by kernel_rfl) w h) (by decide) (by kernel_rfl) w h) (by decide) (by omega) (by kernel_rfl) w h)
    (fun x hx => by obtain ⟨g, a, b, rfl, ⟨g', a', b', rfl, rfl, rfl⟩, rfl⟩ := hx; kernel_rfl) w
end Go.Proofs.YtjpdbhhjlnmacaaGreat
