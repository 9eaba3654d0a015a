/- The document's lexer: the next token (printed by wip/gen_lex6.py). -/
import Derived.Test.YtjpdbhhjlnmacaaGreatTcM31
namespace Go.Proofs.YtjpdbhhjlnmacaaGreat
set_option linter.unusedVariables false
open Go.RowKit

/-- Blanks from a place up to another one. -/
structure BlankTo (s : ByteArray) (i a : Nat) : Prop where
  le : i ≤ a
  size : a ≤ s.size
  in_ : ∀ k, i ≤ k → k < a → blankB (byteAt s k) = true
  end_ : a = s.size ∨ blankB (byteAt s a) = false
def NextOut (t : Tok) (a : Int) (k : Int) (w : World) (e : Ending) (w' : World) : Prop := e = .returned (.tuple #[t.agg, .int .i64 a, .int .i64 k]) ∧ Below w.heap.size w w'
/-- Where it begins: room for the result. -/
theorem n0_start (w : World) : Below w.heap.size w (w.alloc (.cells #[.int .i64 0, .int .i64 0, .int .i64 0, .int .i64 0, .float .f64 0, .string ⟨#[]⟩] 118)) ∧ Blk (w.alloc (.cells #[.int .i64 0, .int .i64 0, .int .i64 0, .int .i64 0, .float .f64 0, .string ⟨#[]⟩] 118)) w.heap.size 118 #[.int .i64 0, .int .i64 0, .int .i64 0, .int .i64 0, .float .f64 0, .string ⟨#[]⟩] :=
  ⟨(Below.refl _ w).alloc (Nat.le_refl _) _, Blk.new w 118 _⟩

set_option maxHeartbeats 8000000 in
set_option maxRecDepth 100000 in
theorem next_num (s : ByteArray) (i a : Nat) (t : Tok) (w : World) (hs : s.size ≤ 2000) (h : BlankTo s i a) (ha : a < s.size) (hd : digitB (byteAt s a) = true)
    (hn : ∀ w, Calls Tryz.prog 106 #[.string s, .agg #[.int .i64 1, .int .i64 (a : Int), .int .i64 (a : Int), .int .i64 0, .float .f64 0, .string ⟨#[]⟩]] w fun e w' => TokOut t 0 w e w') :
    Calls Tryz.prog 90 #[.string s, .int .i64 (i : Int)] w fun e w' => NextOut t a 0 w e w' := by
  have HNB : Hid (blankB (byteAt s a) = false) := Lib.hid (by rcases h.end_ with h' | h'; omega; exact h')
  have HND := Lib.hid hd; have HN := Lib.hid hn
  clear hd hn
  obtain ⟨W, hW⟩ : ∃ W, W = w.alloc (.cells #[.int .i64 0, .int .i64 0, .int .i64 0, .int .i64 0, .float .f64 0, .string ⟨#[]⟩] 118) := ⟨_, rfl⟩
  obtain ⟨hBW, hbr⟩ := n0_start w
  rw [← hW] at hBW hbr
  obtain ⟨A, hA⟩ : ∃ A, A = w.heap.size := ⟨_, rfl⟩
  rw [← hA] at hbr
  have hWS : W.heap.size = A + 1 := by rw [hW, hA]; simp
  have hby := byteAt_eq s
  have HB := Lib.hid h
  have HBL := Lib.hid (fun (c : Nat) (b : Bool) (h : blankB c = b) (W : World) => by have := blank_any c W; rw [h] at this; exact this)
  have HL := Lib.hid (fun (c : Nat) (b : Bool) (h : letterB c = b) (W : World) => by have := letter_any c W; rw [h] at this; exact this)
  have HD := Lib.hid (fun (c : Nat) (b : Bool) (h : digitB c = b) (W : World) => by have := digit_any c W; rw [h] at this; exact this)
  have HW := Lib.hid hW; have HA := Lib.hid hA; have HBW := Lib.hid hBW; have BR := Lib.hid hbr; have HWS := Lib.hid hWS
  have hle := h.le; have hsz := h.size
  have hi0 : decide ((i : Int) < 0) = false := by simp
  have hi1 : decide ((s.size : Int) < (i : Int)) = false := by simp; omega
  have hi3 : ¬ (s.size < i) := by omega
  have hi4 : ¬ (2000 < s.size) := by omega
  have hi2 : decide ((2000 : Int) < (s.size : Int)) = false := by simp; omega
  have hsf := run_store_flt
  clear hW hA hBW hbr hWS h
  go_enter Tryz.func90, Tryz.ntmps90
  go_upto_region 1 with fail
  rw [← HW.out, ← HA.out]
  go_wp2_with fail
  go_loopw [1] (fun iv wr => ∃ k : Nat, iv = .int .i64 (k : Int) ∧ i ≤ k ∧ k ≤ a ∧ wr = W) (fun iv _ => a - (intOf iv).toNat)
  case atStart => exact ⟨i, rfl, Nat.le_refl _, hle, rfl⟩
  case round =>
    obtain ⟨k, rfl, hik, hka, rfl⟩ := hrel
    by_cases hlt : k < a
    · have h1 : decide ((k : Int) < (s.size : Int)) = true := by simp; omega
      have h2 : (k : Int) < (s.size : Int) := by omega
      have h3 : k < s.size := by omega
      have HDB := Lib.hid (HB.out.in_ k hik hlt)
      go_wp2_with fail
      refine (HBL.out _ _ HDB.out _).mono ?_
      rintro e w2 ⟨rfl, rfl⟩
      go_wp2_with fail
      go_roundw
      case rel => exact ⟨k + 1, by go_num, by omega, by omega, trivial⟩
      case measure => simp [intOf]; omega
    · obtain rfl : k = a := by omega
      have h1 : decide ((k : Int) < (s.size : Int)) = true := by simp; omega
      have h2 : (k : Int) < (s.size : Int) := by omega
      have h4 : ((k : Int) == (s.size : Int)) = false := by simp; omega
      have HDB := Lib.hid HNB.out
      go_wp2_with fail
      refine (HBL.out _ _ HDB.out _).mono ?_
      rintro e w2 ⟨rfl, rfl⟩
      obtain ⟨W1, hW1⟩ : ∃ W1, W1 = wr.alloc (.cells #[.int .i64 1, .int .i64 (k : Int), .int .i64 (k : Int), .int .i64 0, .float .f64 0, .string ⟨#[]⟩] 118) := ⟨_, rfl⟩
      have hb1 : Blk W1 (A + 1) 118 #[.int .i64 1, .int .i64 (k : Int), .int .i64 (k : Int), .int .i64 0, .float .f64 0, .string ⟨#[]⟩] := by rw [hW1, ← HWS.out]; exact Blk.new wr 118 _
      have hr1 : Blk W1 A 118 #[.int .i64 0, .int .i64 0, .int .i64 0, .int .i64 0, .float .f64 0, .string ⟨#[]⟩] := by rw [hW1]; exact BR.out.alloc _
      have hB1 : Below w.heap.size w W1 := by rw [hW1]; exact HBW.out.alloc (by rw [HWS.out, HA.out]; omega) _
      have HW1 := Lib.hid hW1; have BT1 := Lib.hid hb1; have BR1 := Lib.hid hr1; have HB1 := Lib.hid hB1
      have c0 := hb1.cell 0; have c1 := hb1.cell 1; have c2 := hb1.cell 2; have c3 := hb1.cell 3; have c4 := hb1.cell 4; have c5 := hb1.cell 5
      simp at c0 c1 c2 c3 c4 c5
      clear hW1 hb1 hr1 hB1
      go_upto_region 6 with fail
      rw [← HW1.out, HWS.out]
      go_wp2_with fail
      refine (HD.out _ _ HND.out _).mono ?_
      rintro e w3 ⟨rfl, rfl⟩
      go_wp2_with fail
      refine (HN.out _).mono ?_
      rintro e w3 ⟨rfl, hb3⟩
      have bt3 := BT1.out.below hb3 BT1.out.lt
      have br3 := BR1.out.below hb3 BR1.out.lt
      have hB3 : Below w.heap.size w w3 := HB1.out.trans (hb3.mono HB1.out.size)
      obtain ⟨W4, hW4⟩ : ∃ W4, W4 = (((((w3.setCell ⟨A + 1, 0, none⟩ (.int .i64 t.k)).setCell ⟨A + 1, 1, none⟩ (.int .i64 t.at_)).setCell ⟨A + 1, 2, none⟩ (.int .i64 t.nx)).setCell ⟨A + 1, 3, none⟩ (.int .i64 t.n)).setCell ⟨A + 1, 4, none⟩ (.float .f64 t.f)).setCell ⟨A + 1, 5, none⟩ (.string t.s) := ⟨_, rfl⟩
      have bt4 := blk6_set bt3 (.int .i64 t.k) (.int .i64 t.at_) (.int .i64 t.nx) (.int .i64 t.n) (.float .f64 t.f) (.string t.s)
      have hB4 := below6_set hB3 (g := A + 1) (by have := HA.out; omega) (.int .i64 t.k) (.int .i64 t.at_) (.int .i64 t.nx) (.int .i64 t.n) (.float .f64 t.f) (.string t.s)
      have br4 : Blk W4 A 118 #[.int .i64 0, .int .i64 0, .int .i64 0, .int .i64 0, .float .f64 0, .string ⟨#[]⟩] := by
        rw [hW4]
        exact (((((br3.far (p := ⟨A + 1, 0, none⟩) (by simp) _).far (p := ⟨A + 1, 1, none⟩) (by simp) _).far (p := ⟨A + 1, 2, none⟩) (by simp) _).far (p := ⟨A + 1, 3, none⟩) (by simp) _).far (p := ⟨A + 1, 4, none⟩) (by simp) _).far (p := ⟨A + 1, 5, none⟩) (by simp) _
      rw [← hW4] at bt4 hB4
      have bF := blk6_set br4 (.int .i64 t.k) (.int .i64 t.at_) (.int .i64 t.nx) (.int .i64 t.n) (.float .f64 t.f) (.string t.s)
      have hBF := below6_set hB4 (g := A) (by have := HA.out; omega) (.int .i64 t.k) (.int .i64 t.at_) (.int .i64 t.nx) (.int .i64 t.n) (.float .f64 t.f) (.string t.s)
      have BT3 := Lib.hid bt3; have HW4 := Lib.hid hW4; have BT4 := Lib.hid bt4; have BR4 := Lib.hid br4; have BF := Lib.hid bF; have HBF := Lib.hid hBF
      clear hb3 bt3 br3 hB3 hW4 bt4 hB4 br4 bF hBF c0 c1 c2 c3 c4 c5
      have c0 := BT3.out.cell 0; have c1 := BT3.out.cell 1; have c2 := BT3.out.cell 2; have c3 := BT3.out.cell 3; have c4 := BT3.out.cell 4; have c5 := BT3.out.cell 5
      have d0 := BT3.out.frozen 0; have d1 := BT3.out.frozen 1; have d2 := BT3.out.frozen 2; have d3 := BT3.out.frozen 3; have d4 := BT3.out.frozen 4; have d5 := BT3.out.frozen 5
      simp at c0 c1 c2 c3 c4 c5
      go_upto_region 17 with fail
      rw [← HW4.out]
      clear c0 c1 c2 c3 c4 c5 d0 d1 d2 d3 d4 d5
      have c0 := BT4.out.cell 0; have c1 := BT4.out.cell 1; have c2 := BT4.out.cell 2; have c3 := BT4.out.cell 3; have c4 := BT4.out.cell 4; have c5 := BT4.out.cell 5
      have r0 := BR4.out.cell 0; have r1 := BR4.out.cell 1; have r2 := BR4.out.cell 2; have r3 := BR4.out.cell 3; have r4 := BR4.out.cell 4; have r5 := BR4.out.cell 5
      have s0 := BR4.out.frozen 0; have s1 := BR4.out.frozen 1; have s2 := BR4.out.frozen 2; have s3 := BR4.out.frozen 3; have s4 := BR4.out.frozen 4; have s5 := BR4.out.frozen 5
      simp at c0 c1 c2 c3 c4 c5 r0 r1 r2 r3 r4 r5
      go_wp2_with fail
      have f0 := BF.out.cell 0; have f1 := BF.out.cell 1; have f2 := BF.out.cell 2; have f3 := BF.out.cell 3; have f4 := BF.out.cell 4; have f5 := BF.out.cell 5
      simp at f0 f1 f2 f3 f4 f5
      refine bodyPost_ret (v := .tuple #[t.agg, .int .i64 (k : Int), .int .i64 0]) (by simp [results, Tryz.results90, go_sem, f0, f1, f2, f3, f4, f5]) rfl ?_
      exact ⟨rfl, HBF.out⟩

set_option maxHeartbeats 8000000 in
set_option maxRecDepth 100000 in
theorem next_name (s : ByteArray) (i a : Nat) (t : Tok) (w : World) (hs : s.size ≤ 2000) (h : BlankTo s i a) (ha : a < s.size) (hd : digitB (byteAt s a) = false) (hl : letterB (byteAt s a) = true)
    (hn : ∀ w, Calls Tryz.prog 108 #[.string s, .agg #[.int .i64 1, .int .i64 (a : Int), .int .i64 (a : Int), .int .i64 0, .float .f64 0, .string ⟨#[]⟩]] w fun e w' => TokOut t 0 w e w') :
    Calls Tryz.prog 90 #[.string s, .int .i64 (i : Int)] w fun e w' => NextOut t a 0 w e w' := by
  have HNB : Hid (blankB (byteAt s a) = false) := Lib.hid (by rcases h.end_ with h' | h'; omega; exact h')
  have HND := Lib.hid hd; have HNL := Lib.hid hl; have HN := Lib.hid hn
  clear hd hn hl
  obtain ⟨W, hW⟩ : ∃ W, W = w.alloc (.cells #[.int .i64 0, .int .i64 0, .int .i64 0, .int .i64 0, .float .f64 0, .string ⟨#[]⟩] 118) := ⟨_, rfl⟩
  obtain ⟨hBW, hbr⟩ := n0_start w
  rw [← hW] at hBW hbr
  obtain ⟨A, hA⟩ : ∃ A, A = w.heap.size := ⟨_, rfl⟩
  rw [← hA] at hbr
  have hWS : W.heap.size = A + 1 := by rw [hW, hA]; simp
  have hby := byteAt_eq s
  have HB := Lib.hid h
  have HBL := Lib.hid (fun (c : Nat) (b : Bool) (h : blankB c = b) (W : World) => by have := blank_any c W; rw [h] at this; exact this)
  have HL := Lib.hid (fun (c : Nat) (b : Bool) (h : letterB c = b) (W : World) => by have := letter_any c W; rw [h] at this; exact this)
  have HD := Lib.hid (fun (c : Nat) (b : Bool) (h : digitB c = b) (W : World) => by have := digit_any c W; rw [h] at this; exact this)
  have HW := Lib.hid hW; have HA := Lib.hid hA; have HBW := Lib.hid hBW; have BR := Lib.hid hbr; have HWS := Lib.hid hWS
  have hle := h.le; have hsz := h.size
  have hi0 : decide ((i : Int) < 0) = false := by simp
  have hi1 : decide ((s.size : Int) < (i : Int)) = false := by simp; omega
  have hi3 : ¬ (s.size < i) := by omega
  have hi4 : ¬ (2000 < s.size) := by omega
  have hi2 : decide ((2000 : Int) < (s.size : Int)) = false := by simp; omega
  have hsf := run_store_flt
  clear hW hA hBW hbr hWS h
  go_enter Tryz.func90, Tryz.ntmps90
  go_upto_region 1 with fail
  rw [← HW.out, ← HA.out]
  go_wp2_with fail
  go_loopw [1] (fun iv wr => ∃ k : Nat, iv = .int .i64 (k : Int) ∧ i ≤ k ∧ k ≤ a ∧ wr = W) (fun iv _ => a - (intOf iv).toNat)
  case atStart => exact ⟨i, rfl, Nat.le_refl _, hle, rfl⟩
  case round =>
    obtain ⟨k, rfl, hik, hka, rfl⟩ := hrel
    by_cases hlt : k < a
    · have h1 : decide ((k : Int) < (s.size : Int)) = true := by simp; omega
      have h2 : (k : Int) < (s.size : Int) := by omega
      have h3 : k < s.size := by omega
      have HDB := Lib.hid (HB.out.in_ k hik hlt)
      go_wp2_with fail
      refine (HBL.out _ _ HDB.out _).mono ?_
      rintro e w2 ⟨rfl, rfl⟩
      go_wp2_with fail
      go_roundw
      case rel => exact ⟨k + 1, by go_num, by omega, by omega, trivial⟩
      case measure => simp [intOf]; omega
    · obtain rfl : k = a := by omega
      have h1 : decide ((k : Int) < (s.size : Int)) = true := by simp; omega
      have h2 : (k : Int) < (s.size : Int) := by omega
      have h4 : ((k : Int) == (s.size : Int)) = false := by simp; omega
      have HDB := Lib.hid HNB.out
      go_wp2_with fail
      refine (HBL.out _ _ HDB.out _).mono ?_
      rintro e w2 ⟨rfl, rfl⟩
      obtain ⟨W1, hW1⟩ : ∃ W1, W1 = wr.alloc (.cells #[.int .i64 1, .int .i64 (k : Int), .int .i64 (k : Int), .int .i64 0, .float .f64 0, .string ⟨#[]⟩] 118) := ⟨_, rfl⟩
      have hb1 : Blk W1 (A + 1) 118 #[.int .i64 1, .int .i64 (k : Int), .int .i64 (k : Int), .int .i64 0, .float .f64 0, .string ⟨#[]⟩] := by rw [hW1, ← HWS.out]; exact Blk.new wr 118 _
      have hr1 : Blk W1 A 118 #[.int .i64 0, .int .i64 0, .int .i64 0, .int .i64 0, .float .f64 0, .string ⟨#[]⟩] := by rw [hW1]; exact BR.out.alloc _
      have hB1 : Below w.heap.size w W1 := by rw [hW1]; exact HBW.out.alloc (by rw [HWS.out, HA.out]; omega) _
      have HW1 := Lib.hid hW1; have BT1 := Lib.hid hb1; have BR1 := Lib.hid hr1; have HB1 := Lib.hid hB1
      have c0 := hb1.cell 0; have c1 := hb1.cell 1; have c2 := hb1.cell 2; have c3 := hb1.cell 3; have c4 := hb1.cell 4; have c5 := hb1.cell 5
      simp at c0 c1 c2 c3 c4 c5
      clear hW1 hb1 hr1 hB1
      go_upto_region 6 with fail
      rw [← HW1.out, HWS.out]
      go_wp2_with fail
      refine (HD.out _ _ HND.out _).mono ?_
      rintro e w3 ⟨rfl, rfl⟩
      go_wp2_with fail
      refine (HL.out _ _ HNL.out _).mono ?_
      rintro e w3 ⟨rfl, rfl⟩
      go_wp2_with fail
      refine (HN.out _).mono ?_
      rintro e w3 ⟨rfl, hb3⟩
      have bt3 := BT1.out.below hb3 BT1.out.lt
      have br3 := BR1.out.below hb3 BR1.out.lt
      have hB3 : Below w.heap.size w w3 := HB1.out.trans (hb3.mono HB1.out.size)
      obtain ⟨W4, hW4⟩ : ∃ W4, W4 = (((((w3.setCell ⟨A + 1, 0, none⟩ (.int .i64 t.k)).setCell ⟨A + 1, 1, none⟩ (.int .i64 t.at_)).setCell ⟨A + 1, 2, none⟩ (.int .i64 t.nx)).setCell ⟨A + 1, 3, none⟩ (.int .i64 t.n)).setCell ⟨A + 1, 4, none⟩ (.float .f64 t.f)).setCell ⟨A + 1, 5, none⟩ (.string t.s) := ⟨_, rfl⟩
      have bt4 := blk6_set bt3 (.int .i64 t.k) (.int .i64 t.at_) (.int .i64 t.nx) (.int .i64 t.n) (.float .f64 t.f) (.string t.s)
      have hB4 := below6_set hB3 (g := A + 1) (by have := HA.out; omega) (.int .i64 t.k) (.int .i64 t.at_) (.int .i64 t.nx) (.int .i64 t.n) (.float .f64 t.f) (.string t.s)
      have br4 : Blk W4 A 118 #[.int .i64 0, .int .i64 0, .int .i64 0, .int .i64 0, .float .f64 0, .string ⟨#[]⟩] := by
        rw [hW4]
        exact (((((br3.far (p := ⟨A + 1, 0, none⟩) (by simp) _).far (p := ⟨A + 1, 1, none⟩) (by simp) _).far (p := ⟨A + 1, 2, none⟩) (by simp) _).far (p := ⟨A + 1, 3, none⟩) (by simp) _).far (p := ⟨A + 1, 4, none⟩) (by simp) _).far (p := ⟨A + 1, 5, none⟩) (by simp) _
      rw [← hW4] at bt4 hB4
      have bF := blk6_set br4 (.int .i64 t.k) (.int .i64 t.at_) (.int .i64 t.nx) (.int .i64 t.n) (.float .f64 t.f) (.string t.s)
      have hBF := below6_set hB4 (g := A) (by have := HA.out; omega) (.int .i64 t.k) (.int .i64 t.at_) (.int .i64 t.nx) (.int .i64 t.n) (.float .f64 t.f) (.string t.s)
      have BT3 := Lib.hid bt3; have HW4 := Lib.hid hW4; have BT4 := Lib.hid bt4; have BR4 := Lib.hid br4; have BF := Lib.hid bF; have HBF := Lib.hid hBF
      clear hb3 bt3 br3 hB3 hW4 bt4 hB4 br4 bF hBF c0 c1 c2 c3 c4 c5
      have c0 := BT3.out.cell 0; have c1 := BT3.out.cell 1; have c2 := BT3.out.cell 2; have c3 := BT3.out.cell 3; have c4 := BT3.out.cell 4; have c5 := BT3.out.cell 5
      have d0 := BT3.out.frozen 0; have d1 := BT3.out.frozen 1; have d2 := BT3.out.frozen 2; have d3 := BT3.out.frozen 3; have d4 := BT3.out.frozen 4; have d5 := BT3.out.frozen 5
      simp at c0 c1 c2 c3 c4 c5
      go_upto_region 17 with fail
      rw [← HW4.out]
      clear c0 c1 c2 c3 c4 c5 d0 d1 d2 d3 d4 d5
      have c0 := BT4.out.cell 0; have c1 := BT4.out.cell 1; have c2 := BT4.out.cell 2; have c3 := BT4.out.cell 3; have c4 := BT4.out.cell 4; have c5 := BT4.out.cell 5
      have r0 := BR4.out.cell 0; have r1 := BR4.out.cell 1; have r2 := BR4.out.cell 2; have r3 := BR4.out.cell 3; have r4 := BR4.out.cell 4; have r5 := BR4.out.cell 5
      have s0 := BR4.out.frozen 0; have s1 := BR4.out.frozen 1; have s2 := BR4.out.frozen 2; have s3 := BR4.out.frozen 3; have s4 := BR4.out.frozen 4; have s5 := BR4.out.frozen 5
      simp at c0 c1 c2 c3 c4 c5 r0 r1 r2 r3 r4 r5
      go_wp2_with fail
      have f0 := BF.out.cell 0; have f1 := BF.out.cell 1; have f2 := BF.out.cell 2; have f3 := BF.out.cell 3; have f4 := BF.out.cell 4; have f5 := BF.out.cell 5
      simp at f0 f1 f2 f3 f4 f5
      refine bodyPost_ret (v := .tuple #[t.agg, .int .i64 (k : Int), .int .i64 0]) (by simp [results, Tryz.results90, go_sem, f0, f1, f2, f3, f4, f5]) rfl ?_
      exact ⟨rfl, HBF.out⟩

set_option maxHeartbeats 8000000 in
set_option maxRecDepth 100000 in
theorem next_sign (s : ByteArray) (i a : Nat) (t : Tok) (w : World) (hs : s.size ≤ 2000) (h : BlankTo s i a) (ha : a < s.size) (hd : digitB (byteAt s a) = false) (hl : letterB (byteAt s a) = false) (hq : byteAt s a ≠ 34)
    (hn : ∀ w, Calls Tryz.prog 110 #[.string s, .agg #[.int .i64 1, .int .i64 (a : Int), .int .i64 (a : Int), .int .i64 0, .float .f64 0, .string ⟨#[]⟩]] w fun e w' => TokOut t 0 w e w') :
    Calls Tryz.prog 90 #[.string s, .int .i64 (i : Int)] w fun e w' => NextOut t a 0 w e w' := by
  have HNB : Hid (blankB (byteAt s a) = false) := Lib.hid (by rcases h.end_ with h' | h'; omega; exact h')
  have HND := Lib.hid hd; have HNL := Lib.hid hl; have HN := Lib.hid hn; have hq2 : ((byteAt s a : Int) == 34) = false := by simp; omega
  clear hd hn hl hq
  obtain ⟨W, hW⟩ : ∃ W, W = w.alloc (.cells #[.int .i64 0, .int .i64 0, .int .i64 0, .int .i64 0, .float .f64 0, .string ⟨#[]⟩] 118) := ⟨_, rfl⟩
  obtain ⟨hBW, hbr⟩ := n0_start w
  rw [← hW] at hBW hbr
  obtain ⟨A, hA⟩ : ∃ A, A = w.heap.size := ⟨_, rfl⟩
  rw [← hA] at hbr
  have hWS : W.heap.size = A + 1 := by rw [hW, hA]; simp
  have hby := byteAt_eq s
  have HB := Lib.hid h
  have HBL := Lib.hid (fun (c : Nat) (b : Bool) (h : blankB c = b) (W : World) => by have := blank_any c W; rw [h] at this; exact this)
  have HL := Lib.hid (fun (c : Nat) (b : Bool) (h : letterB c = b) (W : World) => by have := letter_any c W; rw [h] at this; exact this)
  have HD := Lib.hid (fun (c : Nat) (b : Bool) (h : digitB c = b) (W : World) => by have := digit_any c W; rw [h] at this; exact this)
  have HW := Lib.hid hW; have HA := Lib.hid hA; have HBW := Lib.hid hBW; have BR := Lib.hid hbr; have HWS := Lib.hid hWS
  have hle := h.le; have hsz := h.size
  have hi0 : decide ((i : Int) < 0) = false := by simp
  have hi1 : decide ((s.size : Int) < (i : Int)) = false := by simp; omega
  have hi3 : ¬ (s.size < i) := by omega
  have hi4 : ¬ (2000 < s.size) := by omega
  have hi2 : decide ((2000 : Int) < (s.size : Int)) = false := by simp; omega
  have hsf := run_store_flt
  clear hW hA hBW hbr hWS h
  go_enter Tryz.func90, Tryz.ntmps90
  go_upto_region 1 with fail
  rw [← HW.out, ← HA.out]
  go_wp2_with fail
  go_loopw [1] (fun iv wr => ∃ k : Nat, iv = .int .i64 (k : Int) ∧ i ≤ k ∧ k ≤ a ∧ wr = W) (fun iv _ => a - (intOf iv).toNat)
  case atStart => exact ⟨i, rfl, Nat.le_refl _, hle, rfl⟩
  case round =>
    obtain ⟨k, rfl, hik, hka, rfl⟩ := hrel
    by_cases hlt : k < a
    · have h1 : decide ((k : Int) < (s.size : Int)) = true := by simp; omega
      have h2 : (k : Int) < (s.size : Int) := by omega
      have h3 : k < s.size := by omega
      have HDB := Lib.hid (HB.out.in_ k hik hlt)
      go_wp2_with fail
      refine (HBL.out _ _ HDB.out _).mono ?_
      rintro e w2 ⟨rfl, rfl⟩
      go_wp2_with fail
      go_roundw
      case rel => exact ⟨k + 1, by go_num, by omega, by omega, trivial⟩
      case measure => simp [intOf]; omega
    · obtain rfl : k = a := by omega
      have h1 : decide ((k : Int) < (s.size : Int)) = true := by simp; omega
      have h2 : (k : Int) < (s.size : Int) := by omega
      have h4 : ((k : Int) == (s.size : Int)) = false := by simp; omega
      have HDB := Lib.hid HNB.out
      go_wp2_with fail
      refine (HBL.out _ _ HDB.out _).mono ?_
      rintro e w2 ⟨rfl, rfl⟩
      obtain ⟨W1, hW1⟩ : ∃ W1, W1 = wr.alloc (.cells #[.int .i64 1, .int .i64 (k : Int), .int .i64 (k : Int), .int .i64 0, .float .f64 0, .string ⟨#[]⟩] 118) := ⟨_, rfl⟩
      have hb1 : Blk W1 (A + 1) 118 #[.int .i64 1, .int .i64 (k : Int), .int .i64 (k : Int), .int .i64 0, .float .f64 0, .string ⟨#[]⟩] := by rw [hW1, ← HWS.out]; exact Blk.new wr 118 _
      have hr1 : Blk W1 A 118 #[.int .i64 0, .int .i64 0, .int .i64 0, .int .i64 0, .float .f64 0, .string ⟨#[]⟩] := by rw [hW1]; exact BR.out.alloc _
      have hB1 : Below w.heap.size w W1 := by rw [hW1]; exact HBW.out.alloc (by rw [HWS.out, HA.out]; omega) _
      have HW1 := Lib.hid hW1; have BT1 := Lib.hid hb1; have BR1 := Lib.hid hr1; have HB1 := Lib.hid hB1
      have c0 := hb1.cell 0; have c1 := hb1.cell 1; have c2 := hb1.cell 2; have c3 := hb1.cell 3; have c4 := hb1.cell 4; have c5 := hb1.cell 5
      simp at c0 c1 c2 c3 c4 c5
      clear hW1 hb1 hr1 hB1
      go_upto_region 6 with fail
      rw [← HW1.out, HWS.out]
      go_wp2_with fail
      refine (HD.out _ _ HND.out _).mono ?_
      rintro e w3 ⟨rfl, rfl⟩
      go_wp2_with fail
      refine (HL.out _ _ HNL.out _).mono ?_
      rintro e w3 ⟨rfl, rfl⟩
      go_wp2_with fail
      refine (HN.out _).mono ?_
      rintro e w3 ⟨rfl, hb3⟩
      have bt3 := BT1.out.below hb3 BT1.out.lt
      have br3 := BR1.out.below hb3 BR1.out.lt
      have hB3 : Below w.heap.size w w3 := HB1.out.trans (hb3.mono HB1.out.size)
      obtain ⟨W4, hW4⟩ : ∃ W4, W4 = (((((w3.setCell ⟨A + 1, 0, none⟩ (.int .i64 t.k)).setCell ⟨A + 1, 1, none⟩ (.int .i64 t.at_)).setCell ⟨A + 1, 2, none⟩ (.int .i64 t.nx)).setCell ⟨A + 1, 3, none⟩ (.int .i64 t.n)).setCell ⟨A + 1, 4, none⟩ (.float .f64 t.f)).setCell ⟨A + 1, 5, none⟩ (.string t.s) := ⟨_, rfl⟩
      have bt4 := blk6_set bt3 (.int .i64 t.k) (.int .i64 t.at_) (.int .i64 t.nx) (.int .i64 t.n) (.float .f64 t.f) (.string t.s)
      have hB4 := below6_set hB3 (g := A + 1) (by have := HA.out; omega) (.int .i64 t.k) (.int .i64 t.at_) (.int .i64 t.nx) (.int .i64 t.n) (.float .f64 t.f) (.string t.s)
      have br4 : Blk W4 A 118 #[.int .i64 0, .int .i64 0, .int .i64 0, .int .i64 0, .float .f64 0, .string ⟨#[]⟩] := by
        rw [hW4]
        exact (((((br3.far (p := ⟨A + 1, 0, none⟩) (by simp) _).far (p := ⟨A + 1, 1, none⟩) (by simp) _).far (p := ⟨A + 1, 2, none⟩) (by simp) _).far (p := ⟨A + 1, 3, none⟩) (by simp) _).far (p := ⟨A + 1, 4, none⟩) (by simp) _).far (p := ⟨A + 1, 5, none⟩) (by simp) _
      rw [← hW4] at bt4 hB4
      have bF := blk6_set br4 (.int .i64 t.k) (.int .i64 t.at_) (.int .i64 t.nx) (.int .i64 t.n) (.float .f64 t.f) (.string t.s)
      have hBF := below6_set hB4 (g := A) (by have := HA.out; omega) (.int .i64 t.k) (.int .i64 t.at_) (.int .i64 t.nx) (.int .i64 t.n) (.float .f64 t.f) (.string t.s)
      have BT3 := Lib.hid bt3; have HW4 := Lib.hid hW4; have BT4 := Lib.hid bt4; have BR4 := Lib.hid br4; have BF := Lib.hid bF; have HBF := Lib.hid hBF
      clear hb3 bt3 br3 hB3 hW4 bt4 hB4 br4 bF hBF c0 c1 c2 c3 c4 c5
      have c0 := BT3.out.cell 0; have c1 := BT3.out.cell 1; have c2 := BT3.out.cell 2; have c3 := BT3.out.cell 3; have c4 := BT3.out.cell 4; have c5 := BT3.out.cell 5
      have d0 := BT3.out.frozen 0; have d1 := BT3.out.frozen 1; have d2 := BT3.out.frozen 2; have d3 := BT3.out.frozen 3; have d4 := BT3.out.frozen 4; have d5 := BT3.out.frozen 5
      simp at c0 c1 c2 c3 c4 c5
      go_upto_region 17 with fail
      rw [← HW4.out]
      clear c0 c1 c2 c3 c4 c5 d0 d1 d2 d3 d4 d5
      have c0 := BT4.out.cell 0; have c1 := BT4.out.cell 1; have c2 := BT4.out.cell 2; have c3 := BT4.out.cell 3; have c4 := BT4.out.cell 4; have c5 := BT4.out.cell 5
      have r0 := BR4.out.cell 0; have r1 := BR4.out.cell 1; have r2 := BR4.out.cell 2; have r3 := BR4.out.cell 3; have r4 := BR4.out.cell 4; have r5 := BR4.out.cell 5
      have s0 := BR4.out.frozen 0; have s1 := BR4.out.frozen 1; have s2 := BR4.out.frozen 2; have s3 := BR4.out.frozen 3; have s4 := BR4.out.frozen 4; have s5 := BR4.out.frozen 5
      simp at c0 c1 c2 c3 c4 c5 r0 r1 r2 r3 r4 r5
      go_wp2_with fail
      have f0 := BF.out.cell 0; have f1 := BF.out.cell 1; have f2 := BF.out.cell 2; have f3 := BF.out.cell 3; have f4 := BF.out.cell 4; have f5 := BF.out.cell 5
      simp at f0 f1 f2 f3 f4 f5
      refine bodyPost_ret (v := .tuple #[t.agg, .int .i64 (k : Int), .int .i64 0]) (by simp [results, Tryz.results90, go_sem, f0, f1, f2, f3, f4, f5]) rfl ?_
      exact ⟨rfl, HBF.out⟩

set_option maxHeartbeats 8000000 in
set_option maxRecDepth 100000 in
theorem next_end (s : ByteArray) (i : Nat) (w : World) (hs : s.size ≤ 2000) (h : BlankTo s i s.size) :
    Calls Tryz.prog 90 #[.string s, .int .i64 (i : Int)] w fun e w' => NextOut (Tok.mk 1 s.size s.size 0 0 ⟨#[]⟩) s.size 0 w e w' := by
  obtain ⟨W, hW⟩ : ∃ W, W = w.alloc (.cells #[.int .i64 0, .int .i64 0, .int .i64 0, .int .i64 0, .float .f64 0, .string ⟨#[]⟩] 118) := ⟨_, rfl⟩
  obtain ⟨hBW, hbr⟩ := n0_start w
  rw [← hW] at hBW hbr
  obtain ⟨A, hA⟩ : ∃ A, A = w.heap.size := ⟨_, rfl⟩
  rw [← hA] at hbr
  have hWS : W.heap.size = A + 1 := by rw [hW, hA]; simp
  have hby := byteAt_eq s
  have HB := Lib.hid h
  have HBL := Lib.hid (fun (c : Nat) (b : Bool) (h : blankB c = b) (W : World) => by have := blank_any c W; rw [h] at this; exact this)
  have HL := Lib.hid (fun (c : Nat) (b : Bool) (h : letterB c = b) (W : World) => by have := letter_any c W; rw [h] at this; exact this)
  have HD := Lib.hid (fun (c : Nat) (b : Bool) (h : digitB c = b) (W : World) => by have := digit_any c W; rw [h] at this; exact this)
  have HW := Lib.hid hW; have HA := Lib.hid hA; have HBW := Lib.hid hBW; have BR := Lib.hid hbr; have HWS := Lib.hid hWS
  have hle := h.le; have hsz := h.size
  have hi0 : decide ((i : Int) < 0) = false := by simp
  have hi1 : decide ((s.size : Int) < (i : Int)) = false := by simp; omega
  have hi3 : ¬ (s.size < i) := by omega
  have hi4 : ¬ (2000 < s.size) := by omega
  have hi2 : decide ((2000 : Int) < (s.size : Int)) = false := by simp; omega
  have hsf := run_store_flt
  clear hW hA hBW hbr hWS h
  go_enter Tryz.func90, Tryz.ntmps90
  go_upto_region 1 with fail
  rw [← HW.out, ← HA.out]
  go_wp2_with fail
  go_loopw [1] (fun iv wr => ∃ k : Nat, iv = .int .i64 (k : Int) ∧ i ≤ k ∧ k ≤ s.size ∧ wr = W) (fun iv _ => s.size - (intOf iv).toNat)
  case atStart => exact ⟨i, rfl, Nat.le_refl _, hle, rfl⟩
  case round =>
    obtain ⟨k, rfl, hik, hka, rfl⟩ := hrel
    by_cases hlt : k < s.size
    · have h1 : decide ((k : Int) < (s.size : Int)) = true := by simp; omega
      have h2 : (k : Int) < (s.size : Int) := by omega
      have h3 : k < s.size := by omega
      have HDB := Lib.hid (HB.out.in_ k hik hlt)
      go_wp2_with fail
      refine (HBL.out _ _ HDB.out _).mono ?_
      rintro e w2 ⟨rfl, rfl⟩
      go_wp2_with fail
      go_roundw
      case rel => exact ⟨k + 1, by go_num, by omega, by omega, trivial⟩
      case measure => simp [intOf]; omega
    · obtain rfl : k = s.size := by omega
      have h1 : decide ((s.size : Int) < (s.size : Int)) = false := by simp
      clear hby
      go_upto_region 5 with fail
      obtain ⟨WF, hWF⟩ : ∃ WF, WF = (((((wr.alloc (.cells #[.int .i64 1, .int .i64 (s.size : Int), .int .i64 (s.size : Int), .int .i64 0, .float .f64 0, .string ⟨#[]⟩] 118)).setCell ⟨A, 0, none⟩ (.int .i64 1)).setCell ⟨A, 1, none⟩ (.int .i64 (s.size : Int))).setCell ⟨A, 2, none⟩ (.int .i64 (s.size : Int))).setCell ⟨A, 3, none⟩ (.int .i64 0)).setCell ⟨A, 4, none⟩ (.float .f64 0) := ⟨_, rfl⟩
      have hb1 : Blk (wr.alloc (.cells #[.int .i64 1, .int .i64 (s.size : Int), .int .i64 (s.size : Int), .int .i64 0, .float .f64 0, .string ⟨#[]⟩] 118)) (A + 1) 118 #[.int .i64 1, .int .i64 (s.size : Int), .int .i64 (s.size : Int), .int .i64 0, .float .f64 0, .string ⟨#[]⟩] := by rw [← HWS.out]; exact Blk.new wr 118 _
      have hr1 := BR.out.alloc (.cells #[.int .i64 1, .int .i64 (s.size : Int), .int .i64 (s.size : Int), .int .i64 0, .float .f64 0, .string ⟨#[]⟩] 118)
      have hB1 : Below w.heap.size w (wr.alloc (.cells #[.int .i64 1, .int .i64 (s.size : Int), .int .i64 (s.size : Int), .int .i64 0, .float .f64 0, .string ⟨#[]⟩] 118)) := HBW.out.alloc (by rw [HWS.out, HA.out]; omega) _
      obtain ⟨W1, hW1⟩ : ∃ W1, W1 = wr.alloc (.cells #[.int .i64 1, .int .i64 (s.size : Int), .int .i64 (s.size : Int), .int .i64 0, .float .f64 0, .string ⟨#[]⟩] 118) := ⟨_, rfl⟩
      rw [← hW1] at hb1 hr1 hB1
      have bF := blk6_set hr1 (.int .i64 1) (.int .i64 (s.size : Int)) (.int .i64 (s.size : Int)) (.int .i64 0) (.float .f64 0) (.string ⟨#[]⟩)
      have hBF := below6_set hB1 (g := A) (by have := HA.out; omega) (.int .i64 1) (.int .i64 (s.size : Int)) (.int .i64 (s.size : Int)) (.int .i64 0) (.float .f64 0) (.string ⟨#[]⟩)
      have c0 := hb1.cell 0; have c1 := hb1.cell 1; have c2 := hb1.cell 2; have c3 := hb1.cell 3; have c4 := hb1.cell 4; have c5 := hb1.cell 5
      have r0 := hr1.cell 0; have r1 := hr1.cell 1; have r2 := hr1.cell 2; have r3 := hr1.cell 3; have r4 := hr1.cell 4; have r5 := hr1.cell 5
      have s0 := hr1.frozen 0; have s1 := hr1.frozen 1; have s2 := hr1.frozen 2; have s3 := hr1.frozen 3; have s4 := hr1.frozen 4; have s5 := hr1.frozen 5
      simp at c0 c1 c2 c3 c4 c5 r0 r1 r2 r3 r4 r5
      have HW1 := Lib.hid hW1; have BF := Lib.hid bF; have HBF := Lib.hid hBF
      clear hW1 hb1 hr1 hB1 bF hBF hWF
      go_upto_region 6 with fail
      rw [← HW1.out, HWS.out]
      go_wp2_with fail
      have f0 := BF.out.cell 0; have f1 := BF.out.cell 1; have f2 := BF.out.cell 2; have f3 := BF.out.cell 3; have f4 := BF.out.cell 4; have f5 := BF.out.cell 5
      simp at f0 f1 f2 f3 f4 f5
      refine bodyPost_ret (v := .tuple #[.agg #[.int .i64 1, .int .i64 (s.size : Int), .int .i64 (s.size : Int), .int .i64 0, .float .f64 0, .string ⟨#[]⟩], .int .i64 (s.size : Int), .int .i64 0]) (by simp [results, Tryz.results90, go_sem, f0, f1, f2, f3, f4, f5]) rfl ?_
      exact ⟨rfl, HBF.out⟩
end Go.Proofs.YtjpdbhhjlnmacaaGreat
