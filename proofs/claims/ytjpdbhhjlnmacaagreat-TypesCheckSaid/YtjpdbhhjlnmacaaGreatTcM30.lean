/- The document's lexer: names of one letter, signs of one byte, numbers of one digit (printed by wip/gen_lex2.py). -/
import Derived.Test.YtjpdbhhjlnmacaaGreatTcM7
import Derived.Test.YtjpdbhhjlnmacaaGreatTcM23
namespace Go.Proofs.YtjpdbhhjlnmacaaGreat
set_option linter.unusedVariables false
open Go.RowKit

/-- A token. -/
structure Tok where
  k : Int
  at_ : Int
  nx : Int
  n : Int
  f : Nat
  s : ByteArray
def Tok.cells (t : Tok) : List Value := [.int .i64 t.k, .int .i64 t.at_, .int .i64 t.nx, .int .i64 t.n, .float .f64 t.f, .string t.s]
abbrev Tok.agg (t : Tok) : Value := .agg #[.int .i64 t.k, .int .i64 t.at_, .int .i64 t.nx, .int .i64 t.n, .float .f64 t.f, .string t.s]
/-- What a lexer's step answers. -/
def TokOut (t : Tok) (k : Int) (w : World) (e : Ending) (w' : World) : Prop := e = .returned (.tuple #[t.agg, .int .i64 k]) ∧ Below w.heap.size w w'
/-- Where it begins: the token by value, room for the result. -/
structure L0 (w W : World) (t : Tok) : Prop where
  below : Below w.heap.size w W
  bt : Blk W w.heap.size 118 #[.int .i64 t.k, .int .i64 t.at_, .int .i64 t.nx, .int .i64 t.n, .float .f64 t.f, .string t.s]
  br : Blk W (w.heap.size + 1) 118 #[.int .i64 0, .int .i64 0, .int .i64 0, .int .i64 0, .float .f64 0, .string ⟨#[]⟩]
theorem l0_start (w : World) (t : Tok) : L0 w ((w.alloc (.cells #[.int .i64 t.k, .int .i64 t.at_, .int .i64 t.nx, .int .i64 t.n, .float .f64 t.f, .string t.s] 118)).alloc (.cells #[.int .i64 0, .int .i64 0, .int .i64 0, .int .i64 0, .float .f64 0, .string ⟨#[]⟩] 118)) t := by
  refine ⟨((Below.refl _ w).alloc (Nat.le_refl _) _).alloc (by simp) _, (Blk.new w 118 _).alloc _, ?_⟩
  have := Blk.new (w.alloc (.cells #[.int .i64 t.k, .int .i64 t.at_, .int .i64 t.nx, .int .i64 t.n, .float .f64 t.f, .string t.s] 118)) 118 #[.int .i64 0, .int .i64 0, .int .i64 0, .int .i64 0, .float .f64 0, .string ⟨#[]⟩]
  rw [show (w.alloc (.cells #[.int .i64 t.k, .int .i64 t.at_, .int .i64 t.nx, .int .i64 t.n, .float .f64 t.f, .string t.s] 118)).heap.size = w.heap.size + 1 from by simp] at this
  exact this
theorem blk6_set {w : World} {g : Nat} {T : TypeId} {x0 x1 x2 x3 x4 x5 : Value} (hb : Blk w g T #[x0, x1, x2, x3, x4, x5]) (u0 u1 u2 u3 u4 u5 : Value) :
    Blk ((((((w.setCell ⟨g, 0, none⟩ u0).setCell ⟨g, 1, none⟩ u1).setCell ⟨g, 2, none⟩ u2).setCell ⟨g, 3, none⟩ u3).setCell ⟨g, 4, none⟩ u4).setCell ⟨g, 5, none⟩ u5) g T #[u0, u1, u2, u3, u4, u5] := (((((hb.set_ 0 u0).set_ 1 u1).set_ 2 u2).set_ 3 u3).set_ 4 u4).set_ 5 u5
theorem below6_set {B g : Nat} {w W : World} (h : Below B w W) (hg : B ≤ g) (u0 u1 u2 u3 u4 u5 : Value) : Below B w ((((((W.setCell ⟨g, 0, none⟩ u0).setCell ⟨g, 1, none⟩ u1).setCell ⟨g, 2, none⟩ u2).setCell ⟨g, 3, none⟩ u3).setCell ⟨g, 4, none⟩ u4).setCell ⟨g, 5, none⟩ u5) :=
  (((((h.setCell (p := ⟨g, 0, none⟩) hg u0).setCell (p := ⟨g, 1, none⟩) hg u1).setCell (p := ⟨g, 2, none⟩) hg u2).setCell (p := ⟨g, 3, none⟩) hg u3).setCell (p := ⟨g, 4, none⟩) hg u4).setCell (p := ⟨g, 5, none⟩) hg u5
theorem extract_len (s : ByteArray) (a b : Nat) (h : a ≤ b) (hb : b ≤ s.size) : (s.extract a b).toList.length = b - a := by
  rw [ByteArray.toList_eq, ByteArray.data_extract, Array.toList_extract, List.extract_eq_take_drop, List.length_take, List.length_drop]
  have : s.data.toList.length = s.size := Array.length_toList
  omega
theorem list_ne_len {l m : List UInt8} (h : l.length ≠ m.length) : (l == m) = false := by
  cases e : l == m with
  | false => rfl
  | true => exact absurd (congrArg List.length (by simpa using e)) h

set_option maxHeartbeats 8000000 in
set_option maxRecDepth 100000 in
theorem name_one (s : ByteArray) (a : Nat) (w : World) (hs : s.size ≤ 2000) (ha : a < s.size) (hl : letterB (byteAt s a) = true) (hn : a + 1 = s.size ∨ (a + 1 < s.size ∧ letterB (byteAt s (a + 1)) = false ∧ digitB (byteAt s (a + 1)) = false ∧ byteAt s (a + 1) ≠ 95)) :
    Calls Tryz.prog 108 #[.string s, .agg #[.int .i64 1, .int .i64 (a : Int), .int .i64 (a : Int), .int .i64 0, .float .f64 0, .string ⟨#[]⟩]] w fun e w' => TokOut (Tok.mk 5 a ((a : Int) + 1) 0 0 (s.extract a (a + 1))) 0 w e w' := by
  obtain ⟨W, hW⟩ : ∃ W, W = (w.alloc (.cells #[.int .i64 1, .int .i64 (a : Int), .int .i64 (a : Int), .int .i64 0, .float .f64 0, .string ⟨#[]⟩] 118)).alloc (.cells #[.int .i64 0, .int .i64 0, .int .i64 0, .int .i64 0, .float .f64 0, .string ⟨#[]⟩] 118) := ⟨_, rfl⟩
  have hj : L0 w W (Tok.mk 1 a a 0 0 ⟨#[]⟩) := by rw [hW]; exact l0_start w (Tok.mk 1 a a 0 0 ⟨#[]⟩)
  obtain ⟨A, hA⟩ : ∃ A, A = w.heap.size := ⟨_, rfl⟩
  have bt := hj.bt; have br := hj.br
  rw [← hA] at bt br
  have hby := byteAt_eq s
  have c0 := bt.cell 0; have c1 := bt.cell 1; have c2 := bt.cell 2; have c3 := bt.cell 3; have c4 := bt.cell 4; have c5 := bt.cell 5
  have d0 := bt.frozen 0; have d1 := bt.frozen 1; have d2 := bt.frozen 2; have d3 := bt.frozen 3; have d4 := bt.frozen 4; have d5 := bt.frozen 5
  have r0 := br.cell 0; have r1 := br.cell 1; have r2 := br.cell 2; have r3 := br.cell 3; have r4 := br.cell 4; have r5 := br.cell 5
  have s0 := br.frozen 0; have s1 := br.frozen 1; have s2 := br.frozen 2; have s3 := br.frozen 3; have s4 := br.frozen 4; have s5 := br.frozen 5
  simp at c0 c1 c2 c3 c4 c5 r0 r1 r2 r3 r4 r5
  have hsf := run_store_flt
  have HW := Lib.hid hW; have HA := Lib.hid hA; have HBW := Lib.hid hj.below; have BT := Lib.hid bt; have BR := Lib.hid br
  clear hW hj hA bt br
  have ha0 : (0 : Int) ≤ (a : Int) := by omega
  have HL := Lib.hid (fun (c : Nat) (b : Bool) (h : letterB c = b) (W : World) => by have := letter_any c W; rw [h] at this; exact this)
  have HD := Lib.hid (fun (c : Nat) (b : Bool) (h : digitB c = b) (W : World) => by have := digit_any c W; rw [h] at this; exact this)
  have HLA := Lib.hid hl; have HN := Lib.hid hn
  clear hl hn
  go_enter Tryz.func108, Tryz.ntmps108
  go_upto_region 1 with fail
  rw [← HW.out, ← HA.out]
  go_wp2_with fail
  go_loopw [6] (fun iv wr => ∃ k : Nat, iv = .int .i64 (k : Int) ∧ (k = a ∨ k = a + 1) ∧ wr = W) (fun iv _ => a + 1 - (intOf iv).toNat)
  case atStart => exact ⟨a, rfl, .inl rfl, rfl⟩
  case round =>
    obtain ⟨k, rfl, hk, rfl⟩ := hrel
    rcases hk with rfl | rfl
    · have h1 : decide ((k : Int) < (s.size : Int)) = true := by simp; omega
      have h2 : (k : Int) < (s.size : Int) := by omega
      go_wp2_with fail
      refine (HL.out _ _ HLA.out _).mono ?_
      rintro e w2 ⟨rfl, rfl⟩
      go_wp2_with fail
      go_roundw
      case rel => exact ⟨k + 1, by go_num, by omega, trivial⟩
      case measure => simp [intOf]
    · have hx1 : ((s.extract a (a + 1)).toList == [110, 97, 110]) = false := list_ne_len (by rw [extract_len s a (a + 1) (by omega) (by omega)]; simp)
      have hx2 : ((s.extract a (a + 1)).toList == [105, 110, 102]) = false := list_ne_len (by rw [extract_len s a (a + 1) (by omega) (by omega)]; simp)
      have hx3 : (s.extract a (a + 1)).size = 1 := by simp [ByteArray.size_extract]; omega
      have ha1 : (a : Int) + 1 ≤ (s.size : Int) := by omega
      have ha2 : (a : Int) ≤ (a : Int) + 1 := by omega
      rcases HN.out with hn | ⟨hn, hn1, hn2, hn3⟩
      · have h1 : decide (((a : Int) + 1) < (s.size : Int)) = false := by simp; omega
        have h2 : ¬ ((a : Int) + 1 < (s.size : Int)) := by omega
        clear hn
        obtain ⟨W1, hW1⟩ : ∃ W1, W1 = (((wr.setCell ⟨A, 2, none⟩ (.int .i64 ((a : Int) + 1))).setCell ⟨A, 0, none⟩ (.int .i64 5)).setCell ⟨A, 5, none⟩ (.string (s.extract a (a + 1)))) := ⟨_, rfl⟩
        have hb1 : Below w.heap.size w W1 := by rw [hW1]; exact (((HBW.out.setCell (p := ⟨A, 2, none⟩) (by show w.heap.size ≤ A; have := HA.out; omega) (.int .i64 ((a : Int) + 1))).setCell (p := ⟨A, 0, none⟩) (by show w.heap.size ≤ A; have := HA.out; omega) (.int .i64 5)).setCell (p := ⟨A, 5, none⟩) (by show w.heap.size ≤ A; have := HA.out; omega) (.string (s.extract a (a + 1))))
        have hk1 : Blk W1 (A + 1) 118 #[.int .i64 0, .int .i64 0, .int .i64 0, .int .i64 0, .float .f64 0, .string ⟨#[]⟩] := by rw [hW1]; exact (((BR.out.far (p := ⟨A, 2, none⟩) (by simp) (.int .i64 ((a : Int) + 1))).far (p := ⟨A, 0, none⟩) (by simp) (.int .i64 5)).far (p := ⟨A, 5, none⟩) (by simp) (.string (s.extract a (a + 1))))
        have hbF := below6_set hb1 (g := A + 1) (by have := HA.out; omega) (.int .i64 5) (.int .i64 (a : Int)) (.int .i64 ((a : Int) + 1)) (.int .i64 0) (.float .f64 0) (.string (s.extract a (a + 1)))
        have hkF := blk6_set hk1 (.int .i64 5) (.int .i64 (a : Int)) (.int .i64 ((a : Int) + 1)) (.int .i64 0) (.float .f64 0) (.string (s.extract a (a + 1)))
        obtain ⟨WF, hWF⟩ : ∃ WF, WF = (((((W1.setCell ⟨A + 1, 0, none⟩ (.int .i64 5)).setCell ⟨A + 1, 1, none⟩ (.int .i64 (a : Int))).setCell ⟨A + 1, 2, none⟩ (.int .i64 ((a : Int) + 1))).setCell ⟨A + 1, 3, none⟩ (.int .i64 0)).setCell ⟨A + 1, 4, none⟩ (.float .f64 0)).setCell ⟨A + 1, 5, none⟩ (.string (s.extract a (a + 1))) := ⟨_, rfl⟩
        rw [← hWF] at hbF hkF
        rw [hW1] at hWF
        have HWF := Lib.hid hWF; have HBF := Lib.hid hbF; have HKF := Lib.hid hkF
        clear hWF hbF hkF hW1 hb1 hk1
        go_wp2_with fail
        rw [← HWF.out]
        have f0 := HKF.out.cell 0; have f1 := HKF.out.cell 1; have f2 := HKF.out.cell 2; have f3 := HKF.out.cell 3; have f4 := HKF.out.cell 4; have f5 := HKF.out.cell 5
        simp at f0 f1 f2 f3 f4 f5
        refine bodyPost_ret (v := .tuple #[.agg #[.int .i64 5, .int .i64 (a : Int), .int .i64 ((a : Int) + 1), .int .i64 0, .float .f64 0, .string (s.extract a (a + 1))], .int .i64 0]) (by simp [results, Tryz.results108, go_sem, f0, f1, f2, f3, f4, f5]) rfl ?_
        exact ⟨rfl, HBF.out⟩
      · have h1 : decide (((a : Int) + 1) < (s.size : Int)) = true := by simp; omega
        have h2 : (a : Int) + 1 < (s.size : Int) := by omega
        have h3 : (0 : Int) ≤ (a : Int) + 1 := by omega
        have hq : ((byteAt s (a + 1) : Int) == 95) = false := by simp; omega
        have H1 := Lib.hid hn1; have H2 := Lib.hid hn2
        clear hn1 hn2 hn3
        go_wp2_with fail
        refine (HL.out _ _ H1.out _).mono ?_
        rintro e w2 ⟨rfl, rfl⟩
        go_wp2_with fail
        refine (HD.out _ _ H2.out _).mono ?_
        rintro e w2 ⟨rfl, rfl⟩
        obtain ⟨W1, hW1⟩ : ∃ W1, W1 = (((wr.setCell ⟨A, 2, none⟩ (.int .i64 ((a : Int) + 1))).setCell ⟨A, 0, none⟩ (.int .i64 5)).setCell ⟨A, 5, none⟩ (.string (s.extract a (a + 1)))) := ⟨_, rfl⟩
        have hb1 : Below w.heap.size w W1 := by rw [hW1]; exact (((HBW.out.setCell (p := ⟨A, 2, none⟩) (by show w.heap.size ≤ A; have := HA.out; omega) (.int .i64 ((a : Int) + 1))).setCell (p := ⟨A, 0, none⟩) (by show w.heap.size ≤ A; have := HA.out; omega) (.int .i64 5)).setCell (p := ⟨A, 5, none⟩) (by show w.heap.size ≤ A; have := HA.out; omega) (.string (s.extract a (a + 1))))
        have hk1 : Blk W1 (A + 1) 118 #[.int .i64 0, .int .i64 0, .int .i64 0, .int .i64 0, .float .f64 0, .string ⟨#[]⟩] := by rw [hW1]; exact (((BR.out.far (p := ⟨A, 2, none⟩) (by simp) (.int .i64 ((a : Int) + 1))).far (p := ⟨A, 0, none⟩) (by simp) (.int .i64 5)).far (p := ⟨A, 5, none⟩) (by simp) (.string (s.extract a (a + 1))))
        have hbF := below6_set hb1 (g := A + 1) (by have := HA.out; omega) (.int .i64 5) (.int .i64 (a : Int)) (.int .i64 ((a : Int) + 1)) (.int .i64 0) (.float .f64 0) (.string (s.extract a (a + 1)))
        have hkF := blk6_set hk1 (.int .i64 5) (.int .i64 (a : Int)) (.int .i64 ((a : Int) + 1)) (.int .i64 0) (.float .f64 0) (.string (s.extract a (a + 1)))
        obtain ⟨WF, hWF⟩ : ∃ WF, WF = (((((W1.setCell ⟨A + 1, 0, none⟩ (.int .i64 5)).setCell ⟨A + 1, 1, none⟩ (.int .i64 (a : Int))).setCell ⟨A + 1, 2, none⟩ (.int .i64 ((a : Int) + 1))).setCell ⟨A + 1, 3, none⟩ (.int .i64 0)).setCell ⟨A + 1, 4, none⟩ (.float .f64 0)).setCell ⟨A + 1, 5, none⟩ (.string (s.extract a (a + 1))) := ⟨_, rfl⟩
        rw [← hWF] at hbF hkF
        rw [hW1] at hWF
        have HWF := Lib.hid hWF; have HBF := Lib.hid hbF; have HKF := Lib.hid hkF
        clear hWF hbF hkF hW1 hb1 hk1
        go_wp2_with fail
        rw [← HWF.out]
        have f0 := HKF.out.cell 0; have f1 := HKF.out.cell 1; have f2 := HKF.out.cell 2; have f3 := HKF.out.cell 3; have f4 := HKF.out.cell 4; have f5 := HKF.out.cell 5
        simp at f0 f1 f2 f3 f4 f5
        refine bodyPost_ret (v := .tuple #[.agg #[.int .i64 5, .int .i64 (a : Int), .int .i64 ((a : Int) + 1), .int .i64 0, .float .f64 0, .string (s.extract a (a + 1))], .int .i64 0]) (by simp [results, Tryz.results108, go_sem, f0, f1, f2, f3, f4, f5]) rfl ?_
        exact ⟨rfl, HBF.out⟩

/-- The signs of one byte. -/
def allSigns : ByteArray := ⟨#[40, 41, 91, 93, 123, 125, 44, 58, 46, 63, 43, 45, 42, 47, 37, 33, 60]⟩
theorem extract_one (s : ByteArray) (a : Nat) (h : a < s.size) : (s.extract a (a + 1)).toList = [s[a]'h] := by
  rw [ByteArray.toList_eq, ByteArray.data_extract, Array.toList_extract, List.extract_eq_take_drop]
  have h2 : a < s.data.toList.length := by simpa using h
  rw [List.drop_eq_getElem_cons h2, show a + 1 - a = 1 by omega]
  simp
  rfl
theorem one_same (s t : ByteArray) (a b : Nat) (ha : a < s.size) (hb : b < t.size) (h : byteAt s a = byteAt t b) : ((s.extract a (a + 1)).toList == (t.extract b (b + 1)).toList) = true := by
  rw [← byteAt_eq s a ha, ← byteAt_eq t b hb] at h
  rw [extract_one s a ha, extract_one t b hb, UInt8.toNat_inj.1 h]
  simp
theorem one_not (s t : ByteArray) (a b : Nat) (ha : a < s.size) (hb : b < t.size) (h : byteAt s a ≠ byteAt t b) : ((s.extract a (a + 1)).toList == (t.extract b (b + 1)).toList) = false := by
  rw [← byteAt_eq s a ha, ← byteAt_eq t b hb] at h
  rw [extract_one s a ha, extract_one t b hb]
  have : s[a] ≠ t[b] := fun e => h (by rw [e])
  simpa using this

set_option maxHeartbeats 8000000 in
set_option maxRecDepth 100000 in
theorem sign_one (s : ByteArray) (a : Nat) (w : World) (hs : s.size ≤ 2000) (ha : a < s.size) (J : Nat) (hJ : J < 17) (hJe : byteAt allSigns J = byteAt s a) (hJn : ∀ i, i < J → byteAt allSigns i ≠ byteAt s a) (two : ByteArray) (htwo : (a + 2 ≤ s.size ∧ two = s.extract a (a + 2)) ∨ (a + 1 = s.size ∧ two = s.extract a (a + 1))) (n1 : (two.toList == [61, 61]) = false) (n2 : (two.toList == [60, 61]) = false) (n3 : (two.toList == [38, 38]) = false) (n4 : (two.toList == [124, 124]) = false) :
    Calls Tryz.prog 110 #[.string s, .agg #[.int .i64 1, .int .i64 (a : Int), .int .i64 (a : Int), .int .i64 0, .float .f64 0, .string ⟨#[]⟩]] w fun e w' => TokOut (Tok.mk 6 a ((a : Int) + 1) 0 0 (s.extract a (a + 1))) 0 w e w' := by
  obtain ⟨W, hW⟩ : ∃ W, W = (w.alloc (.cells #[.int .i64 1, .int .i64 (a : Int), .int .i64 (a : Int), .int .i64 0, .float .f64 0, .string ⟨#[]⟩] 118)).alloc (.cells #[.int .i64 0, .int .i64 0, .int .i64 0, .int .i64 0, .float .f64 0, .string ⟨#[]⟩] 118) := ⟨_, rfl⟩
  have hj : L0 w W (Tok.mk 1 a a 0 0 ⟨#[]⟩) := by rw [hW]; exact l0_start w (Tok.mk 1 a a 0 0 ⟨#[]⟩)
  obtain ⟨A, hA⟩ : ∃ A, A = w.heap.size := ⟨_, rfl⟩
  have bt := hj.bt; have br := hj.br
  rw [← hA] at bt br
  have hby := byteAt_eq s
  have c0 := bt.cell 0; have c1 := bt.cell 1; have c2 := bt.cell 2; have c3 := bt.cell 3; have c4 := bt.cell 4; have c5 := bt.cell 5
  have d0 := bt.frozen 0; have d1 := bt.frozen 1; have d2 := bt.frozen 2; have d3 := bt.frozen 3; have d4 := bt.frozen 4; have d5 := bt.frozen 5
  have r0 := br.cell 0; have r1 := br.cell 1; have r2 := br.cell 2; have r3 := br.cell 3; have r4 := br.cell 4; have r5 := br.cell 5
  have s0 := br.frozen 0; have s1 := br.frozen 1; have s2 := br.frozen 2; have s3 := br.frozen 3; have s4 := br.frozen 4; have s5 := br.frozen 5
  simp at c0 c1 c2 c3 c4 c5 r0 r1 r2 r3 r4 r5
  have hsf := run_store_flt
  have HW := Lib.hid hW; have HA := Lib.hid hA; have HBW := Lib.hid hj.below; have BT := Lib.hid bt; have BR := Lib.hid br
  clear hW hj hA bt br
  have ha0 : (0 : Int) ≤ (a : Int) := by omega
  have HJE := Lib.hid hJe; have HJN := Lib.hid hJn
  clear hJe hJn hby
  have q1 : (a : Int) ≤ (a : Int) + 1 := by omega
  have q2 : (a : Int) + 1 ≤ (s.size : Int) := by omega
  go_enter Tryz.func110, Tryz.ntmps110
  go_upto_region 1 with fail
  rw [← HW.out, ← HA.out]
  obtain ⟨W6, hW6⟩ : ∃ W6, W6 = W.setCell ⟨A, 0, none⟩ (.int .i64 6) := ⟨_, rfl⟩
  have bt6 : Blk W6 A 118 #[.int .i64 6, .int .i64 (a : Int), .int .i64 (a : Int), .int .i64 0, .float .f64 0, .string ⟨#[]⟩] := by rw [hW6]; exact BT.out.set_ 0 _
  have br6 : Blk W6 (A + 1) 118 #[.int .i64 0, .int .i64 0, .int .i64 0, .int .i64 0, .float .f64 0, .string ⟨#[]⟩] := by rw [hW6]; exact BR.out.far (p := ⟨A, 0, none⟩) (by simp) _
  have hb6 : Below w.heap.size w W6 := by rw [hW6]; exact HBW.out.setCell (p := ⟨A, 0, none⟩) (by show w.heap.size ≤ A; have := HA.out; omega) _
  have HW6 := Lib.hid hW6; have BT6 := Lib.hid bt6; have BR6 := Lib.hid br6; have HB6 := Lib.hid hb6
  clear hW6 bt6 br6 hb6
  have hge : (W6.heap.size) = W6.heap.size := rfl
  clear hge
  have TAIL : Hid (∀ i, i < J → ((allSigns.extract i (i + 1)).toList == (s.extract a (a + 1)).toList) = false) := Lib.hid (fun i hi => one_not _ _ _ _ (by show i < 17; omega) ha (HJN.out i hi))
  have TAIL2 : Hid (((allSigns.extract J (J + 1)).toList == (s.extract a (a + 1)).toList) = true) := Lib.hid (one_same _ _ _ _ hJ ha HJE.out)
  have hcases : Hid ((a + 2 ≤ s.size ∧ two = s.extract a (a + 2)) ∨ (a + 1 = s.size ∧ two = s.extract a s.size)) := Lib.hid (by
    rcases htwo with h | ⟨h, h'⟩
    · exact .inl h
    · exact .inr ⟨h, by rw [h', h]⟩)
  clear htwo
  rcases hcases.out with ⟨h2, rfl⟩ | ⟨h2, rfl⟩
  case' inl =>
    have q3 : (a : Int) + 2 ≤ (s.size : Int) := by omega
    have q4 : (a : Int) ≤ (a : Int) + 2 := by omega
  case' inr =>
    have q3 : ¬ ((a : Int) + 2 ≤ (s.size : Int)) := by omega
    have q4 : (a : Int) ≤ (s.size : Int) := by omega
    have q5 : min ((a : Int) + 2) (s.size : Int) = (s.size : Int) := by omega
    clear h2
  all_goals
    go_upto_region 8 with fail
    rw [← HW6.out]
    clear c0 c1 c2 c3 c4 c5 d0 d1 d2 d3 d4 d5 r0 r1 r2 r3 r4 r5 s0 s1 s2 s3 s4 s5
    go_wp2_with fail
    go_loopw [9] (fun iv wr => ∃ i : Nat, iv = .int .i64 (i : Int) ∧ i ≤ J ∧ wr = W6) (fun iv _ => J - (intOf iv).toNat)
    case atStart => exact ⟨0, rfl, by omega, rfl⟩
    case round =>
      obtain ⟨i, rfl, hi, rfl⟩ := hrel
      have i0 : (0 : Int) ≤ (i : Int) := by omega
      have i1 : (i : Int) ≤ (i : Int) + 1 := by omega
      have i2 : (i : Int) + 1 ≤ 17 := by omega
      have i3 : (i : Int) < 17 := by omega
      by_cases hlt : i < J
      · have hcmp : ((ByteArray.extract ⟨#[40, 41, 91, 93, 123, 125, 44, 58, 46, 63, 43, 45, 42, 47, 37, 33, 60]⟩ i (i + 1)).toList == (s.extract a (a + 1)).toList) = false := TAIL.out i hlt
        go_wp2_with fail
        go_roundw
        case rel => exact ⟨i + 1, by go_num, by omega, trivial⟩
        case measure => simp [intOf]; omega
      · obtain rfl : i = J := by omega
        have hcmp : ((ByteArray.extract ⟨#[40, 41, 91, 93, 123, 125, 44, 58, 46, 63, 43, 45, 42, 47, 37, 33, 60]⟩ i (i + 1)).toList == (s.extract a (a + 1)).toList) = true := TAIL2.out
        have c0 := BT6.out.cell 0; have c1 := BT6.out.cell 1; have c2 := BT6.out.cell 2; have c3 := BT6.out.cell 3; have c4 := BT6.out.cell 4; have c5 := BT6.out.cell 5
        have d0 := BT6.out.frozen 0; have d1 := BT6.out.frozen 1; have d2 := BT6.out.frozen 2; have d3 := BT6.out.frozen 3; have d4 := BT6.out.frozen 4; have d5 := BT6.out.frozen 5
        have r0 := BR6.out.cell 0; have r1 := BR6.out.cell 1; have r2 := BR6.out.cell 2; have r3 := BR6.out.cell 3; have r4 := BR6.out.cell 4; have r5 := BR6.out.cell 5
        have s0 := BR6.out.frozen 0; have s1 := BR6.out.frozen 1; have s2 := BR6.out.frozen 2; have s3 := BR6.out.frozen 3; have s4 := BR6.out.frozen 4; have s5 := BR6.out.frozen 5
        simp at c0 c1 c2 c3 c4 c5 r0 r1 r2 r3 r4 r5
        obtain ⟨W1, hW1⟩ : ∃ W1, W1 = ((wr.setCell ⟨A, 5, none⟩ (.string (s.extract a (a + 1)))).setCell ⟨A, 2, none⟩ (.int .i64 ((a : Int) + 1))) := ⟨_, rfl⟩
        have hb1 : Below w.heap.size w W1 := by rw [hW1]; exact ((HB6.out.setCell (p := ⟨A, 5, none⟩) (by show w.heap.size ≤ A; have := HA.out; omega) (.string (s.extract a (a + 1)))).setCell (p := ⟨A, 2, none⟩) (by show w.heap.size ≤ A; have := HA.out; omega) (.int .i64 ((a : Int) + 1)))
        have hk1 : Blk W1 (A + 1) 118 #[.int .i64 0, .int .i64 0, .int .i64 0, .int .i64 0, .float .f64 0, .string ⟨#[]⟩] := by rw [hW1]; exact ((BR6.out.far (p := ⟨A, 5, none⟩) (by simp) (.string (s.extract a (a + 1)))).far (p := ⟨A, 2, none⟩) (by simp) (.int .i64 ((a : Int) + 1)))
        have hbF := below6_set hb1 (g := A + 1) (by have := HA.out; omega) (.int .i64 6) (.int .i64 (a : Int)) (.int .i64 ((a : Int) + 1)) (.int .i64 0) (.float .f64 0) (.string (s.extract a (a + 1)))
        have hkF := blk6_set hk1 (.int .i64 6) (.int .i64 (a : Int)) (.int .i64 ((a : Int) + 1)) (.int .i64 0) (.float .f64 0) (.string (s.extract a (a + 1)))
        obtain ⟨WF, hWF⟩ : ∃ WF, WF = (((((W1.setCell ⟨A + 1, 0, none⟩ (.int .i64 6)).setCell ⟨A + 1, 1, none⟩ (.int .i64 (a : Int))).setCell ⟨A + 1, 2, none⟩ (.int .i64 ((a : Int) + 1))).setCell ⟨A + 1, 3, none⟩ (.int .i64 0)).setCell ⟨A + 1, 4, none⟩ (.float .f64 0)).setCell ⟨A + 1, 5, none⟩ (.string (s.extract a (a + 1))) := ⟨_, rfl⟩
        rw [← hWF] at hbF hkF
        rw [hW1] at hWF
        have HWF := Lib.hid hWF; have HBF := Lib.hid hbF; have HKF := Lib.hid hkF
        clear hWF hbF hkF hW1 hb1 hk1
        go_wp2_with fail
        rw [← HWF.out]
        have f0 := HKF.out.cell 0; have f1 := HKF.out.cell 1; have f2 := HKF.out.cell 2; have f3 := HKF.out.cell 3; have f4 := HKF.out.cell 4; have f5 := HKF.out.cell 5
        simp at f0 f1 f2 f3 f4 f5
        refine bodyPost_ret (v := .tuple #[.agg #[.int .i64 6, .int .i64 (a : Int), .int .i64 ((a : Int) + 1), .int .i64 0, .float .f64 0, .string (s.extract a (a + 1))], .int .i64 0]) (by simp [results, Tryz.results110, go_sem, f0, f1, f2, f3, f4, f5]) rfl ?_
        exact ⟨rfl, HBF.out⟩
end Go.Proofs.YtjpdbhhjlnmacaaGreat
