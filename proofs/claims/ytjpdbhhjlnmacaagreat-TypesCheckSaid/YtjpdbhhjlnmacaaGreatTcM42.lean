/- The document's parser: names, numbers (printed by wip/gen_par8.py). -/
import Derived.Test.YtjpdbhhjlnmacaaGreatTcM41
import Derived.BigQuiet
namespace Go.Proofs.YtjpdbhhjlnmacaaGreat
set_option linter.unusedVariables false
open Go.RowKit

section
variable {p : Nat} {tp : Option Addr} {tc : Nat} {ts : List Tok} {en i j l d : Nat} {Q P : Exp → Prop}
/-- An expression without kids. -/
abbrev leafX (k : Int) (s : ByteArray) (vk vn : Int) (vf : Nat) (vs : ByteArray) : Exp := .mk k s (.mk vk vn vf vs .no [] .no []) .no [] .no []
theorem leafx_in {k : Int} {s : ByteArray} {vk vn : Int} {vf : Nat} {vs : ByteArray} (w : World) (hk : i64r k) (hs : strok s) (hvk : i64r vk) (hvn : i64r vn) (hvf : vf < 18446744073709551616) (hvs : strok vs) : (leafX k s vk vn vf vs).In w := by
  rw [Exp.in_iff]
  refine ⟨⟨hk, hs, by show 0 ≤ _; omega, by show 0 ≤ _; omega, fun s h => by simp [Exp.ns] at h⟩, ?_, rfl, rfl, fun x hx => by simp [Exp.xs] at hx⟩
  rw [Val.in_iff]
  exact ⟨⟨hvk, hvn, hvf, hvs, by show 0 ≤ _; omega, by show 0 ≤ _; omega, fun s h => by simp [Exp.v, Val.ns] at h⟩, rfl, rfl, fun x hx => by simp [Exp.v, Val.xs] at hx⟩
theorem leafx_sep {k : Int} {s : ByteArray} {vk vn : Int} {vf : Nat} {vs : ByteArray} (S : Nat → Prop) : (leafX k s vk vn vf vs).Sep S := by
  rw [Exp.sep_iff]
  refine ⟨?_, trivial, trivial, fun x hx => by simp [Exp.xs] at hx⟩
  rw [Val.sep_iff]
  exact ⟨trivial, trivial, fun x hx => by simp [Exp.v, Val.xs] at hx⟩
theorem px_leaf {w W WF : World} {A : Nat} {k : Int} {s : ByteArray} {vk vn : Int} {vf : Nat} {vs : ByteArray} {R : Exp → Prop} (hA : A = w.heap.size) (hp : p < A) (htk : ∀ g o m, tp = some ⟨g, o, m⟩ → ts.length = 0 ∨ g < A) (hps : PS W p tp tc ts en j d) (ho : Only w W p) (bA : Blk W A 29 zero10)
    (hk : i64r k) (hs : strok s) (hvk : i64r vk) (hvn : i64r vn) (hvf : vf < 18446744073709551616) (hvs : strok vs) (hR : R (leafX k s vk vn vf vs)) (hWF : WF = ((((((((((W.setCell ⟨A, 0, none⟩ (.int .i64 k)).setCell ⟨A, 1, none⟩ (.string s)).setCell ⟨A, 2, none⟩ (.int .i64 vk)).setCell ⟨A, 3, none⟩ (.int .i64 vn)).setCell ⟨A, 4, none⟩ (.float .f64 vf)).setCell ⟨A, 5, none⟩ (.string vs)).setCell ⟨A, 6, none⟩ (.slice none 0 0)).setCell ⟨A, 7, none⟩ (.slice none 0 0)).setCell ⟨A, 8, none⟩ (.slice none 0 0)).setCell ⟨A, 9, none⟩ (.slice none 0 0))) :
    Blk WF A 29 #[.int .i64 k, .string s, .int .i64 vk, .int .i64 vn, .float .f64 vf, .string vs, .slice none 0 0, .slice none 0 0, .slice none 0 0, .slice none 0 0] ∧ PX R p tp tc ts en j d w (.returned (.agg #[.int .i64 k, .string s, .int .i64 vk, .int .i64 vn, .float .f64 vf, .string vs, .slice none 0 0, .slice none 0 0, .slice none 0 0, .slice none 0 0])) WF := by
  have hoF : Only W WF A := by
    rw [hWF]
    exact ((((((((((Only.refl W A).set_ (p := ⟨A, 0, none⟩) (.inl rfl) _).set_ (p := ⟨A, 1, none⟩) (.inl rfl) _).set_ (p := ⟨A, 2, none⟩) (.inl rfl) _).set_ (p := ⟨A, 3, none⟩) (.inl rfl) _).set_ (p := ⟨A, 4, none⟩) (.inl rfl) _).set_ (p := ⟨A, 5, none⟩) (.inl rfl) _).set_ (p := ⟨A, 6, none⟩) (.inl rfl) _).set_ (p := ⟨A, 7, none⟩) (.inl rfl) _).set_ (p := ⟨A, 8, none⟩) (.inl rfl) _).set_ (p := ⟨A, 9, none⟩) (.inl rfl) _
  have hb : Blk WF A 29 #[.int .i64 k, .string s, .int .i64 vk, .int .i64 vn, .float .f64 vf, .string vs, .slice none 0 0, .slice none 0 0, .slice none 0 0, .slice none 0 0] := by rw [hWF]; exact blk10_set bA (.int .i64 k) (.string s) (.int .i64 vk) (.int .i64 vn) (.float .f64 vf) (.string vs) (.slice none 0 0) (.slice none 0 0) (.slice none 0 0) (.slice none 0 0)
  have how : Only w WF p := by rw [hWF]; exact only10_set ho (by omega) (.int .i64 k) (.string s) (.int .i64 vk) (.int .i64 vn) (.float .f64 vf) (.string vs) (.slice none 0 0) (.slice none 0 0) (.slice none 0 0) (.slice none 0 0)
  refine ⟨hb, _, rfl, hR, leafx_in _ hk hs hvk hvn hvf hvs, leafx_sep _, ?_, how⟩
  refine hps.keep2 (hps.blk.grown hoF (by simp; omega)) hoF.size (fun g hg hl => ?_)
  have hgA := htk g 0 none hg
  exact hoF.block g (by have := bA.lt; omega) (by simp; omega)

set_option maxHeartbeats 4000000 in
set_option maxRecDepth 100000 in
theorem con_leaf (vk vn : Int) (vf : Nat) (vs : ByteArray) (w : World) : Calls Tryz.prog 142 #[.agg #[.int .i64 vk, .int .i64 vn, .float .f64 vf, .string vs, .slice none 0 0, .slice none 0 0]] w fun e w' => e = .returned (.agg #[.int .i64 1, .string ⟨#[]⟩, .int .i64 vk, .int .i64 vn, .float .f64 vf, .string vs, .slice none 0 0, .slice none 0 0, .slice none 0 0, .slice none 0 0]) ∧ Below w.heap.size w w' := by
  obtain ⟨W, hW⟩ : ∃ W, W = (w.alloc (.cells #[.int .i64 vk, .int .i64 vn, .float .f64 vf, .string vs, .slice none 0 0, .slice none 0 0] 26)).alloc (.cells zero10 29) := ⟨_, rfl⟩
  obtain ⟨A, hA⟩ : ∃ A, A = w.heap.size := ⟨_, rfl⟩
  have hb : Below w.heap.size w W := by rw [hW]; exact ((Below.refl _ w).alloc (Nat.le_refl _) _).alloc (by simp) _
  have bv : Blk W A 26 #[.int .i64 vk, .int .i64 vn, .float .f64 vf, .string vs, .slice none 0 0, .slice none 0 0] := by rw [hW, hA]; exact (Blk.new w 26 _).alloc _
  have br : Blk W (A + 1) 29 zero10 := by
    have := Blk.new (w.alloc (.cells #[.int .i64 vk, .int .i64 vn, .float .f64 vf, .string vs, .slice none 0 0, .slice none 0 0] 26)) 29 zero10
    rw [show (w.alloc (.cells #[.int .i64 vk, .int .i64 vn, .float .f64 vf, .string vs, .slice none 0 0, .slice none 0 0] 26)).heap.size = w.heap.size + 1 from by simp, ← hA, ← hW] at this
    exact this
  obtain ⟨WF, hWF⟩ : ∃ WF, WF = ((((((((((W.setCell ⟨A + 1, 0, none⟩ (.int .i64 1)).setCell ⟨A + 1, 1, none⟩ (.string ⟨#[]⟩)).setCell ⟨A + 1, 2, none⟩ (.int .i64 vk)).setCell ⟨A + 1, 3, none⟩ (.int .i64 vn)).setCell ⟨A + 1, 4, none⟩ (.float .f64 vf)).setCell ⟨A + 1, 5, none⟩ (.string vs)).setCell ⟨A + 1, 6, none⟩ (.slice none 0 0)).setCell ⟨A + 1, 7, none⟩ (.slice none 0 0)).setCell ⟨A + 1, 8, none⟩ (.slice none 0 0)).setCell ⟨A + 1, 9, none⟩ (.slice none 0 0)) := ⟨_, rfl⟩
  have hbF : Below w.heap.size w WF := by rw [hWF]; exact below10_set hb (by omega) (.int .i64 1) (.string ⟨#[]⟩) (.int .i64 vk) (.int .i64 vn) (.float .f64 vf) (.string vs) (.slice none 0 0) (.slice none 0 0) (.slice none 0 0) (.slice none 0 0)
  have hF : Blk WF (A + 1) 29 #[.int .i64 1, .string ⟨#[]⟩, .int .i64 vk, .int .i64 vn, .float .f64 vf, .string vs, .slice none 0 0, .slice none 0 0, .slice none 0 0, .slice none 0 0] := by rw [hWF]; exact blk10_set br (.int .i64 1) (.string ⟨#[]⟩) (.int .i64 vk) (.int .i64 vn) (.float .f64 vf) (.string vs) (.slice none 0 0) (.slice none 0 0) (.slice none 0 0) (.slice none 0 0)
  have c0 := bv.cell 0; have c1 := bv.cell 1; have c2 := bv.cell 2; have c3 := bv.cell 3; have c4 := bv.cell 4; have c5 := bv.cell 5
  have r0 := br.cell 0; have r1 := br.cell 1; have r2 := br.cell 2; have r3 := br.cell 3; have r4 := br.cell 4; have r5 := br.cell 5; have r6 := br.cell 6; have r7 := br.cell 7; have r8 := br.cell 8; have r9 := br.cell 9
  have s0 := br.frozen 0; have s1 := br.frozen 1; have s2 := br.frozen 2; have s3 := br.frozen 3; have s4 := br.frozen 4; have s5 := br.frozen 5; have s6 := br.frozen 6; have s7 := br.frozen 7; have s8 := br.frozen 8; have s9 := br.frozen 9
  simp at c0 c1 c2 c3 c4 c5 r0 r1 r2 r3 r4 r5 r6 r7 r8 r9
  have hsf := run_store_flt
  have HW := Lib.hid hW; have HA := Lib.hid hA; have HBF := Lib.hid hbF; have HF := Lib.hid hF; have HWF := Lib.hid hWF
  clear hW hA hb bv br hWF hbF hF
  go_enter Tryz.func142, Tryz.ntmps142
  go_upto_region 1 with fail
  unfold zero10 at HW
  rw [← HW.out, ← HA.out]
  go_wp2_with fail
  rw [← HWF.out]
  have f0 := HF.out.cell 0; have f1 := HF.out.cell 1; have f2 := HF.out.cell 2; have f3 := HF.out.cell 3; have f4 := HF.out.cell 4; have f5 := HF.out.cell 5; have f6 := HF.out.cell 6; have f7 := HF.out.cell 7; have f8 := HF.out.cell 8; have f9 := HF.out.cell 9
  simp at f0 f1 f2 f3 f4 f5 f6 f7 f8 f9
  refine bodyPost_ret (v := .agg #[.int .i64 1, .string ⟨#[]⟩, .int .i64 vk, .int .i64 vn, .float .f64 vf, .string vs, .slice none 0 0, .slice none 0 0, .slice none 0 0, .slice none 0 0]) (by simp [results, Tryz.results142, go_sem, f0, f1, f2, f3, f4, f5, f6, f7, f8, f9]) rfl ?_
  exact ⟨rfl, HBF.out⟩

set_option maxHeartbeats 8000000 in
set_option maxRecDepth 100000 in
theorem prim_name (t : Tok) (ht : ts[i]? = some t) (hk : t.k = 5) (hs : strok t.s) (m1 : (t.s.toList == [116, 114, 117, 101]) = false) (m2 : (t.s.toList == [102, 97, 108, 115, 101]) = false) (m3 : (t.s.toList == [108, 101, 110]) = false) (m4 : (t.s.toList == [102, 108, 111, 97, 116]) = false) (m5 : (t.s.toList == [105, 110, 116]) = false) (m6 : (t.s.toList == [115, 116, 114]) = false) (hi : i < 9223372036854775807)
    (n0 : tokIs ts i ⟨#[40]⟩ = false) (n1 : tokIs ts i ⟨#[91]⟩ = false) (n2 : tokIs ts i ⟨#[123]⟩ = false) (w : World) (h : PS w p tp tc ts en i d) :
    Calls Tryz.prog 138 #[.pointer (some ⟨p, 0, none⟩)] w fun e w' => PX (fun x => x = leafX 2 t.s 0 0 0 ⟨#[]⟩) p tp tc ts en (i + 1) d w e w' := by
  obtain ⟨W, hW⟩ : ∃ W, W = w.alloc (.cells zero10 29) := ⟨_, rfl⟩
  have hps := px_ps h
  rw [← hW] at hps
  obtain ⟨A, hA⟩ : ∃ A, A = w.heap.size := ⟨_, rfl⟩
  have hoW : Only w W p := by rw [hW]; exact Only.of_below ((Below.refl _ w).alloc (Nat.le_refl _) _) p
  have hbA : Blk W A 29 zero10 := by rw [hW, hA]; exact Blk.new w 29 zero10
  have hpA : p < A := by rw [hA]; exact h.blk.lt
  have H0 := Lib.hid h; have HW := Lib.hid hW; have HA := Lib.hid hA; have HPS := Lib.hid hps; have HOW := Lib.hid hoW; have HBA := Lib.hid hbA; have HT := Lib.hid ht
  have HT0 := Lib.hid (fun (W : World) (h : PS W p tp tc ts en i d) => take_not ⟨#[40]⟩ hi n0 W h)
  have HT1 := Lib.hid (fun (W : World) (h : PS W p tp tc ts en i d) => take_not ⟨#[91]⟩ hi n1 W h)
  have HT2 := Lib.hid (fun (W : World) (h : PS W p tp tc ts en i d) => take_not ⟨#[123]⟩ hi n2 W h)
  have hsf := run_store_flt
  have c3 := hps.blk.cell 3
  simp at c3
  clear h hW hA hps n0 n1 n2 hoW hbA ht
  go_enter Tryz.func138, Tryz.ntmps138
  go_upto_region 1 with fail
  unfold zero10 at HW
  rw [← HW.out, ← HA.out]
  go_wp2_with fail
  refine (HT0.out _ HPS.out).mono ?_
  rintro e wt0 ⟨rfl, hpt, hot⟩
  have HPS0 := Lib.hid hpt
  have HO0 := Lib.hid (HOW.out.trans hot)
  have HB0 := Lib.hid (HBA.out.grown hot (by simp; omega))
  clear hpt hot
  go_wp2_with fail
  refine (HT1.out _ HPS0.out).mono ?_
  rintro e wt1 ⟨rfl, hpt, hot⟩
  have HPS1 := Lib.hid hpt
  have HO1 := Lib.hid (HO0.out.trans hot)
  have HB1 := Lib.hid (HB0.out.grown hot (by simp; omega))
  clear hpt hot
  go_wp2_with fail
  refine (HT2.out _ HPS1.out).mono ?_
  rintro e wt2 ⟨rfl, hpt, hot⟩
  have HPS2 := Lib.hid hpt
  have HO2 := Lib.hid (HO1.out.trans hot)
  have HB2 := Lib.hid (HB1.out.grown hot (by simp; omega))
  clear hpt hot
  have hlt : i < ts.length := by
    rcases Nat.lt_or_ge i ts.length with h | h
    · exact h
    · have := HT.out; rw [List.getElem?_eq_none (by omega)] at this; cases this
  obtain ⟨g, a, b, c⟩ := HPS2.out.toks.at_ i hlt
  have hti : ts[i] = t := by have := HT.out; rw [List.getElem?_eq_getElem hlt] at this; injection this
  rw [hti] at c
  have t0 := c 0 (by omega); have t1 := c 1 (by omega); have t2 := c 2 (by omega); have t3 := c 3 (by omega); have t4 := c 4 (by omega); have t5 := c 5 (by omega)
  simp only [Tok.cells, List.getElem?_cons_zero, List.getElem?_cons_succ, Nat.add_zero] at t0 t1 t2 t3 t4 t5
  have g0 : decide ((ts.length : Int) ≤ (i : Int)) = false := by simp; omega
  have g1 : decide ((i : Int) < (ts.length : Int)) = true := by simp; omega
  have g2 : (i : Int) < (ts.length : Int) := by omega
  have g3 : (0 : Int) ≤ (i : Int) := by omega
  have g4 : (t.k == 6) = false := by rw [hk]; rfl
  have HK := Lib.hid hk
  have hcap := HPS2.out.toks.cap
  have d0 := HPS2.out.blk.cell 0; have d1 := HPS2.out.blk.cell 1; have e1 := HPS2.out.blk.frozen 1
  simp at d0 d1
  rw [a] at d0
  clear c hti hk
  have g5 : decide (ts.length ≤ i) = false := by simp; omega
  have g6 : ¬ (ts.length ≤ i) := by omega
  go_wp2_with fail
  go_quiet (fail)
  obtain ⟨W3, hW3⟩ : ∃ W3, W3 = wt2.drewN nq := ⟨_, rfl⟩
  rw [← hW3]
  have hps3 : PS W3 p tp tc ts en i d := by rw [hW3]; exact HPS2.out.drewN nq
  have ho3 : Only w W3 p := by rw [hW3]; exact HO2.out.drewN nq
  have hb3 : Blk W3 A 29 zero10 := by rw [hW3]; exact HB2.out.drewN nq
  rw [← hW3] at *
  have HPS3 := Lib.hid hps3; have HO3 := Lib.hid ho3; have HB3 := Lib.hid hb3
  clear hps3 ho3 hb3
  clear t0 t1 t2 t3 t4 t5 d0 d1 e1 b hW3
  obtain ⟨g', a', b, c⟩ := HPS3.out.toks.at_ i hlt
  obtain rfl : g = g' := by rw [a] at a'; injection a' with a'; injection a'
  have hti : ts[i] = t := by have := HT.out; rw [List.getElem?_eq_getElem hlt] at this; injection this
  rw [hti] at c
  have t0 := c 0 (by omega); have t1 := c 1 (by omega); have t2 := c 2 (by omega); have t3 := c 3 (by omega); have t4 := c 4 (by omega); have t5 := c 5 (by omega)
  simp only [Tok.cells, List.getElem?_cons_zero, List.getElem?_cons_succ, Nat.add_zero] at t0 t1 t2 t3 t4 t5
  have d0 := HPS3.out.blk.cell 0; have d1 := HPS3.out.blk.cell 1; have e1 := HPS3.out.blk.frozen 1
  simp at d0 d1
  rw [a] at d0
  clear c hti a'
  obtain ⟨W4, hW4⟩ : ∃ W4, W4 = (W3.alloc (.cells #[.int .i64 t.k, .int .i64 t.at_, .int .i64 t.nx, .int .i64 t.n, .float .f64 t.f, .string t.s] 118)).drew := ⟨_, rfl⟩
  obtain ⟨T, hTT⟩ : ∃ T, T = W3.heap.size := ⟨_, rfl⟩
  have hb34 : Below W3.heap.size W3 W4 := by rw [hW4]; exact ((Below.refl _ W3).alloc (Nat.le_refl _) _).drew
  have bt4 : Blk W4 T 118 #[.int .i64 t.k, .int .i64 t.at_, .int .i64 t.nx, .int .i64 t.n, .float .f64 t.f, .string t.s] := by rw [hW4, hTT]; exact (Blk.new W3 118 _).drew
  have hps4 : PS W4 p tp tc ts en i d := HPS3.out.below hb34
  have hpT : p < T := by rw [hTT]; exact HPS3.out.blk.lt
  obtain ⟨W5, hW5⟩ : ∃ W5, W5 = W4.setCell ⟨p, 1, none⟩ (.int .i64 ((i : Int) + 1)) := ⟨_, rfl⟩
  have hps5 : PS W5 p tp tc ts en (i + 1) d := by rw [hW5]; exact hps4.keep (hps4.blk.set_ 1 (.int .i64 ((i + 1 : Nat) : Int))) ((Only.refl W4 p).set_ (p := ⟨p, 1, none⟩) (.inl rfl) _)
  have ho5 : Only w W5 p := by rw [hW5]; exact (HO3.out.trans (Only.of_below hb34 p)).set_ (p := ⟨p, 1, none⟩) (.inl rfl) _
  have hb5 : Blk W5 A 29 zero10 := by rw [hW5]; exact (HB3.out.below hb34 HB3.out.lt).far (p := ⟨p, 1, none⟩) (by simp; omega) _
  have bt5 : Blk W5 T 118 #[.int .i64 t.k, .int .i64 t.at_, .int .i64 t.nx, .int .i64 t.n, .float .f64 t.f, .string t.s] := by rw [hW5]; exact bt4.far (p := ⟨p, 1, none⟩) (by simp; omega) _
  have f1 := hps4.blk.cell 1; have f1f := hps4.blk.frozen 1
  simp at f1
  have HW4 := Lib.hid hW4; have HTT := Lib.hid hTT; have HW5 := Lib.hid hW5; have HPS5 := Lib.hid hps5; have HO5 := Lib.hid ho5; have HB5 := Lib.hid hb5; have BT5 := Lib.hid bt5
  clear hW4 hTT hb34 bt4 hps4 hW5 hps5 ho5 hb5 bt5
  have hpl : p < W3.heap.size := HPS3.out.blk.lt
  go_upto_region 14 with fail
  go_region
  all_goals
    rw [← HW4.out, ← HTT.out]
    clear t0 t1 t2 t3 t4 t5 d0 d1 e1 a b hpl
    go_upto_region 16 with fail
    rw [← HW5.out]
    have t0 := BT5.out.cell 0; have t3 := BT5.out.cell 3; have t4 := BT5.out.cell 4; have t5 := BT5.out.cell 5
    simp at t0 t3 t4 t5
    have r0 := HB5.out.cell 0; have r1 := HB5.out.cell 1; have r2 := HB5.out.cell 2; have r3 := HB5.out.cell 3; have r4 := HB5.out.cell 4; have r5 := HB5.out.cell 5; have r6 := HB5.out.cell 6; have r7 := HB5.out.cell 7; have r8 := HB5.out.cell 8; have r9 := HB5.out.cell 9
    have s0 := HB5.out.frozen 0; have s1 := HB5.out.frozen 1; have s2 := HB5.out.frozen 2; have s3 := HB5.out.frozen 3; have s4 := HB5.out.frozen 4; have s5 := HB5.out.frozen 5; have s6 := HB5.out.frozen 6; have s7 := HB5.out.frozen 7; have s8 := HB5.out.frozen 8; have s9 := HB5.out.frozen 9
    simp at r0 r1 r2 r3 r4 r5 r6 r7 r8 r9
    have q2 : (t.k == 2) = false := by rw [HK.out]; rfl
    have q3 : (t.k == 3) = false := by rw [HK.out]; rfl
    have q4 : (t.k == 4) = false := by rw [HK.out]; rfl
    obtain ⟨WF, hWF⟩ : ∃ WF, WF = ((((((((((W5.setCell ⟨A, 0, none⟩ (.int .i64 2)).setCell ⟨A, 1, none⟩ (.string t.s)).setCell ⟨A, 2, none⟩ (.int .i64 0)).setCell ⟨A, 3, none⟩ (.int .i64 0)).setCell ⟨A, 4, none⟩ (.float .f64 0)).setCell ⟨A, 5, none⟩ (.string ⟨#[]⟩)).setCell ⟨A, 6, none⟩ (.slice none 0 0)).setCell ⟨A, 7, none⟩ (.slice none 0 0)).setCell ⟨A, 8, none⟩ (.slice none 0 0)).setCell ⟨A, 9, none⟩ (.slice none 0 0)) := ⟨_, rfl⟩
    have hfin := px_leaf (R := fun x => x = leafX 2 t.s 0 0 0 ⟨#[]⟩) HA.out hpA (fun g o m e => by rw [HA.out]; exact H0.out.toks_lt g o m e) HPS5.out HO5.out HB5.out (by unfold i64r; decide) hs (by unfold i64r; decide) (by unfold i64r; decide) (by decide) (by show (⟨#[]⟩ : ByteArray).size ≤ _; decide) rfl hWF
    have HFIN := Lib.hid hfin; have HWF := Lib.hid hWF
    clear hfin hWF
    go_wp2_with fail
    rw [← HWF.out]
    have f0 := HFIN.out.1.cell 0; have f1 := HFIN.out.1.cell 1; have f2 := HFIN.out.1.cell 2; have f3 := HFIN.out.1.cell 3; have f4 := HFIN.out.1.cell 4; have f5 := HFIN.out.1.cell 5; have f6 := HFIN.out.1.cell 6; have f7 := HFIN.out.1.cell 7; have f8 := HFIN.out.1.cell 8; have f9 := HFIN.out.1.cell 9
    simp at f0 f1 f2 f3 f4 f5 f6 f7 f8 f9
    refine bodyPost_ret (v := .agg #[.int .i64 2, .string t.s, .int .i64 0, .int .i64 0, .float .f64 0, .string ⟨#[]⟩, .slice none 0 0, .slice none 0 0, .slice none 0 0, .slice none 0 0]) (by simp [results, Tryz.results138, go_sem, f0, f1, f2, f3, f4, f5, f6, f7, f8, f9]) rfl ?_
    exact HFIN.out.2

set_option maxHeartbeats 8000000 in
set_option maxRecDepth 100000 in
theorem prim_num (t : Tok) (ht : ts[i]? = some t) (hk : t.k = 2) (hn : i64r t.n) (hi : i < 9223372036854775807)
    (n0 : tokIs ts i ⟨#[40]⟩ = false) (n1 : tokIs ts i ⟨#[91]⟩ = false) (n2 : tokIs ts i ⟨#[123]⟩ = false) (w : World) (h : PS w p tp tc ts en i d) :
    Calls Tryz.prog 138 #[.pointer (some ⟨p, 0, none⟩)] w fun e w' => PX (fun x => x = leafX 1 ⟨#[]⟩ 2 t.n 0 ⟨#[]⟩) p tp tc ts en (i + 1) d w e w' := by
  obtain ⟨W, hW⟩ : ∃ W, W = w.alloc (.cells zero10 29) := ⟨_, rfl⟩
  have hps := px_ps h
  rw [← hW] at hps
  obtain ⟨A, hA⟩ : ∃ A, A = w.heap.size := ⟨_, rfl⟩
  have hoW : Only w W p := by rw [hW]; exact Only.of_below ((Below.refl _ w).alloc (Nat.le_refl _) _) p
  have hbA : Blk W A 29 zero10 := by rw [hW, hA]; exact Blk.new w 29 zero10
  have hpA : p < A := by rw [hA]; exact h.blk.lt
  have H0 := Lib.hid h; have HW := Lib.hid hW; have HA := Lib.hid hA; have HPS := Lib.hid hps; have HOW := Lib.hid hoW; have HBA := Lib.hid hbA; have HT := Lib.hid ht
  have HT0 := Lib.hid (fun (W : World) (h : PS W p tp tc ts en i d) => take_not ⟨#[40]⟩ hi n0 W h)
  have HT1 := Lib.hid (fun (W : World) (h : PS W p tp tc ts en i d) => take_not ⟨#[91]⟩ hi n1 W h)
  have HT2 := Lib.hid (fun (W : World) (h : PS W p tp tc ts en i d) => take_not ⟨#[123]⟩ hi n2 W h)
  have hsf := run_store_flt
  have c3 := hps.blk.cell 3
  simp at c3
  clear h hW hA hps n0 n1 n2 hoW hbA ht
  go_enter Tryz.func138, Tryz.ntmps138
  go_upto_region 1 with fail
  unfold zero10 at HW
  rw [← HW.out, ← HA.out]
  go_wp2_with fail
  refine (HT0.out _ HPS.out).mono ?_
  rintro e wt0 ⟨rfl, hpt, hot⟩
  have HPS0 := Lib.hid hpt
  have HO0 := Lib.hid (HOW.out.trans hot)
  have HB0 := Lib.hid (HBA.out.grown hot (by simp; omega))
  clear hpt hot
  go_wp2_with fail
  refine (HT1.out _ HPS0.out).mono ?_
  rintro e wt1 ⟨rfl, hpt, hot⟩
  have HPS1 := Lib.hid hpt
  have HO1 := Lib.hid (HO0.out.trans hot)
  have HB1 := Lib.hid (HB0.out.grown hot (by simp; omega))
  clear hpt hot
  go_wp2_with fail
  refine (HT2.out _ HPS1.out).mono ?_
  rintro e wt2 ⟨rfl, hpt, hot⟩
  have HPS2 := Lib.hid hpt
  have HO2 := Lib.hid (HO1.out.trans hot)
  have HB2 := Lib.hid (HB1.out.grown hot (by simp; omega))
  clear hpt hot
  have hlt : i < ts.length := by
    rcases Nat.lt_or_ge i ts.length with h | h
    · exact h
    · have := HT.out; rw [List.getElem?_eq_none (by omega)] at this; cases this
  obtain ⟨g, a, b, c⟩ := HPS2.out.toks.at_ i hlt
  have hti : ts[i] = t := by have := HT.out; rw [List.getElem?_eq_getElem hlt] at this; injection this
  rw [hti] at c
  have t0 := c 0 (by omega); have t1 := c 1 (by omega); have t2 := c 2 (by omega); have t3 := c 3 (by omega); have t4 := c 4 (by omega); have t5 := c 5 (by omega)
  simp only [Tok.cells, List.getElem?_cons_zero, List.getElem?_cons_succ, Nat.add_zero] at t0 t1 t2 t3 t4 t5
  have g0 : decide ((ts.length : Int) ≤ (i : Int)) = false := by simp; omega
  have g1 : decide ((i : Int) < (ts.length : Int)) = true := by simp; omega
  have g2 : (i : Int) < (ts.length : Int) := by omega
  have g3 : (0 : Int) ≤ (i : Int) := by omega
  have g4 : (t.k == 6) = false := by rw [hk]; rfl
  have HK := Lib.hid hk
  have hcap := HPS2.out.toks.cap
  have d0 := HPS2.out.blk.cell 0; have d1 := HPS2.out.blk.cell 1; have e1 := HPS2.out.blk.frozen 1
  simp at d0 d1
  rw [a] at d0
  clear c hti hk
  have g5 : decide (ts.length ≤ i) = false := by simp; omega
  have g6 : ¬ (ts.length ≤ i) := by omega
  go_wp2_with fail
  go_quiet (fail)
  obtain ⟨W3, hW3⟩ : ∃ W3, W3 = wt2.drewN nq := ⟨_, rfl⟩
  rw [← hW3]
  have hps3 : PS W3 p tp tc ts en i d := by rw [hW3]; exact HPS2.out.drewN nq
  have ho3 : Only w W3 p := by rw [hW3]; exact HO2.out.drewN nq
  have hb3 : Blk W3 A 29 zero10 := by rw [hW3]; exact HB2.out.drewN nq
  rw [← hW3] at *
  have HPS3 := Lib.hid hps3; have HO3 := Lib.hid ho3; have HB3 := Lib.hid hb3
  clear hps3 ho3 hb3
  clear t0 t1 t2 t3 t4 t5 d0 d1 e1 b hW3
  obtain ⟨g', a', b, c⟩ := HPS3.out.toks.at_ i hlt
  obtain rfl : g = g' := by rw [a] at a'; injection a' with a'; injection a'
  have hti : ts[i] = t := by have := HT.out; rw [List.getElem?_eq_getElem hlt] at this; injection this
  rw [hti] at c
  have t0 := c 0 (by omega); have t1 := c 1 (by omega); have t2 := c 2 (by omega); have t3 := c 3 (by omega); have t4 := c 4 (by omega); have t5 := c 5 (by omega)
  simp only [Tok.cells, List.getElem?_cons_zero, List.getElem?_cons_succ, Nat.add_zero] at t0 t1 t2 t3 t4 t5
  have d0 := HPS3.out.blk.cell 0; have d1 := HPS3.out.blk.cell 1; have e1 := HPS3.out.blk.frozen 1
  simp at d0 d1
  rw [a] at d0
  clear c hti a'
  obtain ⟨W4, hW4⟩ : ∃ W4, W4 = (W3.alloc (.cells #[.int .i64 t.k, .int .i64 t.at_, .int .i64 t.nx, .int .i64 t.n, .float .f64 t.f, .string t.s] 118)).drew := ⟨_, rfl⟩
  obtain ⟨T, hTT⟩ : ∃ T, T = W3.heap.size := ⟨_, rfl⟩
  have hb34 : Below W3.heap.size W3 W4 := by rw [hW4]; exact ((Below.refl _ W3).alloc (Nat.le_refl _) _).drew
  have bt4 : Blk W4 T 118 #[.int .i64 t.k, .int .i64 t.at_, .int .i64 t.nx, .int .i64 t.n, .float .f64 t.f, .string t.s] := by rw [hW4, hTT]; exact (Blk.new W3 118 _).drew
  have hps4 : PS W4 p tp tc ts en i d := HPS3.out.below hb34
  have hpT : p < T := by rw [hTT]; exact HPS3.out.blk.lt
  obtain ⟨W5, hW5⟩ : ∃ W5, W5 = W4.setCell ⟨p, 1, none⟩ (.int .i64 ((i : Int) + 1)) := ⟨_, rfl⟩
  have hps5 : PS W5 p tp tc ts en (i + 1) d := by rw [hW5]; exact hps4.keep (hps4.blk.set_ 1 (.int .i64 ((i + 1 : Nat) : Int))) ((Only.refl W4 p).set_ (p := ⟨p, 1, none⟩) (.inl rfl) _)
  have ho5 : Only w W5 p := by rw [hW5]; exact (HO3.out.trans (Only.of_below hb34 p)).set_ (p := ⟨p, 1, none⟩) (.inl rfl) _
  have hb5 : Blk W5 A 29 zero10 := by rw [hW5]; exact (HB3.out.below hb34 HB3.out.lt).far (p := ⟨p, 1, none⟩) (by simp; omega) _
  have bt5 : Blk W5 T 118 #[.int .i64 t.k, .int .i64 t.at_, .int .i64 t.nx, .int .i64 t.n, .float .f64 t.f, .string t.s] := by rw [hW5]; exact bt4.far (p := ⟨p, 1, none⟩) (by simp; omega) _
  have f1 := hps4.blk.cell 1; have f1f := hps4.blk.frozen 1
  simp at f1
  have HW4 := Lib.hid hW4; have HTT := Lib.hid hTT; have HW5 := Lib.hid hW5; have HPS5 := Lib.hid hps5; have HO5 := Lib.hid ho5; have HB5 := Lib.hid hb5; have BT5 := Lib.hid bt5
  clear hW4 hTT hb34 bt4 hps4 hW5 hps5 ho5 hb5 bt5
  have hpl : p < W3.heap.size := HPS3.out.blk.lt
  go_upto_region 14 with fail
  go_region
  all_goals
    rw [← HW4.out, ← HTT.out]
    clear t0 t1 t2 t3 t4 t5 d0 d1 e1 a b hpl
    go_upto_region 16 with fail
    rw [← HW5.out]
    have t0 := BT5.out.cell 0; have t3 := BT5.out.cell 3; have t4 := BT5.out.cell 4; have t5 := BT5.out.cell 5
    simp at t0 t3 t4 t5
    have r0 := HB5.out.cell 0; have r1 := HB5.out.cell 1; have r2 := HB5.out.cell 2; have r3 := HB5.out.cell 3; have r4 := HB5.out.cell 4; have r5 := HB5.out.cell 5; have r6 := HB5.out.cell 6; have r7 := HB5.out.cell 7; have r8 := HB5.out.cell 8; have r9 := HB5.out.cell 9
    have s0 := HB5.out.frozen 0; have s1 := HB5.out.frozen 1; have s2 := HB5.out.frozen 2; have s3 := HB5.out.frozen 3; have s4 := HB5.out.frozen 4; have s5 := HB5.out.frozen 5; have s6 := HB5.out.frozen 6; have s7 := HB5.out.frozen 7; have s8 := HB5.out.frozen 8; have s9 := HB5.out.frozen 9
    simp at r0 r1 r2 r3 r4 r5 r6 r7 r8 r9
    have q2 : (t.k == 2) = true := by rw [HK.out]; rfl
    have q3 : (t.k == 3) = false := by rw [HK.out]; rfl
    go_wp2_with fail
    refine (con_leaf 2 t.n 0 ⟨#[]⟩ W5).mono ?_
    rintro e w6 ⟨rfl, hb6⟩
    have hps6 := HPS5.out.below hb6
    have ho6 := HO5.out.trans (Only.of_below hb6 p)
    have hbA6 := HB5.out.below hb6 HB5.out.lt
    clear r0 r1 r2 r3 r4 r5 r6 r7 r8 r9 s0 s1 s2 s3 s4 s5 s6 s7 s8 s9
    have r0 := hbA6.cell 0; have r1 := hbA6.cell 1; have r2 := hbA6.cell 2; have r3 := hbA6.cell 3; have r4 := hbA6.cell 4; have r5 := hbA6.cell 5; have r6 := hbA6.cell 6; have r7 := hbA6.cell 7; have r8 := hbA6.cell 8; have r9 := hbA6.cell 9
    have s0 := hbA6.frozen 0; have s1 := hbA6.frozen 1; have s2 := hbA6.frozen 2; have s3 := hbA6.frozen 3; have s4 := hbA6.frozen 4; have s5 := hbA6.frozen 5; have s6 := hbA6.frozen 6; have s7 := hbA6.frozen 7; have s8 := hbA6.frozen 8; have s9 := hbA6.frozen 9
    simp at r0 r1 r2 r3 r4 r5 r6 r7 r8 r9
    obtain ⟨WF, hWF⟩ : ∃ WF, WF = ((((((((((w6.setCell ⟨A, 0, none⟩ (.int .i64 1)).setCell ⟨A, 1, none⟩ (.string ⟨#[]⟩)).setCell ⟨A, 2, none⟩ (.int .i64 2)).setCell ⟨A, 3, none⟩ (.int .i64 t.n)).setCell ⟨A, 4, none⟩ (.float .f64 0)).setCell ⟨A, 5, none⟩ (.string ⟨#[]⟩)).setCell ⟨A, 6, none⟩ (.slice none 0 0)).setCell ⟨A, 7, none⟩ (.slice none 0 0)).setCell ⟨A, 8, none⟩ (.slice none 0 0)).setCell ⟨A, 9, none⟩ (.slice none 0 0)) := ⟨_, rfl⟩
    have hfin := px_leaf (R := fun x => x = leafX 1 ⟨#[]⟩ 2 t.n 0 ⟨#[]⟩) HA.out hpA (fun g o m e => by rw [HA.out]; exact H0.out.toks_lt g o m e) hps6 ho6 hbA6 (by unfold i64r; decide) (by show (⟨#[]⟩ : ByteArray).size ≤ _; decide) (by unfold i64r; decide) hn (by decide) (by show (⟨#[]⟩ : ByteArray).size ≤ _; decide) rfl hWF
    have HFIN := Lib.hid hfin; have HWF := Lib.hid hWF
    clear hfin hWF hps6 ho6 hbA6 hb6
    go_wp2_with fail
    rw [← HWF.out]
    have f0 := HFIN.out.1.cell 0; have f1 := HFIN.out.1.cell 1; have f2 := HFIN.out.1.cell 2; have f3 := HFIN.out.1.cell 3; have f4 := HFIN.out.1.cell 4; have f5 := HFIN.out.1.cell 5; have f6 := HFIN.out.1.cell 6; have f7 := HFIN.out.1.cell 7; have f8 := HFIN.out.1.cell 8; have f9 := HFIN.out.1.cell 9
    simp at f0 f1 f2 f3 f4 f5 f6 f7 f8 f9
    refine bodyPost_ret (v := .agg #[.int .i64 1, .string ⟨#[]⟩, .int .i64 2, .int .i64 t.n, .float .f64 0, .string ⟨#[]⟩, .slice none 0 0, .slice none 0 0, .slice none 0 0, .slice none 0 0]) (by simp [results, Tryz.results138, go_sem, f0, f1, f2, f3, f4, f5, f6, f7, f8, f9]) rfl ?_
    exact HFIN.out.2

set_option maxHeartbeats 8000000 in
set_option maxRecDepth 100000 in
theorem prim_flt (t : Tok) (ht : ts[i]? = some t) (hk : t.k = 3) (hf : t.f < 18446744073709551616) (hi : i < 9223372036854775807)
    (n0 : tokIs ts i ⟨#[40]⟩ = false) (n1 : tokIs ts i ⟨#[91]⟩ = false) (n2 : tokIs ts i ⟨#[123]⟩ = false) (w : World) (h : PS w p tp tc ts en i d) :
    Calls Tryz.prog 138 #[.pointer (some ⟨p, 0, none⟩)] w fun e w' => PX (fun x => x = leafX 1 ⟨#[]⟩ 3 0 t.f ⟨#[]⟩) p tp tc ts en (i + 1) d w e w' := by
  obtain ⟨W, hW⟩ : ∃ W, W = w.alloc (.cells zero10 29) := ⟨_, rfl⟩
  have hps := px_ps h
  rw [← hW] at hps
  obtain ⟨A, hA⟩ : ∃ A, A = w.heap.size := ⟨_, rfl⟩
  have hoW : Only w W p := by rw [hW]; exact Only.of_below ((Below.refl _ w).alloc (Nat.le_refl _) _) p
  have hbA : Blk W A 29 zero10 := by rw [hW, hA]; exact Blk.new w 29 zero10
  have hpA : p < A := by rw [hA]; exact h.blk.lt
  have H0 := Lib.hid h; have HW := Lib.hid hW; have HA := Lib.hid hA; have HPS := Lib.hid hps; have HOW := Lib.hid hoW; have HBA := Lib.hid hbA; have HT := Lib.hid ht
  have HT0 := Lib.hid (fun (W : World) (h : PS W p tp tc ts en i d) => take_not ⟨#[40]⟩ hi n0 W h)
  have HT1 := Lib.hid (fun (W : World) (h : PS W p tp tc ts en i d) => take_not ⟨#[91]⟩ hi n1 W h)
  have HT2 := Lib.hid (fun (W : World) (h : PS W p tp tc ts en i d) => take_not ⟨#[123]⟩ hi n2 W h)
  have hsf := run_store_flt
  have c3 := hps.blk.cell 3
  simp at c3
  clear h hW hA hps n0 n1 n2 hoW hbA ht
  go_enter Tryz.func138, Tryz.ntmps138
  go_upto_region 1 with fail
  unfold zero10 at HW
  rw [← HW.out, ← HA.out]
  go_wp2_with fail
  refine (HT0.out _ HPS.out).mono ?_
  rintro e wt0 ⟨rfl, hpt, hot⟩
  have HPS0 := Lib.hid hpt
  have HO0 := Lib.hid (HOW.out.trans hot)
  have HB0 := Lib.hid (HBA.out.grown hot (by simp; omega))
  clear hpt hot
  go_wp2_with fail
  refine (HT1.out _ HPS0.out).mono ?_
  rintro e wt1 ⟨rfl, hpt, hot⟩
  have HPS1 := Lib.hid hpt
  have HO1 := Lib.hid (HO0.out.trans hot)
  have HB1 := Lib.hid (HB0.out.grown hot (by simp; omega))
  clear hpt hot
  go_wp2_with fail
  refine (HT2.out _ HPS1.out).mono ?_
  rintro e wt2 ⟨rfl, hpt, hot⟩
  have HPS2 := Lib.hid hpt
  have HO2 := Lib.hid (HO1.out.trans hot)
  have HB2 := Lib.hid (HB1.out.grown hot (by simp; omega))
  clear hpt hot
  have hlt : i < ts.length := by
    rcases Nat.lt_or_ge i ts.length with h | h
    · exact h
    · have := HT.out; rw [List.getElem?_eq_none (by omega)] at this; cases this
  obtain ⟨g, a, b, c⟩ := HPS2.out.toks.at_ i hlt
  have hti : ts[i] = t := by have := HT.out; rw [List.getElem?_eq_getElem hlt] at this; injection this
  rw [hti] at c
  have t0 := c 0 (by omega); have t1 := c 1 (by omega); have t2 := c 2 (by omega); have t3 := c 3 (by omega); have t4 := c 4 (by omega); have t5 := c 5 (by omega)
  simp only [Tok.cells, List.getElem?_cons_zero, List.getElem?_cons_succ, Nat.add_zero] at t0 t1 t2 t3 t4 t5
  have g0 : decide ((ts.length : Int) ≤ (i : Int)) = false := by simp; omega
  have g1 : decide ((i : Int) < (ts.length : Int)) = true := by simp; omega
  have g2 : (i : Int) < (ts.length : Int) := by omega
  have g3 : (0 : Int) ≤ (i : Int) := by omega
  have g4 : (t.k == 6) = false := by rw [hk]; rfl
  have HK := Lib.hid hk
  have hcap := HPS2.out.toks.cap
  have d0 := HPS2.out.blk.cell 0; have d1 := HPS2.out.blk.cell 1; have e1 := HPS2.out.blk.frozen 1
  simp at d0 d1
  rw [a] at d0
  clear c hti hk
  have g5 : decide (ts.length ≤ i) = false := by simp; omega
  have g6 : ¬ (ts.length ≤ i) := by omega
  go_wp2_with fail
  go_quiet (fail)
  obtain ⟨W3, hW3⟩ : ∃ W3, W3 = wt2.drewN nq := ⟨_, rfl⟩
  rw [← hW3]
  have hps3 : PS W3 p tp tc ts en i d := by rw [hW3]; exact HPS2.out.drewN nq
  have ho3 : Only w W3 p := by rw [hW3]; exact HO2.out.drewN nq
  have hb3 : Blk W3 A 29 zero10 := by rw [hW3]; exact HB2.out.drewN nq
  rw [← hW3] at *
  have HPS3 := Lib.hid hps3; have HO3 := Lib.hid ho3; have HB3 := Lib.hid hb3
  clear hps3 ho3 hb3
  clear t0 t1 t2 t3 t4 t5 d0 d1 e1 b hW3
  obtain ⟨g', a', b, c⟩ := HPS3.out.toks.at_ i hlt
  obtain rfl : g = g' := by rw [a] at a'; injection a' with a'; injection a'
  have hti : ts[i] = t := by have := HT.out; rw [List.getElem?_eq_getElem hlt] at this; injection this
  rw [hti] at c
  have t0 := c 0 (by omega); have t1 := c 1 (by omega); have t2 := c 2 (by omega); have t3 := c 3 (by omega); have t4 := c 4 (by omega); have t5 := c 5 (by omega)
  simp only [Tok.cells, List.getElem?_cons_zero, List.getElem?_cons_succ, Nat.add_zero] at t0 t1 t2 t3 t4 t5
  have d0 := HPS3.out.blk.cell 0; have d1 := HPS3.out.blk.cell 1; have e1 := HPS3.out.blk.frozen 1
  simp at d0 d1
  rw [a] at d0
  clear c hti a'
  obtain ⟨W4, hW4⟩ : ∃ W4, W4 = (W3.alloc (.cells #[.int .i64 t.k, .int .i64 t.at_, .int .i64 t.nx, .int .i64 t.n, .float .f64 t.f, .string t.s] 118)).drew := ⟨_, rfl⟩
  obtain ⟨T, hTT⟩ : ∃ T, T = W3.heap.size := ⟨_, rfl⟩
  have hb34 : Below W3.heap.size W3 W4 := by rw [hW4]; exact ((Below.refl _ W3).alloc (Nat.le_refl _) _).drew
  have bt4 : Blk W4 T 118 #[.int .i64 t.k, .int .i64 t.at_, .int .i64 t.nx, .int .i64 t.n, .float .f64 t.f, .string t.s] := by rw [hW4, hTT]; exact (Blk.new W3 118 _).drew
  have hps4 : PS W4 p tp tc ts en i d := HPS3.out.below hb34
  have hpT : p < T := by rw [hTT]; exact HPS3.out.blk.lt
  obtain ⟨W5, hW5⟩ : ∃ W5, W5 = W4.setCell ⟨p, 1, none⟩ (.int .i64 ((i : Int) + 1)) := ⟨_, rfl⟩
  have hps5 : PS W5 p tp tc ts en (i + 1) d := by rw [hW5]; exact hps4.keep (hps4.blk.set_ 1 (.int .i64 ((i + 1 : Nat) : Int))) ((Only.refl W4 p).set_ (p := ⟨p, 1, none⟩) (.inl rfl) _)
  have ho5 : Only w W5 p := by rw [hW5]; exact (HO3.out.trans (Only.of_below hb34 p)).set_ (p := ⟨p, 1, none⟩) (.inl rfl) _
  have hb5 : Blk W5 A 29 zero10 := by rw [hW5]; exact (HB3.out.below hb34 HB3.out.lt).far (p := ⟨p, 1, none⟩) (by simp; omega) _
  have bt5 : Blk W5 T 118 #[.int .i64 t.k, .int .i64 t.at_, .int .i64 t.nx, .int .i64 t.n, .float .f64 t.f, .string t.s] := by rw [hW5]; exact bt4.far (p := ⟨p, 1, none⟩) (by simp; omega) _
  have f1 := hps4.blk.cell 1; have f1f := hps4.blk.frozen 1
  simp at f1
  have HW4 := Lib.hid hW4; have HTT := Lib.hid hTT; have HW5 := Lib.hid hW5; have HPS5 := Lib.hid hps5; have HO5 := Lib.hid ho5; have HB5 := Lib.hid hb5; have BT5 := Lib.hid bt5
  clear hW4 hTT hb34 bt4 hps4 hW5 hps5 ho5 hb5 bt5
  have hpl : p < W3.heap.size := HPS3.out.blk.lt
  go_upto_region 14 with fail
  go_region
  all_goals
    rw [← HW4.out, ← HTT.out]
    clear t0 t1 t2 t3 t4 t5 d0 d1 e1 a b hpl
    go_upto_region 16 with fail
    rw [← HW5.out]
    have t0 := BT5.out.cell 0; have t3 := BT5.out.cell 3; have t4 := BT5.out.cell 4; have t5 := BT5.out.cell 5
    simp at t0 t3 t4 t5
    have r0 := HB5.out.cell 0; have r1 := HB5.out.cell 1; have r2 := HB5.out.cell 2; have r3 := HB5.out.cell 3; have r4 := HB5.out.cell 4; have r5 := HB5.out.cell 5; have r6 := HB5.out.cell 6; have r7 := HB5.out.cell 7; have r8 := HB5.out.cell 8; have r9 := HB5.out.cell 9
    have s0 := HB5.out.frozen 0; have s1 := HB5.out.frozen 1; have s2 := HB5.out.frozen 2; have s3 := HB5.out.frozen 3; have s4 := HB5.out.frozen 4; have s5 := HB5.out.frozen 5; have s6 := HB5.out.frozen 6; have s7 := HB5.out.frozen 7; have s8 := HB5.out.frozen 8; have s9 := HB5.out.frozen 9
    simp at r0 r1 r2 r3 r4 r5 r6 r7 r8 r9
    have q2 : (t.k == 2) = false := by rw [HK.out]; rfl
    have q3 : (t.k == 3) = true := by rw [HK.out]; rfl
    go_wp2_with fail
    refine (con_leaf 3 0 t.f ⟨#[]⟩ W5).mono ?_
    rintro e w6 ⟨rfl, hb6⟩
    have hps6 := HPS5.out.below hb6
    have ho6 := HO5.out.trans (Only.of_below hb6 p)
    have hbA6 := HB5.out.below hb6 HB5.out.lt
    clear r0 r1 r2 r3 r4 r5 r6 r7 r8 r9 s0 s1 s2 s3 s4 s5 s6 s7 s8 s9
    have r0 := hbA6.cell 0; have r1 := hbA6.cell 1; have r2 := hbA6.cell 2; have r3 := hbA6.cell 3; have r4 := hbA6.cell 4; have r5 := hbA6.cell 5; have r6 := hbA6.cell 6; have r7 := hbA6.cell 7; have r8 := hbA6.cell 8; have r9 := hbA6.cell 9
    have s0 := hbA6.frozen 0; have s1 := hbA6.frozen 1; have s2 := hbA6.frozen 2; have s3 := hbA6.frozen 3; have s4 := hbA6.frozen 4; have s5 := hbA6.frozen 5; have s6 := hbA6.frozen 6; have s7 := hbA6.frozen 7; have s8 := hbA6.frozen 8; have s9 := hbA6.frozen 9
    simp at r0 r1 r2 r3 r4 r5 r6 r7 r8 r9
    obtain ⟨WF, hWF⟩ : ∃ WF, WF = ((((((((((w6.setCell ⟨A, 0, none⟩ (.int .i64 1)).setCell ⟨A, 1, none⟩ (.string ⟨#[]⟩)).setCell ⟨A, 2, none⟩ (.int .i64 3)).setCell ⟨A, 3, none⟩ (.int .i64 0)).setCell ⟨A, 4, none⟩ (.float .f64 t.f)).setCell ⟨A, 5, none⟩ (.string ⟨#[]⟩)).setCell ⟨A, 6, none⟩ (.slice none 0 0)).setCell ⟨A, 7, none⟩ (.slice none 0 0)).setCell ⟨A, 8, none⟩ (.slice none 0 0)).setCell ⟨A, 9, none⟩ (.slice none 0 0)) := ⟨_, rfl⟩
    have hfin := px_leaf (R := fun x => x = leafX 1 ⟨#[]⟩ 3 0 t.f ⟨#[]⟩) HA.out hpA (fun g o m e => by rw [HA.out]; exact H0.out.toks_lt g o m e) hps6 ho6 hbA6 (by unfold i64r; decide) (by show (⟨#[]⟩ : ByteArray).size ≤ _; decide) (by unfold i64r; decide) (by unfold i64r; decide) hf (by show (⟨#[]⟩ : ByteArray).size ≤ _; decide) rfl hWF
    have HFIN := Lib.hid hfin; have HWF := Lib.hid hWF
    clear hfin hWF hps6 ho6 hbA6 hb6
    go_wp2_with fail
    rw [← HWF.out]
    have f0 := HFIN.out.1.cell 0; have f1 := HFIN.out.1.cell 1; have f2 := HFIN.out.1.cell 2; have f3 := HFIN.out.1.cell 3; have f4 := HFIN.out.1.cell 4; have f5 := HFIN.out.1.cell 5; have f6 := HFIN.out.1.cell 6; have f7 := HFIN.out.1.cell 7; have f8 := HFIN.out.1.cell 8; have f9 := HFIN.out.1.cell 9
    simp at f0 f1 f2 f3 f4 f5 f6 f7 f8 f9
    refine bodyPost_ret (v := .agg #[.int .i64 1, .string ⟨#[]⟩, .int .i64 3, .int .i64 0, .float .f64 t.f, .string ⟨#[]⟩, .slice none 0 0, .slice none 0 0, .slice none 0 0, .slice none 0 0]) (by simp [results, Tryz.results138, go_sem, f0, f1, f2, f3, f4, f5, f6, f7, f8, f9]) rfl ?_
    exact HFIN.out.2
end
end Go.Proofs.YtjpdbhhjlnmacaaGreat
