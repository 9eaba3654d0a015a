/- pack.ReadCmd: what is read as a command (printed by wip/gen_pack6.py). -/
import Derived.Test.YtaamihdibpioaaaGreatJkM41
namespace Go.Proofs.YtaamihdibpioaaaGreat.Pk
set_option linter.unusedVariables false
open Go.RowKit

/-- What ReadCmd answers. -/
def CmdRead (r : Option (Cm × Nat)) (w : World) (e : Ending) (w' : World) : Prop :=
  Below w.heap.size w w' ∧ match r with
  | some (c, q) => ∃ u : Cm, e = .returned (.tuple #[u.agg, .int .i64 q, .int .i64 0]) ∧ u.erase = c ∧ u.In w' ∧ u.Sep (fun b => w.heap.size ≤ b)
  | none => e = .returned (.tuple #[Cm.zero.agg, .int .i64 0, .int .i64 5])
/-- Amid reading: the results' cells, the reader, the command that is made. -/
structure RSt (w W : World) (A : Nat) (s : ByteArray) (p : Nat) (xs : List Value) : Prop where
  below : Below A w W
  res : Blk W A 39 [.int .i64 0, .int .i64 0, .int .i64 0, .int .i64 0, .int .i64 0, .int .i64 0, .int .i64 0, .float .f64 0, .string ⟨#[]⟩, .slice none 0 0, .slice none 0 0, .int .i64 0, .int .i64 0, .float .f64 0, .string ⟨#[]⟩, .slice none 0 0, .slice none 0 0].toArray
  err : Blk W (A + 1) 25 #[.int .i64 0]
  rd : PRd W (A + 1 + 1) s p
  x : Blk W (A + 1 + 1 + 1) 39 xs.toArray
theorem RSt.next {w W W' : World} {A : Nat} {s : ByteArray} {p q : Nat} {xs : List Value} (h : RSt w W A s p xs) (ho : Only W W' (A + 1 + 1)) (hr : PRd W' (A + 1 + 1) s q) : RSt w W' A s q xs :=
  ⟨Go.Proofs.YtaamihdibpioaaaGreat.Below.only h.below ho (by omega) (Nat.le_of_lt h.res.lt), h.res.grown ho (by simp <;> omega), h.err.grown ho (by simp), hr, h.x.grown ho (by simp)⟩
theorem RSt.store {w W W' : World} {A : Nat} {s : ByteArray} {p : Nat} {xs ys : List Value} (h : RSt w W A s p xs) (hb : Blk W' (A + 1 + 1 + 1) 39 ys.toArray) (ho : Only W W' (A + 1 + 1 + 1)) : RSt w W' A s p ys :=
  ⟨Go.Proofs.YtaamihdibpioaaaGreat.Below.only h.below ho (by omega) (Nat.le_of_lt h.res.lt), h.res.grown ho (by simp <;> omega), h.err.grown ho (by simp <;> omega), Blk.grown h.rd ho (by simp), hb⟩
theorem RSt.failed {w W W' : World} {A : Nat} {s : ByteArray} {p : Nat} {xs : List Value} (h : RSt w W A s p xs) (ho : Only W W' (A + 1 + 1)) :
    Blk W' (A + 1) 25 #[.int .i64 0] ∧ Below A w (W'.setCell ⟨A + 1, 0, none⟩ (.int .i64 5)) ∧ Blk (W'.setCell ⟨A + 1, 0, none⟩ (.int .i64 5)) A 39 [.int .i64 0, .int .i64 0, .int .i64 0, .int .i64 0, .int .i64 0, .int .i64 0, .int .i64 0, .float .f64 0, .string ⟨#[]⟩, .slice none 0 0, .slice none 0 0, .int .i64 0, .int .i64 0, .float .f64 0, .string ⟨#[]⟩, .slice none 0 0, .slice none 0 0].toArray ∧ Blk (W'.setCell ⟨A + 1, 0, none⟩ (.int .i64 5)) (A + 1) 25 #[.int .i64 5] := by
  have h1 := h.err.grown ho (by simp)
  have h2 := h.res.grown ho (by simp <;> omega)
  have hb := Go.Proofs.YtaamihdibpioaaaGreat.Below.only h.below ho (by omega) (Nat.le_of_lt h.res.lt)
  exact ⟨h1, hb.setCell (p := ⟨A + 1, 0, none⟩) (by simp) _, h2.far (p := ⟨A + 1, 0, none⟩) (by simp) _, h1.set_ 0 _⟩
theorem leaves_end {P : Program} {fn : Func} {tmps : Array Value} {R : Ending → World → Prop} {w : World} {v : Value} (h : (results fn tmps).run P w = .ok v w) (hr : R (.returned v) w) : Leaves P fn tmps R [] .returning w := ⟨v, h, hr⟩
set_option maxHeartbeats 2000000 in
set_option maxRecDepth 100000 in
theorem res_read {x0 x1 x2 x3 x4 x5 x6 x7 x8 x9 x10 x11 x12 x13 x14 x15 x16 : Value} (A : Nat) (v5 k : Value) (tmps : Array Value) (W : World) (h4 : tmps[4]? = some (.pointer (some ⟨A, 0, none⟩))) (h5 : tmps[5]? = some v5) (h6 : tmps[6]? = some (.pointer (some ⟨A + 1, 0, none⟩)))
    (hA : Blk W A 39 [x0, x1, x2, x3, x4, x5, x6, x7, x8, x9, x10, x11, x12, x13, x14, x15, x16].toArray) (hE : Blk W (A + 1) 25 #[k]) : (results Tryz.f47 tmps).run Tryz.prog W = .ok (.tuple #[.agg #[x0, x1, x2, x3, x4, x5, x6, x7, x8, x9, x10, x11, x12, x13, x14, x15, x16], v5, k]) W := by
  have e0 := hA.cell 0; have e1 := hA.cell 1; have e2 := hA.cell 2; have e3 := hA.cell 3; have e4 := hA.cell 4; have e5 := hA.cell 5; have e6 := hA.cell 6; have e7 := hA.cell 7; have e8 := hA.cell 8; have e9 := hA.cell 9; have e10 := hA.cell 10; have e11 := hA.cell 11; have e12 := hA.cell 12; have e13 := hA.cell 13; have e14 := hA.cell 14; have e15 := hA.cell 15; have e16 := hA.cell 16
  simp only [List.getElem?_toArray, List.getElem?_cons_zero, List.getElem?_cons_succ] at e0 e1 e2 e3 e4 e5 e6 e7 e8 e9 e10 e11 e12 e13 e14 e15 e16
  have e17 := hE.cell 0
  simp at e17
  simp [results, Tryz.results47, go_sem, h4, h5, h6, e0, e1, e2, e3, e4, e5, e6, e7, e8, e9, e10, e11, e12, e13, e14, e15, e16, e17]
set_option maxHeartbeats 8000000 in
set_option maxRecDepth 20000 in
theorem set5of17 {w : World} {g : Nat} {T : TypeId} {x0 x1 x2 x3 x4 x5 x6 x7 x8 x9 x10 x11 x12 x13 x14 x15 x16 : Value} (hb : Blk w g T [x0, x1, x2, x3, x4, x5, x6, x7, x8, x9, x10, x11, x12, x13, x14, x15, x16].toArray) (v0 v1 v2 v3 v4 : Value) :
    Blk (((((w.setCell ⟨g, 0, none⟩ (v0)).setCell ⟨g, 1, none⟩ (v1)).setCell ⟨g, 2, none⟩ (v2)).setCell ⟨g, 3, none⟩ (v3)).setCell ⟨g, 4, none⟩ (v4)) g T [v0, v1, v2, v3, v4, x5, x6, x7, x8, x9, x10, x11, x12, x13, x14, x15, x16].toArray ∧ Only w (((((w.setCell ⟨g, 0, none⟩ (v0)).setCell ⟨g, 1, none⟩ (v1)).setCell ⟨g, 2, none⟩ (v2)).setCell ⟨g, 3, none⟩ (v3)).setCell ⟨g, 4, none⟩ (v4)) g :=
  ⟨(blk_set (i := 4) (blk_set (i := 3) (blk_set (i := 2) (blk_set (i := 1) (blk_set (i := 0) hb v0) v1) v2) v3) v4), ((((((Only.refl w g).set_ (.inl rfl) _).set_ (.inl rfl) _).set_ (.inl rfl) _).set_ (.inl rfl) _).set_ (.inl rfl) _)⟩
set_option maxHeartbeats 8000000 in
set_option maxRecDepth 20000 in
theorem set12of17 {w : World} {g : Nat} {T : TypeId} {x0 x1 x2 x3 x4 x5 x6 x7 x8 x9 x10 x11 x12 x13 x14 x15 x16 : Value} (hb : Blk w g T [x0, x1, x2, x3, x4, x5, x6, x7, x8, x9, x10, x11, x12, x13, x14, x15, x16].toArray) (v5 v6 v7 v8 v9 v10 v11 v12 v13 v14 v15 v16 : Value) :
    Blk ((((((((((((w.setCell ⟨g, 5, none⟩ (v5)).setCell ⟨g, 6, none⟩ (v6)).setCell ⟨g, 7, none⟩ (v7)).setCell ⟨g, 8, none⟩ (v8)).setCell ⟨g, 9, none⟩ (v9)).setCell ⟨g, 10, none⟩ (v10)).setCell ⟨g, 11, none⟩ (v11)).setCell ⟨g, 12, none⟩ (v12)).setCell ⟨g, 13, none⟩ (v13)).setCell ⟨g, 14, none⟩ (v14)).setCell ⟨g, 15, none⟩ (v15)).setCell ⟨g, 16, none⟩ (v16)) g T [x0, x1, x2, x3, x4, v5, v6, v7, v8, v9, v10, v11, v12, v13, v14, v15, v16].toArray ∧ Only w ((((((((((((w.setCell ⟨g, 5, none⟩ (v5)).setCell ⟨g, 6, none⟩ (v6)).setCell ⟨g, 7, none⟩ (v7)).setCell ⟨g, 8, none⟩ (v8)).setCell ⟨g, 9, none⟩ (v9)).setCell ⟨g, 10, none⟩ (v10)).setCell ⟨g, 11, none⟩ (v11)).setCell ⟨g, 12, none⟩ (v12)).setCell ⟨g, 13, none⟩ (v13)).setCell ⟨g, 14, none⟩ (v14)).setCell ⟨g, 15, none⟩ (v15)).setCell ⟨g, 16, none⟩ (v16)) g :=
  ⟨(blk_set (i := 16) (blk_set (i := 15) (blk_set (i := 14) (blk_set (i := 13) (blk_set (i := 12) (blk_set (i := 11) (blk_set (i := 10) (blk_set (i := 9) (blk_set (i := 8) (blk_set (i := 7) (blk_set (i := 6) (blk_set (i := 5) hb v5) v6) v7) v8) v9) v10) v11) v12) v13) v14) v15) v16), (((((((((((((Only.refl w g).set_ (.inl rfl) _).set_ (.inl rfl) _).set_ (.inl rfl) _).set_ (.inl rfl) _).set_ (.inl rfl) _).set_ (.inl rfl) _).set_ (.inl rfl) _).set_ (.inl rfl) _).set_ (.inl rfl) _).set_ (.inl rfl) _).set_ (.inl rfl) _).set_ (.inl rfl) _)⟩
set_option maxHeartbeats 8000000 in
set_option maxRecDepth 20000 in
theorem set17of17 {w : World} {g : Nat} {T : TypeId} {x0 x1 x2 x3 x4 x5 x6 x7 x8 x9 x10 x11 x12 x13 x14 x15 x16 : Value} (hb : Blk w g T [x0, x1, x2, x3, x4, x5, x6, x7, x8, x9, x10, x11, x12, x13, x14, x15, x16].toArray) (v0 v1 v2 v3 v4 v5 v6 v7 v8 v9 v10 v11 v12 v13 v14 v15 v16 : Value) :
    Blk (((((((((((((((((w.setCell ⟨g, 0, none⟩ (v0)).setCell ⟨g, 1, none⟩ (v1)).setCell ⟨g, 2, none⟩ (v2)).setCell ⟨g, 3, none⟩ (v3)).setCell ⟨g, 4, none⟩ (v4)).setCell ⟨g, 5, none⟩ (v5)).setCell ⟨g, 6, none⟩ (v6)).setCell ⟨g, 7, none⟩ (v7)).setCell ⟨g, 8, none⟩ (v8)).setCell ⟨g, 9, none⟩ (v9)).setCell ⟨g, 10, none⟩ (v10)).setCell ⟨g, 11, none⟩ (v11)).setCell ⟨g, 12, none⟩ (v12)).setCell ⟨g, 13, none⟩ (v13)).setCell ⟨g, 14, none⟩ (v14)).setCell ⟨g, 15, none⟩ (v15)).setCell ⟨g, 16, none⟩ (v16)) g T [v0, v1, v2, v3, v4, v5, v6, v7, v8, v9, v10, v11, v12, v13, v14, v15, v16].toArray ∧ Only w (((((((((((((((((w.setCell ⟨g, 0, none⟩ (v0)).setCell ⟨g, 1, none⟩ (v1)).setCell ⟨g, 2, none⟩ (v2)).setCell ⟨g, 3, none⟩ (v3)).setCell ⟨g, 4, none⟩ (v4)).setCell ⟨g, 5, none⟩ (v5)).setCell ⟨g, 6, none⟩ (v6)).setCell ⟨g, 7, none⟩ (v7)).setCell ⟨g, 8, none⟩ (v8)).setCell ⟨g, 9, none⟩ (v9)).setCell ⟨g, 10, none⟩ (v10)).setCell ⟨g, 11, none⟩ (v11)).setCell ⟨g, 12, none⟩ (v12)).setCell ⟨g, 13, none⟩ (v13)).setCell ⟨g, 14, none⟩ (v14)).setCell ⟨g, 15, none⟩ (v15)).setCell ⟨g, 16, none⟩ (v16)) g :=
  ⟨(blk_set (i := 16) (blk_set (i := 15) (blk_set (i := 14) (blk_set (i := 13) (blk_set (i := 12) (blk_set (i := 11) (blk_set (i := 10) (blk_set (i := 9) (blk_set (i := 8) (blk_set (i := 7) (blk_set (i := 6) (blk_set (i := 5) (blk_set (i := 4) (blk_set (i := 3) (blk_set (i := 2) (blk_set (i := 1) (blk_set (i := 0) hb v0) v1) v2) v3) v4) v5) v6) v7) v8) v9) v10) v11) v12) v13) v14) v15) v16), ((((((((((((((((((Only.refl w g).set_ (.inl rfl) _).set_ (.inl rfl) _).set_ (.inl rfl) _).set_ (.inl rfl) _).set_ (.inl rfl) _).set_ (.inl rfl) _).set_ (.inl rfl) _).set_ (.inl rfl) _).set_ (.inl rfl) _).set_ (.inl rfl) _).set_ (.inl rfl) _).set_ (.inl rfl) _).set_ (.inl rfl) _).set_ (.inl rfl) _).set_ (.inl rfl) _).set_ (.inl rfl) _).set_ (.inl rfl) _)⟩
theorem rdN_small {s : ByteArray} {p n q : Nat} (h : rdN s p = some (n, q)) : n ≤ 10000 := by
  unfold rdN at h
  cases hu : readU s p 0 0 with
  | error k => rw [hu] at h; cases h
  | ok x =>
    obtain ⟨m, q'⟩ := x
    rw [hu] at h
    simp only at h
    split at h
    · injection h with h
      injection h with h1 h2
      omega
    · cases h
set_option maxHeartbeats 8000000 in
set_option maxRecDepth 100000 in
theorem readcmd_any (s : ByteArray) (p : Nat) (w : World) (hs : s.size ≤ 100000) (hp : p ≤ s.size) :
    Calls Tryz.prog 47 #[.string s, .int .i64 p] w fun e w' => CmdRead (rdCm s p) w e w' := by
  have hsf := run_store_flt
  obtain ⟨A, hA⟩ : ∃ A, A = w.heap.size := ⟨_, rfl⟩
  obtain ⟨W, hW⟩ : ∃ W, W = (((w.alloc (.cells #[.int .i64 0, .int .i64 0, .int .i64 0, .int .i64 0, .int .i64 0, .int .i64 0, .int .i64 0, .float .f64 0, .string ⟨#[]⟩, .slice none 0 0, .slice none 0 0, .int .i64 0, .int .i64 0, .float .f64 0, .string ⟨#[]⟩, .slice none 0 0, .slice none 0 0] 39)).alloc (.cells #[.int .i64 0] 25)).alloc (.cells #[.string s, .int .i64 p] 132)).alloc (.cells #[.int .i64 0, .int .i64 0, .int .i64 0, .int .i64 0, .int .i64 0, .int .i64 0, .int .i64 0, .float .f64 0, .string ⟨#[]⟩, .slice none 0 0, .slice none 0 0, .int .i64 0, .int .i64 0, .float .f64 0, .string ⟨#[]⟩, .slice none 0 0, .slice none 0 0] 39) := ⟨_, rfl⟩
  have h0 : RSt w W A s p [.int .i64 0, .int .i64 0, .int .i64 0, .int .i64 0, .int .i64 0, .int .i64 0, .int .i64 0, .float .f64 0, .string ⟨#[]⟩, .slice none 0 0, .slice none 0 0, .int .i64 0, .int .i64 0, .float .f64 0, .string ⟨#[]⟩, .slice none 0 0, .slice none 0 0] := by
    rw [hW, hA]
    have b1 := Blk.new (w.alloc (.cells #[.int .i64 0, .int .i64 0, .int .i64 0, .int .i64 0, .int .i64 0, .int .i64 0, .int .i64 0, .float .f64 0, .string ⟨#[]⟩, .slice none 0 0, .slice none 0 0, .int .i64 0, .int .i64 0, .float .f64 0, .string ⟨#[]⟩, .slice none 0 0, .slice none 0 0] 39)) 25 #[.int .i64 0]
    have b2 := Blk.new ((w.alloc (.cells #[.int .i64 0, .int .i64 0, .int .i64 0, .int .i64 0, .int .i64 0, .int .i64 0, .int .i64 0, .float .f64 0, .string ⟨#[]⟩, .slice none 0 0, .slice none 0 0, .int .i64 0, .int .i64 0, .float .f64 0, .string ⟨#[]⟩, .slice none 0 0, .slice none 0 0] 39)).alloc (.cells #[.int .i64 0] 25)) 132 #[.string s, .int .i64 p]
    have b3 := Blk.new (((w.alloc (.cells #[.int .i64 0, .int .i64 0, .int .i64 0, .int .i64 0, .int .i64 0, .int .i64 0, .int .i64 0, .float .f64 0, .string ⟨#[]⟩, .slice none 0 0, .slice none 0 0, .int .i64 0, .int .i64 0, .float .f64 0, .string ⟨#[]⟩, .slice none 0 0, .slice none 0 0] 39)).alloc (.cells #[.int .i64 0] 25)).alloc (.cells #[.string s, .int .i64 p] 132)) 39 #[.int .i64 0, .int .i64 0, .int .i64 0, .int .i64 0, .int .i64 0, .int .i64 0, .int .i64 0, .float .f64 0, .string ⟨#[]⟩, .slice none 0 0, .slice none 0 0, .int .i64 0, .int .i64 0, .float .f64 0, .string ⟨#[]⟩, .slice none 0 0, .slice none 0 0]
    rw [alloc_size'] at b1
    rw [alloc_size', alloc_size'] at b2
    rw [alloc_size', alloc_size', alloc_size'] at b3
    refine ⟨?_, ?_, (b1.alloc _).alloc _, Blk.alloc b2 _, b3⟩
    · exact ((((Below.refl _ w).alloc (Nat.le_refl _) _).alloc (by simp) _).alloc (by simp <;> omega) _).alloc (by simp <;> omega) _
    · exact (((Blk.new w _ _).alloc _).alloc _).alloc _
  have hd1 : decide ((p : Int) < 0) = false := by simp <;> omega
  have hd2 : decide ((s.size : Int) < (p : Int)) = false := by simp <;> omega
  have hd3 : decide (s.size < p) = false := by simp <;> omega
  obtain ⟨R, hR⟩ : ∃ R, R = rdCm s p := ⟨_, rfl⟩
  rw [← hR]
  have HA := Lib.hid hA; have HW := Lib.hid hW; have H0 := Lib.hid h0; have HE := Lib.hid hR; have HP := Lib.hid hp
  clear hA hW h0 hR hp
  go_enter_defers Tryz.func47, Tryz.ntmps47
  go_wp2_with fail
  rw [← HW.out, ← HA.out]
  have hc0 := prnum_any s p (A + 1 + 1) W hs HP.out H0.out.rd
  have HC0 := Lib.hid hc0
  clear hc0
  refine HC0.out.mono ?_
  clear HC0
  cases hq : rdN s p with
  | none =>
    rintro e w1 ⟨ho, rfl⟩
    have HF := Lib.hid (RSt.failed H0.out ho)
    have HRN : Hid (R = none) := Lib.hid (by rw [HE.out]; simp [rdCm, hq])
    clear ho hq
    unfold pgave
    go_wp2
    refine leaves_cons (f := 69) (args := #[.pointer (some ⟨A + 1, 0, none⟩)]) (by simp) (by simp [go_sem]) ?_
    refine (pcaught_panicking (A + 1) 5 _ [] _ HF.out.1).mono ?_
    rintro e u' w'' ⟨rfl, rfl, rfl⟩
    refine leaves_end (res_read A (.int .i64 0) (.int .i64 5) _ _ rfl rfl rfl HF.out.2.2.1 HF.out.2.2.2) ?_
    refine ⟨?_, ?_⟩
    · rw [← HA.out]; exact HF.out.2.1
    · rw [HRN.out]; rfl
  | some x =>
    obtain ⟨a0, p1⟩ := x
    rintro e w1 ⟨ho, rfl, hr⟩
    have H1 := Lib.hid (RSt.next H0.out ho hr); have HQ0 := Lib.hid hq; have HP1 := Lib.hid (rdN_le hq)
    clear ho hr hq
    have hc1 := prnum_any s p1 (A + 1 + 1) w1 hs HP1.out H1.out.rd
    have HC1 := Lib.hid hc1
    clear hc1
    go_wp2_with fail
    refine HC1.out.mono ?_
    clear HC1
    cases hq : rdN s p1 with
    | none =>
      rintro e w2 ⟨ho, rfl⟩
      have HF := Lib.hid (RSt.failed H1.out ho)
      have HRN : Hid (R = none) := Lib.hid (by rw [HE.out]; simp [rdCm, hq, HQ0.out])
      clear ho hq
      unfold pgave
      go_wp2
      refine leaves_cons (f := 69) (args := #[.pointer (some ⟨A + 1, 0, none⟩)]) (by simp) (by simp [go_sem]) ?_
      refine (pcaught_panicking (A + 1) 5 _ [] _ HF.out.1).mono ?_
      rintro e u' w'' ⟨rfl, rfl, rfl⟩
      refine leaves_end (res_read A (.int .i64 0) (.int .i64 5) _ _ rfl rfl rfl HF.out.2.2.1 HF.out.2.2.2) ?_
      refine ⟨?_, ?_⟩
      · rw [← HA.out]; exact HF.out.2.1
      · rw [HRN.out]; rfl
    | some x =>
      obtain ⟨a1, p2⟩ := x
      rintro e w2 ⟨ho, rfl, hr⟩
      have H2 := Lib.hid (RSt.next H1.out ho hr); have HQ1 := Lib.hid hq; have HP2 := Lib.hid (rdN_le hq)
      clear ho hr hq
      have hc2 := prnum_any s p2 (A + 1 + 1) w2 hs HP2.out H2.out.rd
      have HC2 := Lib.hid hc2
      clear hc2
      go_wp2_with fail
      refine HC2.out.mono ?_
      clear HC2
      cases hq : rdN s p2 with
      | none =>
        rintro e w3 ⟨ho, rfl⟩
        have HF := Lib.hid (RSt.failed H2.out ho)
        have HRN : Hid (R = none) := Lib.hid (by rw [HE.out]; simp [rdCm, hq, HQ0.out, HQ1.out])
        clear ho hq
        unfold pgave
        go_wp2
        refine leaves_cons (f := 69) (args := #[.pointer (some ⟨A + 1, 0, none⟩)]) (by simp) (by simp [go_sem]) ?_
        refine (pcaught_panicking (A + 1) 5 _ [] _ HF.out.1).mono ?_
        rintro e u' w'' ⟨rfl, rfl, rfl⟩
        refine leaves_end (res_read A (.int .i64 0) (.int .i64 5) _ _ rfl rfl rfl HF.out.2.2.1 HF.out.2.2.2) ?_
        refine ⟨?_, ?_⟩
        · rw [← HA.out]; exact HF.out.2.1
        · rw [HRN.out]; rfl
      | some x =>
        obtain ⟨a2, p3⟩ := x
        rintro e w3 ⟨ho, rfl, hr⟩
        have H3 := Lib.hid (RSt.next H2.out ho hr); have HQ2 := Lib.hid hq; have HP3 := Lib.hid (rdN_le hq)
        clear ho hr hq
        have hc3 := prnum_any s p3 (A + 1 + 1) w3 hs HP3.out H3.out.rd
        have HC3 := Lib.hid hc3
        clear hc3
        go_wp2_with fail
        refine HC3.out.mono ?_
        clear HC3
        cases hq : rdN s p3 with
        | none =>
          rintro e w4 ⟨ho, rfl⟩
          have HF := Lib.hid (RSt.failed H3.out ho)
          have HRN : Hid (R = none) := Lib.hid (by rw [HE.out]; simp [rdCm, hq, HQ0.out, HQ1.out, HQ2.out])
          clear ho hq
          unfold pgave
          go_wp2
          refine leaves_cons (f := 69) (args := #[.pointer (some ⟨A + 1, 0, none⟩)]) (by simp) (by simp [go_sem]) ?_
          refine (pcaught_panicking (A + 1) 5 _ [] _ HF.out.1).mono ?_
          rintro e u' w'' ⟨rfl, rfl, rfl⟩
          refine leaves_end (res_read A (.int .i64 0) (.int .i64 5) _ _ rfl rfl rfl HF.out.2.2.1 HF.out.2.2.2) ?_
          refine ⟨?_, ?_⟩
          · rw [← HA.out]; exact HF.out.2.1
          · rw [HRN.out]; rfl
        | some x =>
          obtain ⟨a3, p4⟩ := x
          rintro e w4 ⟨ho, rfl, hr⟩
          have H4 := Lib.hid (RSt.next H3.out ho hr); have HQ3 := Lib.hid hq; have HP4 := Lib.hid (rdN_le hq)
          clear ho hr hq
          have hc4 := prnum_any s p4 (A + 1 + 1) w4 hs HP4.out H4.out.rd
          have HC4 := Lib.hid hc4
          clear hc4
          go_wp2_with fail
          refine HC4.out.mono ?_
          clear HC4
          cases hq : rdN s p4 with
          | none =>
            rintro e w5 ⟨ho, rfl⟩
            have HF := Lib.hid (RSt.failed H4.out ho)
            have HRN : Hid (R = none) := Lib.hid (by rw [HE.out]; simp [rdCm, hq, HQ0.out, HQ1.out, HQ2.out, HQ3.out])
            clear ho hq
            unfold pgave
            go_wp2
            refine leaves_cons (f := 69) (args := #[.pointer (some ⟨A + 1, 0, none⟩)]) (by simp) (by simp [go_sem]) ?_
            refine (pcaught_panicking (A + 1) 5 _ [] _ HF.out.1).mono ?_
            rintro e u' w'' ⟨rfl, rfl, rfl⟩
            refine leaves_end (res_read A (.int .i64 0) (.int .i64 5) _ _ rfl rfl rfl HF.out.2.2.1 HF.out.2.2.2) ?_
            refine ⟨?_, ?_⟩
            · rw [← HA.out]; exact HF.out.2.1
            · rw [HRN.out]; rfl
          | some x =>
            obtain ⟨a4', p5⟩ := x
            rintro e w5 ⟨ho, rfl, hr⟩
            have H5 := Lib.hid (RSt.next H4.out ho hr); have HQ4 := Lib.hid hq; have HP5 := Lib.hid (rdN_le hq)
            clear ho hr hq
            have hs5 := set5of17 H5.out.x (.int .i64 a0) (.int .i64 a1) (.int .i64 a2) (.int .i64 a3) (.int .i64 a4')
            obtain ⟨w6, hw6⟩ : ∃ w6, w6 = (((((w5.setCell ⟨A + 1 + 1 + 1, 0, none⟩ (.int .i64 a0)).setCell ⟨A + 1 + 1 + 1, 1, none⟩ (.int .i64 a1)).setCell ⟨A + 1 + 1 + 1, 2, none⟩ (.int .i64 a2)).setCell ⟨A + 1 + 1 + 1, 3, none⟩ (.int .i64 a3)).setCell ⟨A + 1 + 1 + 1, 4, none⟩ (.int .i64 a4')) := ⟨_, rfl⟩
            rw [← hw6] at hs5
            have H6 := Lib.hid (RSt.store H5.out hs5.1 hs5.2); have HW6 := Lib.hid hw6
            clear hs5 hw6
            have x0 := H5.out.x.cell 0; have x1 := H5.out.x.cell 1; have x2 := H5.out.x.cell 2; have x3 := H5.out.x.cell 3; have x4 := H5.out.x.cell 4
            simp only [List.getElem?_toArray, List.getElem?_cons_zero, List.getElem?_cons_succ] at x0 x1 x2 x3 x4
            have f0 := H5.out.x.frozen 0; have f1 := H5.out.x.frozen 1; have f2 := H5.out.x.frozen 2; have f3 := H5.out.x.frozen 3; have f4 := H5.out.x.frozen 4
            go_upto_region 7 with fail
            rw [← HW6.out]
            clear x0 f0 x1 f1 x2 f2 x3 f3 x4 f4
            have HC5 := Lib.hid (prsome_any s p5 (A + 1 + 1) w6 hs HP5.out H6.out.rd)
            go_wp2_with fail
            refine HC5.out.mono ?_
            clear HC5
            cases hq : rdSome s p5 with
            | none =>
              rintro e w7 ⟨ho, rfl⟩
              have HF := Lib.hid (RSt.failed H6.out ho)
              have HRN : Hid (R = none) := Lib.hid (by rw [HE.out]; simp [rdCm, hq, HQ0.out, HQ1.out, HQ2.out, HQ3.out, HQ4.out])
              clear ho hq
              unfold pgave
              go_wp2
              refine leaves_cons (f := 69) (args := #[.pointer (some ⟨A + 1, 0, none⟩)]) (by simp) (by simp [go_sem]) ?_
              refine (pcaught_panicking (A + 1) 5 _ [] _ HF.out.1).mono ?_
              rintro e u' w'' ⟨rfl, rfl, rfl⟩
              refine leaves_end (res_read A (.int .i64 0) (.int .i64 5) _ _ rfl rfl rfl HF.out.2.2.1 HF.out.2.2.2) ?_
              refine ⟨?_, ?_⟩
              · rw [← HA.out]; exact HF.out.2.1
              · rw [HRN.out]; rfl
            | some x =>
              obtain ⟨v1, p6⟩ := x
              rintro e w7 ⟨ho, c1, rfl, hce, hci, hcs, hr⟩
              have H7O := Lib.hid ho.size; have H7 := Lib.hid (RSt.next H6.out ho hr); have HQ5 := Lib.hid hq; have HP6 := Lib.hid (rdSome_le hq)
              have hz6 : A + 1 + 1 + 1 < w6.heap.size := H6.out.x.lt
              have HCE := Lib.hid hce; have HCI := Lib.hid hci; have HCS := Lib.hid hcs
              obtain ⟨a4, b4, k4⟩ := hci.nslice
              obtain ⟨a5, b5, k5⟩ := hci.xslice
              have hag1 : c1.agg = .agg #[.int .i64 c1.k, .int .i64 c1.n, .float .f64 c1.f, .string c1.s, .slice a4 c1.ns.length b4, .slice a5 c1.xs.length b5] := by unfold Val.agg; rw [k4, k5]
              rw [hag1]
              have HK4 := Lib.hid k4; have HK5 := Lib.hid k5
              clear ho hr hq hce hci hcs k4 k5 hag1
              have HC6 := Lib.hid (prsome_any s p6 (A + 1 + 1) w7 hs HP6.out H7.out.rd)
              go_wp2_with fail
              refine HC6.out.mono ?_
              clear HC6
              cases hq : rdSome s p6 with
              | none =>
                rintro e w8 ⟨ho, rfl⟩
                have HF := Lib.hid (RSt.failed H7.out ho)
                have HRN : Hid (R = none) := Lib.hid (by rw [HE.out]; simp [rdCm, hq, HQ0.out, HQ1.out, HQ2.out, HQ3.out, HQ4.out, HQ5.out])
                clear ho hq
                unfold pgave
                go_wp2
                refine leaves_cons (f := 69) (args := #[.pointer (some ⟨A + 1, 0, none⟩)]) (by simp) (by simp [go_sem]) ?_
                refine (pcaught_panicking (A + 1) 5 _ [] _ HF.out.1).mono ?_
                rintro e u' w'' ⟨rfl, rfl, rfl⟩
                refine leaves_end (res_read A (.int .i64 0) (.int .i64 5) _ _ rfl rfl rfl HF.out.2.2.1 HF.out.2.2.2) ?_
                refine ⟨?_, ?_⟩
                · rw [← HA.out]; exact HF.out.2.1
                · rw [HRN.out]; rfl
              | some x =>
                obtain ⟨v2, p7⟩ := x
                rintro e w8 ⟨ho, c2, rfl, hde, hdi, hds, hr⟩
                have H8 := Lib.hid (RSt.next H7.out ho hr)
                have HRN : Hid (R = some (⟨a0, a1, a2, a3, a4', v1, v2⟩, p7)) := Lib.hid (by rw [HE.out]; simp [rdCm, hq, HQ0.out, HQ1.out, HQ2.out, HQ3.out, HQ4.out, HQ5.out])
                have hci8 : c1.In w8 := HCI.out.carryS HCS.out (fun b o hb hlt => only_cell ho (by have hb' : w6.heap.size ≤ b := hb; omega) hlt o) ho.size
                obtain ⟨d4, l4, g4⟩ := hdi.nslice
                obtain ⟨d5, l5, g5⟩ := hdi.xslice
                have hag2 : c2.agg = .agg #[.int .i64 c2.k, .int .i64 c2.n, .float .f64 c2.f, .string c2.s, .slice d4 c2.ns.length l4, .slice d5 c2.xs.length l5] := by unfold Val.agg; rw [g4, g5]
                rw [hag2]
                have hz7 : A + 1 + 1 + 1 < w7.heap.size := H7.out.x.lt
                have hst := set12of17 H8.out.x (.int .i64 c1.k) (.int .i64 c1.n) (.float .f64 c1.f) (.string c1.s) (.slice a4 c1.ns.length b4) (.slice a5 c1.xs.length b5) (.int .i64 c2.k) (.int .i64 c2.n) (.float .f64 c2.f) (.string c2.s) (.slice d4 c2.ns.length l4) (.slice d5 c2.xs.length l5)
                obtain ⟨w9, hw9⟩ : ∃ w9, w9 = ((((((((((((w8.setCell ⟨A + 1 + 1 + 1, 5, none⟩ (.int .i64 c1.k)).setCell ⟨A + 1 + 1 + 1, 6, none⟩ (.int .i64 c1.n)).setCell ⟨A + 1 + 1 + 1, 7, none⟩ (.float .f64 c1.f)).setCell ⟨A + 1 + 1 + 1, 8, none⟩ (.string c1.s)).setCell ⟨A + 1 + 1 + 1, 9, none⟩ (.slice a4 c1.ns.length b4)).setCell ⟨A + 1 + 1 + 1, 10, none⟩ (.slice a5 c1.xs.length b5)).setCell ⟨A + 1 + 1 + 1, 11, none⟩ (.int .i64 c2.k)).setCell ⟨A + 1 + 1 + 1, 12, none⟩ (.int .i64 c2.n)).setCell ⟨A + 1 + 1 + 1, 13, none⟩ (.float .f64 c2.f)).setCell ⟨A + 1 + 1 + 1, 14, none⟩ (.string c2.s)).setCell ⟨A + 1 + 1 + 1, 15, none⟩ (.slice d4 c2.ns.length l4)).setCell ⟨A + 1 + 1 + 1, 16, none⟩ (.slice d5 c2.xs.length l5)) := ⟨_, rfl⟩
                rw [← hw9] at hst
                have hci9 : c1.In w9 := hci8.carryS HCS.out (fun b o hb hlt => only_cell hst.2 (by have hb' : w6.heap.size ≤ b := hb; omega) hlt o) hst.2.size
                have hdi9 : c2.In w9 := hdi.carryS hds (fun b o hb hlt => only_cell hst.2 (by have hb' : w7.heap.size ≤ b := hb; omega) hlt o) hst.2.size
                have h67 : w6.heap.size ≤ w7.heap.size := H7O.out
                have H9 := Lib.hid (RSt.store H8.out hst.1 hst.2); have HW9 := Lib.hid hw9; have HCI9 := Lib.hid hci9; have HDI9 := Lib.hid hdi9; have HDS := Lib.hid hds; have HDE := Lib.hid hde; have G4 := Lib.hid g4; have G5 := Lib.hid g5
                clear ho hr hq hde hdi hds hci8 hag2 hst hw9 hci9 hdi9 g4 g5
                have x5 := H8.out.x.cell 5; have x6 := H8.out.x.cell 6; have x7 := H8.out.x.cell 7; have x8 := H8.out.x.cell 8; have x9 := H8.out.x.cell 9; have x10 := H8.out.x.cell 10; have x11 := H8.out.x.cell 11; have x12 := H8.out.x.cell 12; have x13 := H8.out.x.cell 13; have x14 := H8.out.x.cell 14; have x15 := H8.out.x.cell 15; have x16 := H8.out.x.cell 16
                simp only [List.getElem?_toArray, List.getElem?_cons_zero, List.getElem?_cons_succ] at x5 x6 x7 x8 x9 x10 x11 x12 x13 x14 x15 x16
                have f5 := H8.out.x.frozen 5; have f6 := H8.out.x.frozen 6; have f7 := H8.out.x.frozen 7; have f8 := H8.out.x.frozen 8; have f9 := H8.out.x.frozen 9; have f10 := H8.out.x.frozen 10; have f11 := H8.out.x.frozen 11; have f12 := H8.out.x.frozen 12; have f13 := H8.out.x.frozen 13; have f14 := H8.out.x.frozen 14; have f15 := H8.out.x.frozen 15; have f16 := H8.out.x.frozen 16
                go_upto_region 8 with fail
                rw [← HW9.out]
                clear x5 f5 x6 f6 x7 f7 x8 f8 x9 f9 x10 f10 x11 f11 x12 f12 x13 f13 x14 f14 x15 f15 x16 f16
                have hst := set17of17 (w := w9) H9.out.res (.int .i64 a0) (.int .i64 a1) (.int .i64 a2) (.int .i64 a3) (.int .i64 a4') (.int .i64 c1.k) (.int .i64 c1.n) (.float .f64 c1.f) (.string c1.s) (.slice a4 c1.ns.length b4) (.slice a5 c1.xs.length b5) (.int .i64 c2.k) (.int .i64 c2.n) (.float .f64 c2.f) (.string c2.s) (.slice d4 c2.ns.length l4) (.slice d5 c2.xs.length l5)
                obtain ⟨wA, hwA⟩ : ∃ wA, wA = (((((((((((((((((w9.setCell ⟨A, 0, none⟩ (.int .i64 a0)).setCell ⟨A, 1, none⟩ (.int .i64 a1)).setCell ⟨A, 2, none⟩ (.int .i64 a2)).setCell ⟨A, 3, none⟩ (.int .i64 a3)).setCell ⟨A, 4, none⟩ (.int .i64 a4')).setCell ⟨A, 5, none⟩ (.int .i64 c1.k)).setCell ⟨A, 6, none⟩ (.int .i64 c1.n)).setCell ⟨A, 7, none⟩ (.float .f64 c1.f)).setCell ⟨A, 8, none⟩ (.string c1.s)).setCell ⟨A, 9, none⟩ (.slice a4 c1.ns.length b4)).setCell ⟨A, 10, none⟩ (.slice a5 c1.xs.length b5)).setCell ⟨A, 11, none⟩ (.int .i64 c2.k)).setCell ⟨A, 12, none⟩ (.int .i64 c2.n)).setCell ⟨A, 13, none⟩ (.float .f64 c2.f)).setCell ⟨A, 14, none⟩ (.string c2.s)).setCell ⟨A, 15, none⟩ (.slice d4 c2.ns.length l4)).setCell ⟨A, 16, none⟩ (.slice d5 c2.xs.length l5)) := ⟨_, rfl⟩
                rw [← hwA] at hst
                have hXA : Blk wA (A + 1 + 1 + 1) 39 [.int .i64 a0, .int .i64 a1, .int .i64 a2, .int .i64 a3, .int .i64 a4', .int .i64 c1.k, .int .i64 c1.n, .float .f64 c1.f, .string c1.s, .slice a4 c1.ns.length b4, .slice a5 c1.xs.length b5, .int .i64 c2.k, .int .i64 c2.n, .float .f64 c2.f, .string c2.s, .slice d4 c2.ns.length l4, .slice d5 c2.xs.length l5].toArray := Blk.grown (w := w9) H9.out.x hst.2 (by simp <;> omega)
                have hRA : PRd wA (A + 1 + 1) s p7 := Blk.grown (w := w9) H9.out.rd hst.2 (by simp <;> omega)
                have hEA : Blk wA (A + 1) 25 #[.int .i64 0] := Blk.grown (w := w9) H9.out.err hst.2 (by simp)
                have hBA : Below A w wA := Go.Proofs.YtaamihdibpioaaaGreat.Below.only H9.out.below hst.2 (Nat.le_refl _) (Nat.le_of_lt H9.out.res.lt)
                have hcA : c1.In wA := HCI9.out.carryS HCS.out (fun b o hb hlt => only_cell hst.2 (by have hb' : w6.heap.size ≤ b := hb; omega) hlt o) hst.2.size
                have hdA : c2.In wA := HDI9.out.carryS HDS.out (fun b o hb hlt => only_cell hst.2 (by have hb' : w7.heap.size ≤ b := hb; omega) hlt o) hst.2.size
                obtain ⟨wF, hwF⟩ : ∃ wF, wF = wA.setCell ⟨A + 1, 0, none⟩ (.int .i64 0) := ⟨_, rfl⟩
                have hEF : Blk wF (A + 1) 25 #[.int .i64 0] := by rw [hwF]; exact hEA.set_ 0 _
                have hAF : Blk wF A 39 [.int .i64 a0, .int .i64 a1, .int .i64 a2, .int .i64 a3, .int .i64 a4', .int .i64 c1.k, .int .i64 c1.n, .float .f64 c1.f, .string c1.s, .slice a4 c1.ns.length b4, .slice a5 c1.xs.length b5, .int .i64 c2.k, .int .i64 c2.n, .float .f64 c2.f, .string c2.s, .slice d4 c2.ns.length l4, .slice d5 c2.xs.length l5].toArray := by rw [hwF]; exact Blk.far hst.1 (p := ⟨A + 1, 0, none⟩) (by simp) _
                have hBF : Below A w wF := by rw [hwF]; exact hBA.setCell (p := ⟨A + 1, 0, none⟩) (by simp) _
                have hcF : c1.In wF := hcA.carryS HCS.out (fun b o hb hlt => by rw [hwF]; exact World.cell?_setCell_other wA ⟨A + 1, 0, none⟩ ⟨b, o, none⟩ _ (fun e => by injection e with e _; have hb' : w6.heap.size ≤ b := hb; omega)) (by rw [hwF]; simp [World.setCell])
                have hdF : c2.In wF := hdA.carryS HDS.out (fun b o hb hlt => by rw [hwF]; exact World.cell?_setCell_other wA ⟨A + 1, 0, none⟩ ⟨b, o, none⟩ _ (fun e => by injection e with e _; have hb' : w7.heap.size ≤ b := hb; omega)) (by rw [hwF]; simp [World.setCell])
                have HWA := Lib.hid hwA; have HXA := Lib.hid hXA; have HRA := Lib.hid hRA; have HEA := Lib.hid hEA; have HWF := Lib.hid hwF; have HEF := Lib.hid hEF; have HAF := Lib.hid hAF; have HBF := Lib.hid hBF; have HCF := Lib.hid hcF; have HDF := Lib.hid hdF
                have HX9 := Lib.hid (show Blk w9.drew (A + 1 + 1 + 1) 39 [.int .i64 a0, .int .i64 a1, .int .i64 a2, .int .i64 a3, .int .i64 a4', .int .i64 c1.k, .int .i64 c1.n, .float .f64 c1.f, .string c1.s, .slice a4 c1.ns.length b4, .slice a5 c1.xs.length b5, .int .i64 c2.k, .int .i64 c2.n, .float .f64 c2.f, .string c2.s, .slice d4 c2.ns.length l4, .slice d5 c2.xs.length l5].toArray ∧ PRd w9.drew (A + 1 + 1) s p7 from ⟨H9.out.x, H9.out.rd⟩)
                have HR9 : Hid (Blk w9 A 39 [.int .i64 0, .int .i64 0, .int .i64 0, .int .i64 0, .int .i64 0, .int .i64 0, .int .i64 0, .float .f64 0, .string ⟨#[]⟩, .slice none 0 0, .slice none 0 0, .int .i64 0, .int .i64 0, .float .f64 0, .string ⟨#[]⟩, .slice none 0 0, .slice none 0 0].toArray) := Lib.hid H9.out.res
                clear hst hwA hXA hRA hEA hBA hcA hdA hwF hEF hAF hBF hcF hdF
                refine wp_region_noPanic ?_
                refine wp_region_held_drew (S := (fun Y => Blk Y (A + 1 + 1 + 1) 39 [.int .i64 a0, .int .i64 a1, .int .i64 a2, .int .i64 a3, .int .i64 a4', .int .i64 c1.k, .int .i64 c1.n, .float .f64 c1.f, .string c1.s, .slice a4 c1.ns.length b4, .slice a5 c1.xs.length b5, .int .i64 c2.k, .int .i64 c2.n, .float .f64 c2.f, .string c2.s, .slice d4 c2.ns.length l4, .slice d5 c2.xs.length l5].toArray ∧ PRd Y (A + 1 + 1) s p7)) (by kernel_rfl) (HX9.out) (fun hHeld => ?_)
                refine held_take (i := 0) (d := some 45) (v := ?_) rfl rfl (by kernel_rfl) (by kernel_rfl) (by kernel_rfl) (fun _ _ _ h => h) (by rfl) ?_ hHeld ?_
                rotate_left
                · (intro w hSw; (try dsimp only at hSw); have hX := hSw.1; have x0 := hX.cell 0; have x1 := hX.cell 1; have x2 := hX.cell 2; have x3 := hX.cell 3; have x4 := hX.cell 4; have x5 := hX.cell 5; have x6 := hX.cell 6; have x7 := hX.cell 7; have x8 := hX.cell 8; have x9 := hX.cell 9; have x10 := hX.cell 10; have x11 := hX.cell 11; have x12 := hX.cell 12; have x13 := hX.cell 13; have x14 := hX.cell 14; have x15 := hX.cell 15; have x16 := hX.cell 16; simp only [List.getElem?_toArray, List.getElem?_cons_zero, List.getElem?_cons_succ] at x0 x1 x2 x3 x4 x5 x6 x7 x8 x9 x10 x11 x12 x13 x14 x15 x16; have h1 := hSw.2.cell 1; simp at h1; clear hX; go_simp; try with_reducible rfl)
                try simp only [Act.put, List.setIfInBounds_toArray, List.set_cons_zero, List.set_cons_succ]
                refine held_take (i := 1) (d := some 46) (v := ?_) rfl rfl (by kernel_rfl) (by kernel_rfl) (by kernel_rfl) (fun _ _ _ h => h) (by rfl) ?_ hHeld ?_
                rotate_left
                · (intro w hSw; (try dsimp only at hSw); have hX := hSw.1; have x0 := hX.cell 0; have x1 := hX.cell 1; have x2 := hX.cell 2; have x3 := hX.cell 3; have x4 := hX.cell 4; have x5 := hX.cell 5; have x6 := hX.cell 6; have x7 := hX.cell 7; have x8 := hX.cell 8; have x9 := hX.cell 9; have x10 := hX.cell 10; have x11 := hX.cell 11; have x12 := hX.cell 12; have x13 := hX.cell 13; have x14 := hX.cell 14; have x15 := hX.cell 15; have x16 := hX.cell 16; simp only [List.getElem?_toArray, List.getElem?_cons_zero, List.getElem?_cons_succ] at x0 x1 x2 x3 x4 x5 x6 x7 x8 x9 x10 x11 x12 x13 x14 x15 x16; have h1 := hSw.2.cell 1; simp at h1; clear hX; go_simp; try with_reducible rfl)
                try simp only [Act.put, List.setIfInBounds_toArray, List.set_cons_zero, List.set_cons_succ]
                refine held_take (i := 2) (d := some 47) (v := ?_) rfl rfl (by kernel_rfl) (by kernel_rfl) (by kernel_rfl) (fun _ _ _ h => h) (by rfl) ?_ hHeld ?_
                rotate_left
                · (intro w hSw; (try dsimp only at hSw); have hX := hSw.1; have x0 := hX.cell 0; have x1 := hX.cell 1; have x2 := hX.cell 2; have x3 := hX.cell 3; have x4 := hX.cell 4; have x5 := hX.cell 5; have x6 := hX.cell 6; have x7 := hX.cell 7; have x8 := hX.cell 8; have x9 := hX.cell 9; have x10 := hX.cell 10; have x11 := hX.cell 11; have x12 := hX.cell 12; have x13 := hX.cell 13; have x14 := hX.cell 14; have x15 := hX.cell 15; have x16 := hX.cell 16; simp only [List.getElem?_toArray, List.getElem?_cons_zero, List.getElem?_cons_succ] at x0 x1 x2 x3 x4 x5 x6 x7 x8 x9 x10 x11 x12 x13 x14 x15 x16; have h1 := hSw.2.cell 1; simp at h1; clear hX; go_simp; try with_reducible rfl)
                try simp only [Act.put, List.setIfInBounds_toArray, List.set_cons_zero, List.set_cons_succ]
                refine held_take (i := 3) (d := some 48) (v := ?_) rfl rfl (by kernel_rfl) (by kernel_rfl) (by kernel_rfl) (fun _ _ _ h => h) (by rfl) ?_ hHeld ?_
                rotate_left
                · (intro w hSw; (try dsimp only at hSw); have hX := hSw.1; have x0 := hX.cell 0; have x1 := hX.cell 1; have x2 := hX.cell 2; have x3 := hX.cell 3; have x4 := hX.cell 4; have x5 := hX.cell 5; have x6 := hX.cell 6; have x7 := hX.cell 7; have x8 := hX.cell 8; have x9 := hX.cell 9; have x10 := hX.cell 10; have x11 := hX.cell 11; have x12 := hX.cell 12; have x13 := hX.cell 13; have x14 := hX.cell 14; have x15 := hX.cell 15; have x16 := hX.cell 16; simp only [List.getElem?_toArray, List.getElem?_cons_zero, List.getElem?_cons_succ] at x0 x1 x2 x3 x4 x5 x6 x7 x8 x9 x10 x11 x12 x13 x14 x15 x16; have h1 := hSw.2.cell 1; simp at h1; clear hX; go_simp; try with_reducible rfl)
                try simp only [Act.put, List.setIfInBounds_toArray, List.set_cons_zero, List.set_cons_succ]
                refine held_take (i := 4) (d := some 49) (v := ?_) rfl rfl (by kernel_rfl) (by kernel_rfl) (by kernel_rfl) (fun _ _ _ h => h) (by rfl) ?_ hHeld ?_
                rotate_left
                · (intro w hSw; (try dsimp only at hSw); have hX := hSw.1; have x0 := hX.cell 0; have x1 := hX.cell 1; have x2 := hX.cell 2; have x3 := hX.cell 3; have x4 := hX.cell 4; have x5 := hX.cell 5; have x6 := hX.cell 6; have x7 := hX.cell 7; have x8 := hX.cell 8; have x9 := hX.cell 9; have x10 := hX.cell 10; have x11 := hX.cell 11; have x12 := hX.cell 12; have x13 := hX.cell 13; have x14 := hX.cell 14; have x15 := hX.cell 15; have x16 := hX.cell 16; simp only [List.getElem?_toArray, List.getElem?_cons_zero, List.getElem?_cons_succ] at x0 x1 x2 x3 x4 x5 x6 x7 x8 x9 x10 x11 x12 x13 x14 x15 x16; have h1 := hSw.2.cell 1; simp at h1; clear hX; go_simp; try with_reducible rfl)
                try simp only [Act.put, List.setIfInBounds_toArray, List.set_cons_zero, List.set_cons_succ]
                have r0 := HR9.out.cell 0; have r1 := HR9.out.cell 1; have r2 := HR9.out.cell 2; have r3 := HR9.out.cell 3; have r4 := HR9.out.cell 4; have r5 := HR9.out.cell 5; have r6 := HR9.out.cell 6; have r7 := HR9.out.cell 7; have r8 := HR9.out.cell 8; have r9 := HR9.out.cell 9; have r10 := HR9.out.cell 10; have r11 := HR9.out.cell 11; have r12 := HR9.out.cell 12; have r13 := HR9.out.cell 13; have r14 := HR9.out.cell 14; have r15 := HR9.out.cell 15; have r16 := HR9.out.cell 16
                simp only [List.getElem?_toArray, List.getElem?_cons_zero, List.getElem?_cons_succ] at r0 r1 r2 r3 r4 r5 r6 r7 r8 r9 r10 r11 r12 r13 r14 r15 r16
                have f0 := HR9.out.frozen 0; have f1 := HR9.out.frozen 1; have f2 := HR9.out.frozen 2; have f3 := HR9.out.frozen 3; have f4 := HR9.out.frozen 4; have f5 := HR9.out.frozen 5; have f6 := HR9.out.frozen 6; have f7 := HR9.out.frozen 7; have f8 := HR9.out.frozen 8; have f9 := HR9.out.frozen 9; have f10 := HR9.out.frozen 10; have f11 := HR9.out.frozen 11; have f12 := HR9.out.frozen 12; have f13 := HR9.out.frozen 13; have f14 := HR9.out.frozen 14; have f15 := HR9.out.frozen 15; have f16 := HR9.out.frozen 16
                refine held_only (i := 5) (by kernel_rfl) rfl (by rfl) (fun K hK => ?_)
                go_simp
                rw [← HWA.out]
                refine hK.out _ _ ⟨Blk.drew HXA.out, Blk.drew HRA.out⟩ (fun hHeld => ?_)
                clear hK K
                try simp only [Act.put, List.setIfInBounds_toArray, List.set_cons_zero, List.set_cons_succ]
                clear r0 f0 r1 f1 r2 f2 r3 f3 r4 f4 r5 f5 r6 f6 r7 f7 r8 f8 r9 f9 r10 f10 r11 f11 r12 f12 r13 f13 r14 f14 r15 f15 r16 f16
                refine held_take (i := 6) (d := some 5) (v := ?_) rfl rfl (by kernel_rfl) (by kernel_rfl) (by kernel_rfl) (fun _ _ _ h => h) (by rfl) ?_ hHeld ?_
                rotate_left
                · (intro w hSw; (try dsimp only at hSw); go_simp; try with_reducible rfl)
                try simp only [Act.put, List.setIfInBounds_toArray, List.set_cons_zero, List.set_cons_succ]
                have e0 := HEA.out.cell 0
                have f0 := HEA.out.frozen 0
                simp at e0
                refine held_only (i := 7) (by kernel_rfl) rfl (by rfl) (fun K hK => ?_)
                go_simp
                rw [← HWF.out]
                refine hK.out _ _ ⟨by rw [HWF.out]; exact (HXA.out.far (p := ⟨A + 1, 0, none⟩) (by simp <;> omega) _).drew, by rw [HWF.out]; exact (Blk.far HRA.out (p := ⟨A + 1, 0, none⟩) (by simp <;> omega) _).drew⟩ (fun hHeld => ?_)
                clear hK K
                try simp only [Act.put, List.setIfInBounds_toArray, List.set_cons_zero, List.set_cons_succ]
                clear e0 f0
                refine wpAnyH_done (by kernel_rfl) ?_ _
                refine NoPanic.normal ?_
                go_wp2
                refine leaves_cons (f := 69) (args := #[.pointer (some ⟨A + 1, 0, none⟩)]) (by simp) (by simp [go_sem]) ?_
                refine (pcaught_idle _ _).mono ?_
                rintro e u' w'' ⟨rfl, rfl, rfl⟩
                refine leaves_end (res_read A (.int .i64 p7) (.int .i64 0) _ _ rfl rfl rfl HAF.out.drew HEF.out.drew) ?_
                refine ⟨?_, ?_⟩
                · rw [← HA.out]; exact HBF.out.drew
                · rw [HRN.out]
                  refine ⟨⟨a0, a1, a2, a3, a4', c1, c2⟩, ?_, ?_, ⟨?_, HCF.out.drewN 1, HDF.out.drewN 1⟩, HCS.out.mono (fun b hb => ?_), HDS.out.mono (fun b hb => ?_)⟩
                  · unfold Cm.agg Cm.cells Val.cells; rw [HK4.out, HK5.out, G4.out, G5.out]; rfl
                  · unfold Cm.erase; rw [HCE.out, HDE.out]
                  · intro y hy
                    have b0 := rdN_small HQ0.out; have b1 := rdN_small HQ1.out; have b2 := rdN_small HQ2.out; have b3 := rdN_small HQ3.out; have b4 := rdN_small HQ4.out
                    simp only [Cm.ints, List.mem_cons, List.not_mem_nil, or_false] at hy
                    rcases hy with rfl | rfl | rfl | rfl | rfl <;> exact ⟨by omega, by omega⟩
                  · have hb' : w6.heap.size ≤ b := hb
                    have := HA.out
                    omega
                  · have hb' : w7.heap.size ≤ b := hb
                    have := HA.out
                    omega
end Go.Proofs.YtaamihdibpioaaaGreat.Pk
