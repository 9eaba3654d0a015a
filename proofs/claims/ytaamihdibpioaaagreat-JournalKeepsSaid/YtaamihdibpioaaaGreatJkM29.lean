/- codec.ReadValue and codec.ReadType at any bytes, from any place on (printed by wip/gen_rdf.py). -/
import Derived.Test.YtaamihdibpioaaaGreatJkM17
import Derived.Test.YtaamihdibpioaaaGreatJkM21
import Derived.Test.YtaamihdibpioaaaGreatJkM26
import Derived.Test.YtaamihdibpioaaaGreatJkM28
namespace Go.Proofs.YtaamihdibpioaaaGreat
set_option linter.unusedVariables false
open Go.RowKit

theorem only_cell {W W' : World} {g b : Nat} (h : Only W W' g) (hb : b ≠ g) (hlt : b < W.heap.size) (o : Nat) : W'.cell? ⟨b, o, none⟩ = W.cell? ⟨b, o, none⟩ :=
  World.cell?_of_block (a := ⟨b, o, none⟩) (h.block b hlt (by simp; exact hb))
theorem below_only {w w1 w2 : World} {g : Nat} (h : Only w w1 g) (k : Below w1.heap.size w1 w2) : Only w w2 g := h.trans (Only.of_below k g)

theorem enter_val (args : Array Value) (W : World) : (callFunc 152 args).run Tryz.prog W = .ok (.enter 152 args) W := run_enter Tryz.func152 (by kernel_rfl) rfl args W
/-- A value from place p on that is right, and the place behind it; or the error. -/
def readV (s : ByteArray) (p : Nat) : Except Int (Val × Nat) :=
  match rdV s 12 p 0 with
  | .error k => .error k
  | .ok (v, q, _) => bif v.RightB then .ok (v, q) else .error 5
theorem readV_lt {s : ByteArray} {p q : Nat} {v : Val} (hp : p ≤ s.size) (h : readV s p = .ok (v, q)) : p < q ∧ q ≤ s.size ∧ v.RightB = true := by
  unfold readV at h
  cases hu : rdV s 12 p 0 with
  | error k => rw [hu] at h; cases h
  | ok x =>
    obtain ⟨v', q', m'⟩ := x
    have := rdV_lt s 12 p 0 v' q' m' hp (by omega) hu
    rw [hu] at h
    simp only at h
    cases hr : v'.RightB with
    | false => rw [hr] at h; cases h
    | true =>
      rw [hr] at h
      simp only [cond_true, Except.ok.injEq, Prod.mk.injEq] at h
      obtain ⟨rfl, rfl⟩ := h
      exact ⟨this.1, this.2.1, hr⟩
/-- A value's cells lie in block m, and what it leads to lies from block B on. -/
def ValAt (W : World) (m B : Nat) (v : Val) : Prop := ∃ u : Val, Blk W m 37 u.cells.toArray ∧ u.erase = v ∧ u.In W ∧ u.Sep (fun b => B ≤ b)
theorem ValAt.apart {m b : Nat} {v : Val} (h : m < b) : Apart2 b (fun W => ValAt W m (b + 2) v) := fun W p x hp ⟨u, h1, h2, h3, h4⟩ =>
  ⟨u, Blk.far h1 (by rcases hp with h' | h' <;> omega) x, h2, h3.carryS h4 (fun c o hc hlt => World.cell?_setCell_other W p ⟨c, o, none⟩ x (fun e => by subst e; have hc' : b + 2 ≤ c := hc; have hp' : c = b ∨ c = b + 1 := hp; omega)) (by simp [World.setCell]), h4⟩

set_option maxHeartbeats 2000000 in
set_option maxRecDepth 100000 in
theorem clo_val_no (s : ByteArray) (p g m : Nat) (k : Int) (w : World) (Q : World → Prop) (hs : s.size ≤ 100000) (hp : p ≤ s.size) (h : At w g s p 0) (hm : Blk w m 37 #[.int .i64 0, .int .i64 0, .float .f64 0, .string ⟨#[]⟩, .slice none 0 0, .slice none 0 0]) (hgm : g ≠ m) (hu : rdV s 12 p 0 = .error k) :
    Calls Tryz.prog 152 #[.pointer (some ⟨g, 0, none⟩), .pointer (some ⟨m, 0, none⟩)] w fun e w' => CloDid (.error k) s g m Q (fun W => Blk W m 37 #[.int .i64 0, .int .i64 0, .float .f64 0, .string ⟨#[]⟩, .slice none 0 0, .slice none 0 0]) w e w' := by
  have hr := rvalue_any s hs 12 1 p 0 g w (by omega) hp (by omega) h
  rw [hu] at hr
  have HR := Lib.hid hr; have HM := Lib.hid hm
  clear hr hu h hm
  go_enter Tryz.func152, Tryz.ntmps152
  go_wp2_with fail
  refine HR.out.mono ?_
  rintro e w2 ⟨ho2, rfl⟩
  have HO := Lib.hid ho2
  clear ho2
  unfold gives
  go_wp2
  exact ⟨rfl, w2, HO.out, Only.refl w2 m, rfl, HM.out.grown HO.out (by simp; omega)⟩

set_option maxHeartbeats 2000000 in
set_option maxRecDepth 100000 in
theorem clo_val_bad (s : ByteArray) (p g m q n : Nat) (v : Val) (w : World) (Q : World → Prop) (hs : s.size ≤ 100000) (hp : p ≤ s.size) (h : At w g s p 0) (hm : Blk w m 37 #[.int .i64 0, .int .i64 0, .float .f64 0, .string ⟨#[]⟩, .slice none 0 0, .slice none 0 0]) (hgm : g ≠ m) (hu : rdV s 12 p 0 = .ok (v, q, n)) (hv : v.RightB = false) :
    Calls Tryz.prog 152 #[.pointer (some ⟨g, 0, none⟩), .pointer (some ⟨m, 0, none⟩)] w fun e w' => CloDid (.error 5) s g m Q (fun W => Blk W m 37 #[.int .i64 0, .int .i64 0, .float .f64 0, .string ⟨#[]⟩, .slice none 0 0, .slice none 0 0]) w e w' := by
  have hsf := run_store_flt
  have hr := rvalue_any s hs 12 1 p 0 g w (by omega) hp (by omega) h
  rw [hu] at hr
  have HR := Lib.hid hr; have HM := Lib.hid hm; have HV := Lib.hid hv
  clear hr hu h hm hv
  go_enter Tryz.func152, Tryz.ntmps152
  go_wp2_with fail
  refine HR.out.mono ?_
  rintro e w1 ⟨ho1, u, rfl, hue, hui, hus, ha1⟩
  obtain ⟨a4, b4, k4⟩ := hui.nslice
  obtain ⟨a5, b5, k5⟩ := hui.xslice
  have hb1 := PVal.new w1 u 37 hui
  have hri := rightf_any u (w1.alloc (.cells u.cells.toArray 37)) hb1.in
  rw [show u.RightB = false from by rw [← Val.RightB_erase, hue]; exact HV.out] at hri
  have ho2 := ho1.alloc (.cells u.cells.toArray 37)
  obtain ⟨W1, hW1⟩ : ∃ W1, W1 = w1.alloc (.cells u.cells.toArray 37) := ⟨_, rfl⟩
  rw [← hW1] at hri ho2
  unfold Val.cells at hW1
  unfold Val.agg at hri ⊢
  rw [k4, k5] at hri hW1 ⊢
  have HRI := Lib.hid hri; have HO2 := Lib.hid ho2; have HW1 := Lib.hid hW1; have HM2 := Lib.hid (HM.out.grown ho2 (by simp; omega))
  clear hri ho2 hW1 hb1 ho1 hui hus ha1 hue k4 k5 HM HR
  go_upto_region 1 with fail
  rw [← HW1.out]
  have hb := Blk.new w1 37 #[.int .i64 u.k, .int .i64 u.n, .float .f64 u.f, .string u.s, .slice a4 u.ns.length b4, .slice a5 u.xs.length b5]
  rw [← HW1.out] at hb
  have bb0 := hb.cell 0; have bb1 := hb.cell 1; have bb2 := hb.cell 2; have bb3 := hb.cell 3; have bb4 := hb.cell 4; have bb5 := hb.cell 5
  simp only [List.getElem?_toArray, List.getElem?_cons_zero, List.getElem?_cons_succ] at bb0 bb1 bb2 bb3 bb4 bb5
  clear hb
  go_wp2_with fail
  refine HRI.out.mono ?_
  rintro e w2 ⟨rfl, hb2⟩
  have HO3 := Lib.hid (below_only HO2.out hb2)
  have HM3 := Lib.hid (HM2.out.below hb2 HM2.out.lt)
  clear hb2
  go_wp2_with fail
  refine (must_false _ _ _ rfl).mono ?_
  rintro e w3 ⟨rfl, rfl⟩
  go_wp2
  exact ⟨rfl, w2, HO3.out, Only.refl w2 m, rfl, HM3.out⟩

set_option maxHeartbeats 2000000 in
set_option maxRecDepth 100000 in
theorem clo_val_ok (s : ByteArray) (p g m q n B : Nat) (v : Val) (w : World) (Z : World → Prop) (hs : s.size ≤ 100000) (hp : p ≤ s.size) (h : At w g s p 0) (hm : Blk w m 37 #[.int .i64 0, .int .i64 0, .float .f64 0, .string ⟨#[]⟩, .slice none 0 0, .slice none 0 0]) (hgm : g ≠ m) (hB : B + 3 = w.heap.size) (hmB : m < B) (hu : rdV s 12 p 0 = .ok (v, q, n)) (hv : v.RightB = true) :
    Calls Tryz.prog 152 #[.pointer (some ⟨g, 0, none⟩), .pointer (some ⟨m, 0, none⟩)] w fun e w' => CloDid (.ok q) s g m (fun W => ValAt W m (B + 2) v) Z w e w' := by
  have hsf := run_store_flt
  have hr := rvalue_any s hs 12 1 p 0 g w (by omega) hp (by omega) h
  rw [hu] at hr
  have HR := Lib.hid hr; have HM := Lib.hid hm; have HV := Lib.hid hv
  clear hr hu h hm hv
  go_enter Tryz.func152, Tryz.ntmps152
  go_wp2_with fail
  refine HR.out.mono ?_
  rintro e w1 ⟨ho1, u, rfl, hue, hui, hus, ha1⟩
  obtain ⟨a4, b4, k4⟩ := hui.nslice
  obtain ⟨a5, b5, k5⟩ := hui.xslice
  have hb1 := PVal.new w1 u 37 hui
  have hri := rightf_any u (w1.alloc (.cells u.cells.toArray 37)) hb1.in
  rw [show u.RightB = true from by rw [← Val.RightB_erase, hue]; exact HV.out] at hri
  have ho2 := ho1.alloc (.cells u.cells.toArray 37)
  obtain ⟨W1, hW1⟩ : ∃ W1, W1 = w1.alloc (.cells u.cells.toArray 37) := ⟨_, rfl⟩
  rw [← hW1] at hri ho2
  have hui1 := hui.below (w' := W1) (by rw [hW1]; exact (Below.refl _ _).alloc (Nat.le_refl _) _)
  have ha2 : At W1 g s q n := by rw [hW1]; exact Blk.alloc ha1 _
  have hub : [.int .i64 u.k, .int .i64 u.n, .float .f64 u.f, .string u.s, .slice a4 u.ns.length b4, .slice a5 u.xs.length b5] = u.cells := by unfold Val.cells; rw [k4, k5]
  unfold Val.cells at hW1
  unfold Val.agg at hri ⊢
  rw [k4, k5] at hri hW1 ⊢
  have HRI := Lib.hid hri; have HO2 := Lib.hid ho2; have HW1 := Lib.hid hW1; have HM2 := Lib.hid (HM.out.grown ho2 (by simp; omega)); have HUI := Lib.hid hui1; have HUS := Lib.hid hus; have HUE := Lib.hid hue; have HUB := Lib.hid hub
  have HA2 := Lib.hid ha2
  have hz1 : w.heap.size ≤ w1.heap.size := ho1.size
  clear hri ho2 hW1 hb1 ho1 hui hui1 hus ha1 ha2 hue hub k4 k5 HM HR
  go_upto_region 1 with fail
  rw [← HW1.out]
  have hb := Blk.new w1 37 #[.int .i64 u.k, .int .i64 u.n, .float .f64 u.f, .string u.s, .slice a4 u.ns.length b4, .slice a5 u.xs.length b5]
  rw [← HW1.out] at hb
  have HBT := Lib.hid hb
  have bb0 := hb.cell 0; have bb1 := hb.cell 1; have bb2 := hb.cell 2; have bb3 := hb.cell 3; have bb4 := hb.cell 4; have bb5 := hb.cell 5
  simp only [List.getElem?_toArray, List.getElem?_cons_zero, List.getElem?_cons_succ] at bb0 bb1 bb2 bb3 bb4 bb5
  clear hb
  go_wp2_with fail
  refine HRI.out.mono ?_
  rintro e w2 ⟨rfl, hb2⟩
  have HO3 := Lib.hid (below_only HO2.out hb2)
  have HM3 := Lib.hid (HM2.out.below hb2 HM2.out.lt)
  have HA3 := Lib.hid (HA2.out.below hb2 HA2.out.lt)
  have HUI3 := Lib.hid (HUI.out.below hb2)
  have HBT3 := Lib.hid (HBT.out.below hb2 HBT.out.lt)
  clear hb2 HRI HO2 HM2 HA2 HUI HBT HW1
  clear bb0 bb1 bb2 bb3 bb4 bb5
  go_wp2_with fail
  refine (must_true _ _ _ rfl).mono ?_
  rintro e w3 ⟨rfl, rfl⟩
  have hb := HBT3.out
  have bb0 := hb.cell 0; have bb1 := hb.cell 1; have bb2 := hb.cell 2; have bb3 := hb.cell 3; have bb4 := hb.cell 4; have bb5 := hb.cell 5
  simp only [List.getElem?_toArray, List.getElem?_cons_zero, List.getElem?_cons_succ] at bb0 bb1 bb2 bb3 bb4 bb5
  have hc := HM3.out
  have c0 := hc.cell 0; have c1 := hc.cell 1; have c2 := hc.cell 2; have c3 := hc.cell 3; have c4 := hc.cell 4; have c5 := hc.cell 5
  have f0 := hc.frozen 0; have f1 := hc.frozen 1; have f2 := hc.frozen 2; have f3 := hc.frozen 3; have f4 := hc.frozen 4; have f5 := hc.frozen 5
  simp only [List.getElem?_toArray, List.getElem?_cons_zero, List.getElem?_cons_succ] at c0 c1 c2 c3 c4 c5
  clear hb hc
  obtain ⟨WF, hWF⟩ : ∃ WF, WF = ((((((w2.setCell ⟨m, 0, none⟩ (.int .i64 u.k)).setCell ⟨m, 1, none⟩ (.int .i64 u.n)).setCell ⟨m, 2, none⟩ (.float .f64 u.f)).setCell ⟨m, 3, none⟩ (.string u.s)).setCell ⟨m, 4, none⟩ (.slice a4 u.ns.length b4)).setCell ⟨m, 5, none⟩ (.slice a5 u.xs.length b5)) := ⟨_, rfl⟩
  have HWF := Lib.hid hWF
  clear hWF
  go_wp2_with fail
  rw [← HWF.out]
  go_end0
  have hst := stored6' HM3.out (.int .i64 u.k) (.int .i64 u.n) (.float .f64 u.f) (.string u.s) (.slice a4 u.ns.length b4) (.slice a5 u.xs.length b5)
  rw [← HWF.out] at hst
  have hne : g ≠ m := hgm
  refine ⟨w2, HO3.out, hst.2, rfl, ⟨n, Blk.grown HA3.out hst.2 (by simp; exact hne)⟩, u, ?_, HUE.out, ?_, HUS.out.mono (fun b hb => by omega)⟩
  · rw [← HUB.out]; exact hst.1
  · exact HUI3.out.carryS (HUS.out.mono (T := fun b => B + 2 ≤ b) (fun b hb => by omega)) (fun b o hb hlt => only_cell hst.2 (by omega) hlt o) hst.2.size

def ReadVTold (r : Except Int (Val × Nat)) (w : World) (e : Ending) (w' : World) : Prop :=
  Below w.heap.size w w' ∧ match r with
    | .ok (v, q) => ∃ u : Val, e = .returned (.tuple #[u.agg, .int .i64 q, .int .i64 0]) ∧ u.erase = v ∧ u.In w'
    | .error k => e = .returned (.tuple #[Val.zero.agg, .int .i64 0, .int .i64 k])

set_option maxHeartbeats 2000000 in
set_option maxRecDepth 100000 in
theorem readval_err (s : ByteArray) (at_ k : Int) (w : World)
    (hr : ∀ W, Below w.heap.size w W → W.heap.size = w.heap.size + 1 → Blk W w.heap.size 37 #[.int .i64 0, .int .i64 0, .float .f64 0, .string ⟨#[]⟩, .slice none 0 0, .slice none 0 0] → Calls Tryz.prog 124 #[.string s, .int .i64 at_, .func (Fn.func 152) #[] #[.pointer (some ⟨w.heap.size, 0, none⟩)]] W fun e w' => e = .returned (.tuple #[.int .i64 0, .int .i64 k]) ∧ Only W w' w.heap.size ∧ Blk w' w.heap.size 37 #[.int .i64 0, .int .i64 0, .float .f64 0, .string ⟨#[]⟩, .slice none 0 0, .slice none 0 0]) :
    Calls Tryz.prog 127 #[.string s, .int .i64 at_] w fun e w' => ReadVTold (.error k) w e w' := by
  have hmf : ∀ (fn : Fn) (first cap : Array Value) (w : World), (Instr.makeFunc fn first cap).run Tryz.prog w = .ok (.func fn first cap) w := fun _ _ _ _ => rfl
  have hsf := run_store_flt
  obtain ⟨W, hW⟩ : ∃ W, W = w.alloc (.cells #[.int .i64 0, .int .i64 0, .float .f64 0, .string ⟨#[]⟩, .slice none 0 0, .slice none 0 0] 37) := ⟨_, rfl⟩
  have bm : Blk W w.heap.size 37 #[.int .i64 0, .int .i64 0, .float .f64 0, .string ⟨#[]⟩, .slice none 0 0, .slice none 0 0] := by rw [hW]; exact Blk.new w 37 _
  have hB : Below w.heap.size w W := by rw [hW]; exact (Below.refl _ _).alloc (Nat.le_refl _) _
  have hr' := hr W hB (by rw [hW]; simp) bm
  have HW := Lib.hid hW; have HB := Lib.hid hB; have HR := Lib.hid hr'
  clear hW bm hB hr hr'
  go_enter Tryz.func127, Tryz.ntmps127
  go_wp2_with fail
  rw [← HW.out]
  refine HR.out.mono ?_
  rintro e w2 ⟨rfl, ho, hc⟩
  have HO := Lib.hid ho; have HC := Lib.hid hc
  have c0 := hc.cell 0; have c1 := hc.cell 1; have c2 := hc.cell 2; have c3 := hc.cell 3; have c4 := hc.cell 4; have c5 := hc.cell 5
  have f0 := hc.frozen 0; have f1 := hc.frozen 1; have f2 := hc.frozen 2; have f3 := hc.frozen 3; have f4 := hc.frozen 4; have f5 := hc.frozen 5
  simp only [List.getElem?_toArray, List.getElem?_cons_zero, List.getElem?_cons_succ] at c0 c1 c2 c3 c4 c5
  obtain ⟨WF, hWF⟩ : ∃ WF, WF = ((((((w2.setCell ⟨w.heap.size, 0, none⟩ (.int .i64 0)).setCell ⟨w.heap.size, 1, none⟩ (.int .i64 0)).setCell ⟨w.heap.size, 2, none⟩ (.float .f64 0)).setCell ⟨w.heap.size, 3, none⟩ (.string ⟨#[]⟩)).setCell ⟨w.heap.size, 4, none⟩ (.slice none 0 0)).setCell ⟨w.heap.size, 5, none⟩ (.slice none 0 0)) := ⟨_, rfl⟩
  have hst := stored6' HC.out (.int .i64 0) (.int .i64 0) (.float .f64 0) (.string ⟨#[]⟩) (.slice none 0 0) (.slice none 0 0)
  rw [← hWF] at hst
  have HWF := Lib.hid hWF; have HST := Lib.hid hst
  clear hWF ho hc HR HW hst
  go_wp2_with fail
  rw [← HWF.out]
  clear c0 c1 c2 c3 c4 c5 f0 f1 f2 f3 f4 f5
  have hc := HST.out.1
  have e0 := hc.cell 0; have e1 := hc.cell 1; have e2 := hc.cell 2; have e3 := hc.cell 3; have e4 := hc.cell 4; have e5 := hc.cell 5
  simp only [List.getElem?_toArray, List.getElem?_cons_zero, List.getElem?_cons_succ] at e0 e1 e2 e3 e4 e5
  clear hc
  refine bodyPost_ret (v := .tuple #[.agg #[.int .i64 0, .int .i64 0, .float .f64 0, .string ⟨#[]⟩, .slice none 0 0, .slice none 0 0], .int .i64 0, .int .i64 k]) (by simp [results, Tryz.results127, go_sem, e0, e1, e2, e3, e4, e5]) rfl ?_
  exact ⟨Go.Proofs.YtaamihdibpioaaaGreat.Below.only HB.out (HO.out.trans HST.out.2) (Nat.le_refl _) HB.out.size, rfl⟩

/-- As ReadVTold; what it leads to is new. -/
def ReadVSep (r : Except Int (Val × Nat)) (w : World) (e : Ending) (w' : World) : Prop :=
  Below w.heap.size w w' ∧ match r with
    | .ok (v, q) => ∃ u : Val, e = .returned (.tuple #[u.agg, .int .i64 q, .int .i64 0]) ∧ u.erase = v ∧ u.In w' ∧ u.Sep (fun b => w.heap.size ≤ b)
    | .error k => e = .returned (.tuple #[Val.zero.agg, .int .i64 0, .int .i64 k])
theorem ReadVSep.told {r : Except Int (Val × Nat)} {w w' : World} {e : Ending} (h : ReadVSep r w e w') : ReadVTold r w e w' := by
  refine ⟨h.1, ?_⟩
  have h2 := h.2
  cases r with
  | error k => exact h2
  | ok x =>
    obtain ⟨v, q⟩ := x
    obtain ⟨u, h3, h4, h5, _⟩ := h2
    exact ⟨u, h3, h4, h5⟩
set_option maxHeartbeats 2000000 in
set_option maxRecDepth 100000 in
theorem readval_ok (s : ByteArray) (at_ : Int) (q : Nat) (v : Val) (w : World)
    (hr : ∀ W, Below w.heap.size w W → W.heap.size = w.heap.size + 1 → Blk W w.heap.size 37 #[.int .i64 0, .int .i64 0, .float .f64 0, .string ⟨#[]⟩, .slice none 0 0, .slice none 0 0] → Calls Tryz.prog 124 #[.string s, .int .i64 at_, .func (Fn.func 152) #[] #[.pointer (some ⟨w.heap.size, 0, none⟩)]] W fun e w' => e = .returned (.tuple #[.int .i64 q, .int .i64 0]) ∧ Only W w' w.heap.size ∧ ValAt w' w.heap.size (w.heap.size + 1 + 2) v) :
    Calls Tryz.prog 127 #[.string s, .int .i64 at_] w fun e w' => ReadVSep (.ok (v, q)) w e w' := by
  have hmf : ∀ (fn : Fn) (first cap : Array Value) (w : World), (Instr.makeFunc fn first cap).run Tryz.prog w = .ok (.func fn first cap) w := fun _ _ _ _ => rfl
  have hsf := run_store_flt
  obtain ⟨W, hW⟩ : ∃ W, W = w.alloc (.cells #[.int .i64 0, .int .i64 0, .float .f64 0, .string ⟨#[]⟩, .slice none 0 0, .slice none 0 0] 37) := ⟨_, rfl⟩
  have bm : Blk W w.heap.size 37 #[.int .i64 0, .int .i64 0, .float .f64 0, .string ⟨#[]⟩, .slice none 0 0, .slice none 0 0] := by rw [hW]; exact Blk.new w 37 _
  have hB : Below w.heap.size w W := by rw [hW]; exact (Below.refl _ _).alloc (Nat.le_refl _) _
  have hr' := hr W hB (by rw [hW]; simp) bm
  have HW := Lib.hid hW; have HB := Lib.hid hB; have HR := Lib.hid hr'
  clear hW bm hB hr hr'
  go_enter Tryz.func127, Tryz.ntmps127
  go_wp2_with fail
  rw [← HW.out]
  refine HR.out.mono ?_
  rintro e w2 ⟨rfl, ho, u, hc, hue, hui, hus⟩
  obtain ⟨a4, b4, k4⟩ := hui.nslice
  obtain ⟨a5, b5, k5⟩ := hui.xslice
  have hc' : Blk w2 w.heap.size 37 #[.int .i64 u.k, .int .i64 u.n, .float .f64 u.f, .string u.s, .slice a4 u.ns.length b4, .slice a5 u.xs.length b5] := by unfold Val.cells at hc; rw [k4, k5] at hc; exact hc
  have hagg : u.agg = .agg #[.int .i64 u.k, .int .i64 u.n, .float .f64 u.f, .string u.s, .slice a4 u.ns.length b4, .slice a5 u.xs.length b5] := by unfold Val.agg; rw [k4, k5]
  have HO := Lib.hid ho; have HC := Lib.hid hc'; have HUE := Lib.hid hue; have HUI := Lib.hid hui; have HUS := Lib.hid hus; have HAG := Lib.hid hagg
  clear hc hue hui hus k4 k5 hagg
  have hc := hc'
  clear hc'
  have c0 := hc.cell 0; have c1 := hc.cell 1; have c2 := hc.cell 2; have c3 := hc.cell 3; have c4 := hc.cell 4; have c5 := hc.cell 5
  have f0 := hc.frozen 0; have f1 := hc.frozen 1; have f2 := hc.frozen 2; have f3 := hc.frozen 3; have f4 := hc.frozen 4; have f5 := hc.frozen 5
  simp only [List.getElem?_toArray, List.getElem?_cons_zero, List.getElem?_cons_succ] at c0 c1 c2 c3 c4 c5
  obtain ⟨WF, hWF⟩ : ∃ WF, WF = ((((((w2.setCell ⟨w.heap.size, 0, none⟩ (.int .i64 u.k)).setCell ⟨w.heap.size, 1, none⟩ (.int .i64 u.n)).setCell ⟨w.heap.size, 2, none⟩ (.float .f64 u.f)).setCell ⟨w.heap.size, 3, none⟩ (.string u.s)).setCell ⟨w.heap.size, 4, none⟩ (.slice a4 u.ns.length b4)).setCell ⟨w.heap.size, 5, none⟩ (.slice a5 u.xs.length b5)) := ⟨_, rfl⟩
  have hst := stored6' HC.out (.int .i64 u.k) (.int .i64 u.n) (.float .f64 u.f) (.string u.s) (.slice a4 u.ns.length b4) (.slice a5 u.xs.length b5)
  rw [← hWF] at hst
  have HWF := Lib.hid hWF; have HST := Lib.hid hst
  clear hWF ho hc HR HW hst
  go_wp2_with fail
  rw [← HWF.out]
  clear c0 c1 c2 c3 c4 c5 f0 f1 f2 f3 f4 f5
  have hc := HST.out.1
  have e0 := hc.cell 0; have e1 := hc.cell 1; have e2 := hc.cell 2; have e3 := hc.cell 3; have e4 := hc.cell 4; have e5 := hc.cell 5
  simp only [List.getElem?_toArray, List.getElem?_cons_zero, List.getElem?_cons_succ] at e0 e1 e2 e3 e4 e5
  clear hc
  refine bodyPost_ret (v := .tuple #[.agg #[.int .i64 u.k, .int .i64 u.n, .float .f64 u.f, .string u.s, .slice a4 u.ns.length b4, .slice a5 u.xs.length b5], .int .i64 q, .int .i64 0]) (by simp [results, Tryz.results127, go_sem, e0, e1, e2, e3, e4, e5]) rfl ?_
  exact ⟨Go.Proofs.YtaamihdibpioaaaGreat.Below.only HB.out (HO.out.trans HST.out.2) (Nat.le_refl _) HB.out.size, u, by rw [HAG.out], HUE.out, HUI.out.carryS HUS.out (fun b o hb hlt => only_cell HST.out.2 (by omega) hlt o) HST.out.2.size, HUS.out.mono (fun b hb => by have hb' : w.heap.size + 1 + 2 ≤ b := hb; omega)⟩

/-- From any place. -/
def readVAt (s : ByteArray) (a : Int) : Except Int (Val × Nat) := if 0 ≤ a ∧ a ≤ s.size then readV s a.toNat else .error 3
theorem readval_sep (s : ByteArray) (a : Int) (w : World) (hs : s.size ≤ 100000) : Calls Tryz.prog 127 #[.string s, .int .i64 a] w fun e w' => ReadVSep (readVAt s a) w e w' := by
  unfold readVAt
  by_cases hin : 0 ≤ a ∧ a ≤ s.size
  · rw [if_pos hin]
    obtain ⟨p, rfl⟩ : ∃ p : Nat, a = (p : Int) := ⟨a.toNat, by omega⟩
    have hp : p ≤ s.size := by omega
    rw [Int.toNat_natCast]
    cases hu : rdV s 12 p 0 with
    | error k =>
      have he : readV s p = .error k := by unfold readV; rw [hu]
      rw [he]
      refine readval_err s p k w (fun W hb hz hm => ?_)
      exact (reads_any 152 #[.pointer (some ⟨w.heap.size, 0, none⟩)] (.error k) s p w.heap.size (fun _ => True) (fun W => Blk W w.heap.size 37 #[.int .i64 0, .int .i64 0, .float .f64 0, .string ⟨#[]⟩, .slice none 0 0, .slice none 0 0]) W hs hp (by omega) enter_val (fun _ _ _ _ h => h) (apart_blk (by omega))
        (fun W' hb' hz' ha => clo_val_no s p _ w.heap.size k W' _ hs hp ha (hm.below hb' (by omega)) (by omega) hu)).mono fun e w' ⟨ho, he, hz⟩ => ⟨he, ho, hz⟩
    | ok x =>
      obtain ⟨v, q, n⟩ := x
      cases hv : v.RightB with
      | false =>
        have he : readV s p = .error 5 := by unfold readV; rw [hu]; simp [hv]
        rw [he]
        refine readval_err s p 5 w (fun W hb hz hm => ?_)
        exact (reads_any 152 #[.pointer (some ⟨w.heap.size, 0, none⟩)] (.error 5) s p w.heap.size (fun _ => True) (fun W => Blk W w.heap.size 37 #[.int .i64 0, .int .i64 0, .float .f64 0, .string ⟨#[]⟩, .slice none 0 0, .slice none 0 0]) W hs hp (by omega) enter_val (fun _ _ _ _ h => h) (apart_blk (by omega))
          (fun W' hb' hz' ha => clo_val_bad s p _ w.heap.size q n v W' _ hs hp ha (hm.below hb' (by omega)) (by omega) hu hv)).mono fun e w' ⟨ho, he, hz⟩ => ⟨he, ho, hz⟩
      | true =>
        have he : readV s p = .ok (v, q) := by unfold readV; rw [hu]; simp [hv]
        rw [he]
        refine readval_ok s p q v w (fun W hb hz hm => ?_)
        rw [← hz]
        exact (reads_any 152 #[.pointer (some ⟨w.heap.size, 0, none⟩)] (.ok q) s p w.heap.size (fun W' => ValAt W' w.heap.size (W.heap.size + 2) v) (fun _ => True) W hs hp (by omega) enter_val (ValAt.apart (by omega)) (fun _ _ _ _ h => h)
          (fun W' hb' hz' ha => clo_val_ok s p _ w.heap.size q n W.heap.size v W' _ hs hp ha (hm.below hb' (by omega)) (by omega) (by omega) (by omega) hu hv)).mono fun e w' ⟨ho, he, hz⟩ => ⟨he, ho, hz⟩
  · rw [if_neg hin]
    refine readval_err s a 3 w (fun W hb hz hm => ?_)
    exact (reads_out 152 #[.pointer (some ⟨w.heap.size, 0, none⟩)] s a W hs (by omega)).mono fun e w' ⟨he, hb⟩ => ⟨he, Only.of_below hb _, hm.below hb (by omega)⟩
end Go.Proofs.YtaamihdibpioaaaGreat
