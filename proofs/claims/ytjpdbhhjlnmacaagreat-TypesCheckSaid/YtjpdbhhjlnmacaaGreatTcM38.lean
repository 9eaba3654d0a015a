/- Joins of types: the same in either order, however three are put together, of one with itself. Plain lemmas. -/
import Derived.Test.YtjpdbhhjlnmacaaGreatTcM35
import Derived.Test.YtjpdbhhjlnmacaaGreatTcM36
namespace Go.Proofs.YtjpdbhhjlnmacaaGreat
set_option linter.unusedVariables false
open Go.RowKit

abbrev Ty.Rt (a : Ty) : Prop := ∃ n, a.rightB n = true
theorem Ty.Rt.item {a x : Ty} (h : a.Rt) (hx : x ∈ a.xs) : x.Rt := by
  obtain ⟨n, h⟩ := h
  exact right_items h x hx
end Go.Proofs.YtjpdbhhjlnmacaaGreat

/- The document's parser: what a step answers; two kids (printed by wip/gen_par2.py). -/
namespace Go.Proofs.YtjpdbhhjlnmacaaGreat
set_option linter.unusedVariables false
open Go.RowKit

abbrev zero10 : Array Value := #[.int .i64 0, .string ⟨#[]⟩, .int .i64 0, .int .i64 0, .float .f64 0, .string ⟨#[]⟩, .slice none 0 0, .slice none 0 0, .slice none 0 0, .slice none 0 0]
set_option maxHeartbeats 4000000 in
theorem blk10_set {w : World} {g : Nat} {T : TypeId} {x0 x1 x2 x3 x4 x5 x6 x7 x8 x9 : Value} (hb : Blk w g T #[x0, x1, x2, x3, x4, x5, x6, x7, x8, x9]) (u0 u1 u2 u3 u4 u5 u6 u7 u8 u9 : Value) : Blk (((((((((((w.setCell ⟨g, 0, none⟩ u0).setCell ⟨g, 1, none⟩ u1).setCell ⟨g, 2, none⟩ u2).setCell ⟨g, 3, none⟩ u3).setCell ⟨g, 4, none⟩ u4).setCell ⟨g, 5, none⟩ u5).setCell ⟨g, 6, none⟩ u6).setCell ⟨g, 7, none⟩ u7).setCell ⟨g, 8, none⟩ u8).setCell ⟨g, 9, none⟩ u9)) g T #[u0, u1, u2, u3, u4, u5, u6, u7, u8, u9] := by
  have := ((((((((((hb.set_ 0 u0).set_ 1 u1).set_ 2 u2).set_ 3 u3).set_ 4 u4).set_ 5 u5).set_ 6 u6).set_ 7 u7).set_ 8 u8).set_ 9 u9)
  simpa using this
theorem below10_set {B g : Nat} {w W : World} (h : Below B w W) (hg : B ≤ g) (u0 u1 u2 u3 u4 u5 u6 u7 u8 u9 : Value) : Below B w (((((((((((W.setCell ⟨g, 0, none⟩ u0).setCell ⟨g, 1, none⟩ u1).setCell ⟨g, 2, none⟩ u2).setCell ⟨g, 3, none⟩ u3).setCell ⟨g, 4, none⟩ u4).setCell ⟨g, 5, none⟩ u5).setCell ⟨g, 6, none⟩ u6).setCell ⟨g, 7, none⟩ u7).setCell ⟨g, 8, none⟩ u8).setCell ⟨g, 9, none⟩ u9)) :=
  ((((((((((h.setCell (p := ⟨g, 0, none⟩) hg u0).setCell (p := ⟨g, 1, none⟩) hg u1).setCell (p := ⟨g, 2, none⟩) hg u2).setCell (p := ⟨g, 3, none⟩) hg u3).setCell (p := ⟨g, 4, none⟩) hg u4).setCell (p := ⟨g, 5, none⟩) hg u5).setCell (p := ⟨g, 6, none⟩) hg u6).setCell (p := ⟨g, 7, none⟩) hg u7).setCell (p := ⟨g, 8, none⟩) hg u8).setCell (p := ⟨g, 9, none⟩) hg u9)
theorem only10_set {p g : Nat} {w W : World} (h : Only w W p) (hg : w.heap.size ≤ g) (u0 u1 u2 u3 u4 u5 u6 u7 u8 u9 : Value) : Only w (((((((((((W.setCell ⟨g, 0, none⟩ u0).setCell ⟨g, 1, none⟩ u1).setCell ⟨g, 2, none⟩ u2).setCell ⟨g, 3, none⟩ u3).setCell ⟨g, 4, none⟩ u4).setCell ⟨g, 5, none⟩ u5).setCell ⟨g, 6, none⟩ u6).setCell ⟨g, 7, none⟩ u7).setCell ⟨g, 8, none⟩ u8).setCell ⟨g, 9, none⟩ u9)) p :=
  ((((((((((h.set_ (p := ⟨g, 0, none⟩) (.inr hg) u0).set_ (p := ⟨g, 1, none⟩) (.inr hg) u1).set_ (p := ⟨g, 2, none⟩) (.inr hg) u2).set_ (p := ⟨g, 3, none⟩) (.inr hg) u3).set_ (p := ⟨g, 4, none⟩) (.inr hg) u4).set_ (p := ⟨g, 5, none⟩) (.inr hg) u5).set_ (p := ⟨g, 6, none⟩) (.inr hg) u6).set_ (p := ⟨g, 7, none⟩) (.inr hg) u7).set_ (p := ⟨g, 8, none⟩) (.inr hg) u8).set_ (p := ⟨g, 9, none⟩) (.inr hg) u9)
/-- What a step of the parser answers. -/
def PX (Q : Exp → Prop) (p : Nat) (tp : Option Addr) (tc : Nat) (ts : List Tok) (en j d : Nat) (w : World) (e : Ending) (w' : World) : Prop :=
  ∃ x : Exp, e = .returned x.agg ∧ Q x ∧ x.In w' ∧ x.Sep (fun b => w.heap.size ≤ b) ∧ PS w' p tp tc ts en j d ∧ Only w w' p
/-- In the midst of one: room for the result at A, what was read last at B. -/
structure Mid (w W : World) (A B p : Nat) (tp : Option Addr) (tc : Nat) (ts : List Tok) (en i d : Nat) (x : Exp) : Prop where
  hA : A = w.heap.size
  hp : p < A
  hAB : A < B
  ps : PS W p tp tc ts en i d
  only : Only w W p
  bA : Blk W A 29 zero10
  bB : Blk W B 29 x.cells.toArray
  hin : x.In W
  sep : x.Sep (fun b => A + 1 ≤ b ∧ b ≠ B)
  toks : ∀ g o m, tp = some ⟨g, o, m⟩ → ts.length = 0 ∨ g < A
section
variable {w W W' : World} {A B p : Nat} {tp : Option Addr} {tc : Nat} {ts : List Tok} {en i d i' d' : Nat} {x : Exp} {Q : Exp → Prop}
theorem In.only {v : Exp} {S : Nat → Prop} (h : v.In w) (hs : v.Sep S) (hne : ∀ b, S b → b ≠ p) (ho : Only w W p) : v.In W :=
  h.carryS hs (fun b o hb hlt => World.cell?_of_block (a := ⟨b, o, none⟩) (ho.block b hlt (by simpa using hne b hb))) ho.size
theorem Mid.step (h : Mid w W A B p tp tc ts en i d x) (hps : PS W' p tp tc ts en i' d') (ho : Only W W' p) : Mid w W' A B p tp tc ts en i' d' x :=
  ⟨h.hA, h.hp, h.hAB, hps, h.only.trans ho, h.bA.grown ho (by have := h.hp; simp; omega), h.bB.grown ho (by have := h.hp; have := h.hAB; simp; omega), In.only h.hin h.sep (fun b hb => by have := h.hp; omega) ho, h.sep, h.toks⟩
theorem px_ps (h : PS w p tp tc ts en i d) : PS (w.alloc (.cells zero10 29)) p tp tc ts en i d := h.below ((Below.refl _ w).alloc (Nat.le_refl _) _)
theorem PS.toks_lt (h : PS w p tp tc ts en i d) : ∀ g o m, tp = some ⟨g, o, m⟩ → ts.length = 0 ∨ g < w.heap.size := fun g o m e => by
  rcases Nat.eq_zero_or_pos ts.length with h0 | h0
  · exact .inl h0
  · obtain ⟨g', a, b, _⟩ := h.toks.at_ 0 h0
    rw [a] at e
    injection e with e
    injection e with e
    exact .inr (by omega)
theorem PS.keep2 (h : PS w p tp tc ts en i d) (hb : Blk W p 97 #[.slice tp ts.length tc, .int .i64 (i' : Int), .int .i64 (en : Int), .int .i64 0, .int .i64 0, .int .i64 (d' : Int)]) (hz : w.heap.size ≤ W.heap.size) (hk : ∀ g, tp = some ⟨g, 0, none⟩ → 0 < ts.length → W.heap[g]? = w.heap[g]?) : PS W p tp tc ts en i' d' :=
  ⟨hb, ⟨h.toks.cap, fun k hk' => by
    obtain ⟨g, a, b, c⟩ := h.toks.at_ k hk'
    refine ⟨g, a, Nat.lt_of_lt_of_le b hz, fun j hj => ?_⟩
    rw [← c j hj]
    exact World.cell?_of_block (a := ⟨g, k * 6 + j, none⟩) (hk g a (by omega))⟩, h.apart⟩
theorem PS.drew (h : PS w p tp tc ts en i d) : PS w.drew p tp tc ts en i d := h.keep h.blk ((Only.refl w p).drew)
theorem Mid.drew (h : Mid w W A B p tp tc ts en i d x) : Mid w W.drew A B p tp tc ts en i d x := h.step h.ps.drew ((Only.refl W p).drew)
theorem mid_start {i0 d0 : Nat} {w1 : World} {v6 v7 v8 v9 : Value} (h0 : PS w p tp tc ts en i0 d0) (hq : x.In w1) (hs : x.Sep (fun b => (w.alloc (.cells zero10 29)).heap.size ≤ b)) (hps : PS w1 p tp tc ts en i d) (ho : Only (w.alloc (.cells zero10 29)) w1 p)
    (e6 : x.v.na.val x.v.ns.length = v6) (e7 : x.v.xa.val x.v.xs.length = v7) (e8 : x.na.val x.ns.length = v8) (e9 : x.xa.val x.xs.length = v9) :
    Mid w (w1.alloc (.cells #[.int .i64 x.k, .string x.s, .int .i64 x.v.k, .int .i64 x.v.n, .float .f64 x.v.f, .string x.v.s, v6, v7, v8, v9] 29)) w.heap.size w1.heap.size p tp tc ts en i d x := by
  have hb : Below w1.heap.size w1 (w1.alloc (.cells #[.int .i64 x.k, .string x.s, .int .i64 x.v.k, .int .i64 x.v.n, .float .f64 x.v.f, .string x.v.s, v6, v7, v8, v9] 29)) := (Below.refl _ w1).alloc (Nat.le_refl _) _
  have hp := h0.blk.lt
  have hz := ho.size
  simp at hz hs
  have h1 : Blk w1 w.heap.size 29 zero10 := (Blk.new w 29 zero10).grown ho (by simp; omega)
  refine ⟨rfl, hp, by omega, hps.below hb, ((Only.of_below ((Below.refl _ w).alloc (Nat.le_refl _) _) p).trans ho).trans (Only.of_below hb p), h1.alloc _, ?_, hq.below hb, (hs.and hq.sep).mono (fun b hb => by omega), h0.toks_lt⟩
  have := Blk.new w1 29 #[.int .i64 x.k, .string x.s, .int .i64 x.v.k, .int .i64 x.v.n, .float .f64 x.v.f, .string x.v.s, v6, v7, v8, v9]
  unfold Exp.cells
  rw [e6, e7, e8, e9]
  exact this
theorem mid_end {WF : World} {v6 v7 v8 v9 : Value} (h : Mid w W A B p tp tc ts en i d x) (hq : Q x) (e6 : x.v.na.val x.v.ns.length = v6) (e7 : x.v.xa.val x.v.xs.length = v7) (e8 : x.na.val x.ns.length = v8) (e9 : x.xa.val x.xs.length = v9)
    (hWF : WF = ((((((((((W.setCell ⟨A, 0, none⟩ (.int .i64 x.k)).setCell ⟨A, 1, none⟩ (.string x.s)).setCell ⟨A, 2, none⟩ (.int .i64 x.v.k)).setCell ⟨A, 3, none⟩ (.int .i64 x.v.n)).setCell ⟨A, 4, none⟩ (.float .f64 x.v.f)).setCell ⟨A, 5, none⟩ (.string x.v.s)).setCell ⟨A, 6, none⟩ v6).setCell ⟨A, 7, none⟩ v7).setCell ⟨A, 8, none⟩ v8).setCell ⟨A, 9, none⟩ v9)) :
    Blk WF A 29 #[.int .i64 x.k, .string x.s, .int .i64 x.v.k, .int .i64 x.v.n, .float .f64 x.v.f, .string x.v.s, v6, v7, v8, v9] ∧ PX Q p tp tc ts en i d w (.returned (.agg #[.int .i64 x.k, .string x.s, .int .i64 x.v.k, .int .i64 x.v.n, .float .f64 x.v.f, .string x.v.s, v6, v7, v8, v9])) WF := by
  have ho : Only W WF A := by
    rw [hWF]
    exact (((((((((((Only.refl W A).set_ (p := ⟨A, 0, none⟩) (.inl rfl) _).set_ (p := ⟨A, 1, none⟩) (.inl rfl) _).set_ (p := ⟨A, 2, none⟩) (.inl rfl) _).set_ (p := ⟨A, 3, none⟩) (.inl rfl) _).set_ (p := ⟨A, 4, none⟩) (.inl rfl) _).set_ (p := ⟨A, 5, none⟩) (.inl rfl) _).set_ (p := ⟨A, 6, none⟩) (.inl rfl) _).set_ (p := ⟨A, 7, none⟩) (.inl rfl) _).set_ (p := ⟨A, 8, none⟩) (.inl rfl) _).set_ (p := ⟨A, 9, none⟩) (.inl rfl) _)
  have hb : Blk WF A 29 #[.int .i64 x.k, .string x.s, .int .i64 x.v.k, .int .i64 x.v.n, .float .f64 x.v.f, .string x.v.s, v6, v7, v8, v9] := by rw [hWF]; exact blk10_set h.bA (.int .i64 x.k) (.string x.s) (.int .i64 x.v.k) (.int .i64 x.v.n) (.float .f64 x.v.f) (.string x.v.s) (v6) (v7) (v8) (v9)
  have how : Only w WF p := by rw [hWF]; exact only10_set h.only (by rw [h.hA]; exact Nat.le_refl _) (.int .i64 x.k) (.string x.s) (.int .i64 x.v.k) (.int .i64 x.v.n) (.float .f64 x.v.f) (.string x.v.s) (v6) (v7) (v8) (v9)
  refine ⟨hb, x, by unfold Exp.agg; rw [e6, e7, e8, e9], hq, In.only h.hin h.sep (fun b hb => by omega) ho, h.sep.mono (fun b hb => by have := h.hA; omega), ?_, how⟩
  have hpA := h.hp
  refine h.ps.keep2 (h.ps.blk.grown ho (by simp; omega)) ho.size (fun g hg hl => ?_)
  have hgA := h.toks g 0 none hg
  exact ho.block g (by have := h.bA.lt; omega) (by simp; omega)
theorem mid_again {z : Exp} {w4 w5 WZ : World} {j2 d2 : Nat} {v6 v7 v8 v9 : Value} (h : Mid w W A B p tp tc ts en i d x) (hps : PS w4 p tp tc ts en j2 d2) (ho : Only W w4 p) (hb5 : Below w4.heap.size w4 w5) (hz : z.In w5) (hzs : z.Sep (fun b => A + 1 ≤ b ∧ b ≠ B))
    (e6 : z.v.na.val z.v.ns.length = v6) (e7 : z.v.xa.val z.v.xs.length = v7) (e8 : z.na.val z.ns.length = v8) (e9 : z.xa.val z.xs.length = v9)
    (hWZ : WZ = ((((((((((w5.setCell ⟨B, 0, none⟩ (.int .i64 z.k)).setCell ⟨B, 1, none⟩ (.string z.s)).setCell ⟨B, 2, none⟩ (.int .i64 z.v.k)).setCell ⟨B, 3, none⟩ (.int .i64 z.v.n)).setCell ⟨B, 4, none⟩ (.float .f64 z.v.f)).setCell ⟨B, 5, none⟩ (.string z.v.s)).setCell ⟨B, 6, none⟩ v6).setCell ⟨B, 7, none⟩ v7).setCell ⟨B, 8, none⟩ v8).setCell ⟨B, 9, none⟩ v9)) : Mid w WZ A B p tp tc ts en j2 d2 z := by
  have h4 := h.step hps ho
  have hps5 := hps.below hb5
  have bA5 := h4.bA.below hb5 h4.bA.lt
  have bB5 := h4.bB.below hb5 h4.bB.lt
  have ho5 : Only w w5 p := h4.only.trans (Only.of_below hb5 p)
  have hp := h.hp; have hAB := h.hAB; have hA := h.hA
  have hoZ : Only w5 WZ B := by
    rw [hWZ]
    exact (((((((((((Only.refl w5 B).set_ (p := ⟨B, 0, none⟩) (.inl rfl) _).set_ (p := ⟨B, 1, none⟩) (.inl rfl) _).set_ (p := ⟨B, 2, none⟩) (.inl rfl) _).set_ (p := ⟨B, 3, none⟩) (.inl rfl) _).set_ (p := ⟨B, 4, none⟩) (.inl rfl) _).set_ (p := ⟨B, 5, none⟩) (.inl rfl) _).set_ (p := ⟨B, 6, none⟩) (.inl rfl) _).set_ (p := ⟨B, 7, none⟩) (.inl rfl) _).set_ (p := ⟨B, 8, none⟩) (.inl rfl) _).set_ (p := ⟨B, 9, none⟩) (.inl rfl) _)
  have hb : Blk WZ B 29 #[.int .i64 z.k, .string z.s, .int .i64 z.v.k, .int .i64 z.v.n, .float .f64 z.v.f, .string z.v.s, v6, v7, v8, v9] := by
    rw [hWZ]
    unfold Exp.cells at bB5
    exact blk10_set bB5 (.int .i64 z.k) (.string z.s) (.int .i64 z.v.k) (.int .i64 z.v.n) (.float .f64 z.v.f) (.string z.v.s) (v6) (v7) (v8) (v9)
  have how : Only w WZ p := by rw [hWZ]; exact only10_set ho5 (by omega) (.int .i64 z.k) (.string z.s) (.int .i64 z.v.k) (.int .i64 z.v.n) (.float .f64 z.v.f) (.string z.v.s) (v6) (v7) (v8) (v9)
  refine ⟨hA, hp, hAB, ?_, how, bA5.grown hoZ (by simp; omega), ?_, In.only hz hzs (fun b hb => hb.2) hoZ, hzs, h.toks⟩
  · refine hps5.keep2 (hps5.blk.grown hoZ (by simp; omega)) hoZ.size (fun g hg hl => ?_)
    have hgA := h.toks g 0 none hg
    exact hoZ.block g (by have := bA5.lt; omega) (by simp; omega)
  · unfold Exp.cells
    rw [e6, e7, e8, e9]
    exact hb
end
end Go.Proofs.YtjpdbhhjlnmacaaGreat
