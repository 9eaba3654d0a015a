/- The document's parser: what a step answers; two kids (printed by wip/gen_par2.py). -/
import Derived.Test.YtjpdbhhjlnmacaaGreatTvM20
import Derived.Test.YtjpdbhhjlnmacaaGreatTvM26
namespace Go.Proofs.YtjpdbhhjlnmacaaGreat
set_option linter.unusedVariables false
open Go.RowKit

abbrev zero10 : Array Value := #[.int .i64 0, .string ⟨#[]⟩, .int .i64 0, .int .i64 0, .float .f64 0, .string ⟨#[]⟩, .slice none 0 0, .slice none 0 0, .slice none 0 0, .slice none 0 0]
set_option maxHeartbeats 4000000 in
theorem blk10_set {w : World} {g : Nat} {T : TypeId} {x0 x1 x2 x3 x4 x5 x6 x7 x8 x9 : Value} (hb : Blk w g T #[x0, x1, x2, x3, x4, x5, x6, x7, x8, x9]) (u0 u1 u2 u3 u4 u5 u6 u7 u8 u9 : Value) : Blk (((((((((((w.setCell ⟨g, 0, none⟩ u0).setCell ⟨g, 1, none⟩ u1).setCell ⟨g, 2, none⟩ u2).setCell ⟨g, 3, none⟩ u3).setCell ⟨g, 4, none⟩ u4).setCell ⟨g, 5, none⟩ u5).setCell ⟨g, 6, none⟩ u6).setCell ⟨g, 7, none⟩ u7).setCell ⟨g, 8, none⟩ u8).setCell ⟨g, 9, none⟩ u9)) g T #[u0, u1, u2, u3, u4, u5, u6, u7, u8, u9] := by
  have := ((((((((((hb.set_ 0 u0).set_ 1 u1).set_ 2 u2).set_ 3 u3).set_ 4 u4).set_ 5 u5).set_ 6 u6).set_ 7 u7).set_ 8 u8).set_ 9 u9)
  simpa using this
theorem below10_set {B g : Nat} {w W : World} (h : Below B w W) (hg : B ≤ g) (u0 u1 u2 u3 u4 u5 u6 u7 u8 u9 : Value) : Below B w (((((((((((W.setCell ⟨g, 0, none⟩ u0).setCell ⟨g, 1, none⟩ u1).setCell ⟨g, 2, none⟩ u2).setCell ⟨g, 3, none⟩ u3).setCell ⟨g, 4, none⟩ u4).setCell ⟨g, 5, none⟩ u5).setCell ⟨g, 6, none⟩ u6).setCell ⟨g, 7, none⟩ u7).setCell ⟨g, 8, none⟩ u8).setCell ⟨g, 9, none⟩ u9)) :=
  ((((((((((h.setCell (p := ⟨g, 0, none⟩) hg u0).setCell (p := ⟨g, 1, none⟩) hg u1).setCell (p := ⟨g, 2, none⟩) hg u2).setCell (p := ⟨g, 3, none⟩) hg u3).setCell (p := ⟨g, 4, none⟩) hg u4).setCell (p := ⟨g, 5, none⟩) hg u5).setCell (p := ⟨g, 6, none⟩) hg u6).setCell (p := ⟨g, 7, none⟩) hg u7).setCell (p := ⟨g, 8, none⟩) hg u8).setCell (p := ⟨g, 9, none⟩) hg u9)
theorem only10_set {p g : Nat} {w W : World} (h : Only w W p) (hg : w.heap.size ≤ g) (u0 u1 u2 u3 u4 u5 u6 u7 u8 u9 : Value) : Only w (((((((((((W.setCell ⟨g, 0, none⟩ u0).setCell ⟨g, 1, none⟩ u1).setCell ⟨g, 2, none⟩ u2).setCell ⟨g, 3, none⟩ u3).setCell ⟨g, 4, none⟩ u4).setCell ⟨g, 5, none⟩ u5).setCell ⟨g, 6, none⟩ u6).setCell ⟨g, 7, none⟩ u7).setCell ⟨g, 8, none⟩ u8).setCell ⟨g, 9, none⟩ u9)) p :=
  ((((((((((h.set_ (p := ⟨g, 0, none⟩) (.inr hg) u0).set_ (p := ⟨g, 1, none⟩) (.inr hg) u1).set_ (p := ⟨g, 2, none⟩) (.inr hg) u2).set_ (p := ⟨g, 3, none⟩) (.inr hg) u3).set_ (p := ⟨g, 4, none⟩) (.inr hg) u4).set_ (p := ⟨g, 5, none⟩) (.inr hg) u5).set_ (p := ⟨g, 6, none⟩) (.inr hg) u6).set_ (p := ⟨g, 7, none⟩) (.inr hg) u7).set_ (p := ⟨g, 8, none⟩) (.inr hg) u8).set_ (p := ⟨g, 9, none⟩) (.inr hg) u9)
/-- What a step of the parser answers. -/
def PX (Q : Exp → Prop) (p : Nat) (tp : Option Addr) (tc : Nat) (ts : List Tok) (en j d : Nat) (w : World) (e : Ending) (w' : World) : Prop :=
  ∃ x : Exp, e = .returned x.agg ∧ Q x ∧ x.In w' ∧ x.Sep (fun b => w.heap.size ≤ b) ∧ PS w' p tp tc ts en j d ∧ Only w w' p
/-- In the midst of one: room for the result at A, what was read last at B. -/
structure Mid (w W : World) (A B p : Nat) (tp : Option Addr) (tc : Nat) (ts : List Tok) (en i d : Nat) (x : Exp) : Prop where
  hA : A = w.heap.size
  hp : p < A
  hAB : A < B
  ps : PS W p tp tc ts en i d
  only : Only w W p
  bA : Blk W A 29 zero10
  bB : Blk W B 29 x.cells.toArray
  hin : x.In W
  sep : x.Sep (fun b => A + 1 ≤ b ∧ b ≠ B)
  toks : ∀ g o m, tp = some ⟨g, o, m⟩ → ts.length = 0 ∨ g < A
section
variable {w W W' : World} {A B p : Nat} {tp : Option Addr} {tc : Nat} {ts : List Tok} {en i d i' d' : Nat} {x : Exp} {Q : Exp → Prop}
theorem In.only {v : Exp} {S : Nat → Prop} (h : v.In w) (hs : v.Sep S) (hne : ∀ b, S b → b ≠ p) (ho : Only w W p) : v.In W :=
  h.carryS hs (fun b o hb hlt => World.cell?_of_block (a := ⟨b, o, none⟩) (ho.block b hlt (by simpa using hne b hb))) ho.size
theorem Mid.step (h : Mid w W A B p tp tc ts en i d x) (hps : PS W' p tp tc ts en i' d') (ho : Only W W' p) : Mid w W' A B p tp tc ts en i' d' x :=
  ⟨h.hA, h.hp, h.hAB, hps, h.only.trans ho, h.bA.grown ho (by have := h.hp; simp; omega), h.bB.grown ho (by have := h.hp; have := h.hAB; simp; omega), In.only h.hin h.sep (fun b hb => by have := h.hp; omega) ho, h.sep, h.toks⟩
theorem px_ps (h : PS w p tp tc ts en i d) : PS (w.alloc (.cells zero10 29)) p tp tc ts en i d := h.below ((Below.refl _ w).alloc (Nat.le_refl _) _)
theorem PS.toks_lt (h : PS w p tp tc ts en i d) : ∀ g o m, tp = some ⟨g, o, m⟩ → ts.length = 0 ∨ g < w.heap.size := fun g o m e => by
  rcases Nat.eq_zero_or_pos ts.length with h0 | h0
  · exact .inl h0
  · obtain ⟨g', a, b, _⟩ := h.toks.at_ 0 h0
    rw [a] at e
    injection e with e
    injection e with e
    exact .inr (by omega)
theorem PS.keep2 (h : PS w p tp tc ts en i d) (hb : Blk W p 97 #[.slice tp ts.length tc, .int .i64 (i' : Int), .int .i64 (en : Int), .int .i64 0, .int .i64 0, .int .i64 (d' : Int)]) (hz : w.heap.size ≤ W.heap.size) (hk : ∀ g, tp = some ⟨g, 0, none⟩ → 0 < ts.length → W.heap[g]? = w.heap[g]?) : PS W p tp tc ts en i' d' :=
  ⟨hb, ⟨h.toks.cap, fun k hk' => by
    obtain ⟨g, a, b, c⟩ := h.toks.at_ k hk'
    refine ⟨g, a, Nat.lt_of_lt_of_le b hz, fun j hj => ?_⟩
    rw [← c j hj]
    exact World.cell?_of_block (a := ⟨g, k * 6 + j, none⟩) (hk g a (by omega))⟩, h.apart⟩
theorem PS.drew (h : PS w p tp tc ts en i d) : PS w.drew p tp tc ts en i d := h.keep h.blk ((Only.refl w p).drew)
theorem Mid.drew (h : Mid w W A B p tp tc ts en i d x) : Mid w W.drew A B p tp tc ts en i d x := h.step h.ps.drew ((Only.refl W p).drew)
theorem mid_start {i0 d0 : Nat} {w1 : World} {v6 v7 v8 v9 : Value} (h0 : PS w p tp tc ts en i0 d0) (hq : x.In w1) (hs : x.Sep (fun b => (w.alloc (.cells zero10 29)).heap.size ≤ b)) (hps : PS w1 p tp tc ts en i d) (ho : Only (w.alloc (.cells zero10 29)) w1 p)
    (e6 : x.v.na.val x.v.ns.length = v6) (e7 : x.v.xa.val x.v.xs.length = v7) (e8 : x.na.val x.ns.length = v8) (e9 : x.xa.val x.xs.length = v9) :
    Mid w (w1.alloc (.cells #[.int .i64 x.k, .string x.s, .int .i64 x.v.k, .int .i64 x.v.n, .float .f64 x.v.f, .string x.v.s, v6, v7, v8, v9] 29)) w.heap.size w1.heap.size p tp tc ts en i d x := by
  have hb : Below w1.heap.size w1 (w1.alloc (.cells #[.int .i64 x.k, .string x.s, .int .i64 x.v.k, .int .i64 x.v.n, .float .f64 x.v.f, .string x.v.s, v6, v7, v8, v9] 29)) := (Below.refl _ w1).alloc (Nat.le_refl _) _
  have hp := h0.blk.lt
  have hz := ho.size
  simp at hz hs
  have h1 : Blk w1 w.heap.size 29 zero10 := (Blk.new w 29 zero10).grown ho (by simp; omega)
  refine ⟨rfl, hp, by omega, hps.below hb, ((Only.of_below ((Below.refl _ w).alloc (Nat.le_refl _) _) p).trans ho).trans (Only.of_below hb p), h1.alloc _, ?_, hq.below hb, (hs.and hq.sep).mono (fun b hb => by omega), h0.toks_lt⟩
  have := Blk.new w1 29 #[.int .i64 x.k, .string x.s, .int .i64 x.v.k, .int .i64 x.v.n, .float .f64 x.v.f, .string x.v.s, v6, v7, v8, v9]
  unfold Exp.cells
  rw [e6, e7, e8, e9]
  exact this
theorem mid_end {WF : World} {v6 v7 v8 v9 : Value} (h : Mid w W A B p tp tc ts en i d x) (hq : Q x) (e6 : x.v.na.val x.v.ns.length = v6) (e7 : x.v.xa.val x.v.xs.length = v7) (e8 : x.na.val x.ns.length = v8) (e9 : x.xa.val x.xs.length = v9)
    (hWF : WF = ((((((((((W.setCell ⟨A, 0, none⟩ (.int .i64 x.k)).setCell ⟨A, 1, none⟩ (.string x.s)).setCell ⟨A, 2, none⟩ (.int .i64 x.v.k)).setCell ⟨A, 3, none⟩ (.int .i64 x.v.n)).setCell ⟨A, 4, none⟩ (.float .f64 x.v.f)).setCell ⟨A, 5, none⟩ (.string x.v.s)).setCell ⟨A, 6, none⟩ v6).setCell ⟨A, 7, none⟩ v7).setCell ⟨A, 8, none⟩ v8).setCell ⟨A, 9, none⟩ v9)) :
    Blk WF A 29 #[.int .i64 x.k, .string x.s, .int .i64 x.v.k, .int .i64 x.v.n, .float .f64 x.v.f, .string x.v.s, v6, v7, v8, v9] ∧ PX Q p tp tc ts en i d w (.returned (.agg #[.int .i64 x.k, .string x.s, .int .i64 x.v.k, .int .i64 x.v.n, .float .f64 x.v.f, .string x.v.s, v6, v7, v8, v9])) WF := by
  have ho : Only W WF A := by
    rw [hWF]
    exact (((((((((((Only.refl W A).set_ (p := ⟨A, 0, none⟩) (.inl rfl) _).set_ (p := ⟨A, 1, none⟩) (.inl rfl) _).set_ (p := ⟨A, 2, none⟩) (.inl rfl) _).set_ (p := ⟨A, 3, none⟩) (.inl rfl) _).set_ (p := ⟨A, 4, none⟩) (.inl rfl) _).set_ (p := ⟨A, 5, none⟩) (.inl rfl) _).set_ (p := ⟨A, 6, none⟩) (.inl rfl) _).set_ (p := ⟨A, 7, none⟩) (.inl rfl) _).set_ (p := ⟨A, 8, none⟩) (.inl rfl) _).set_ (p := ⟨A, 9, none⟩) (.inl rfl) _)
  have hb : Blk WF A 29 #[.int .i64 x.k, .string x.s, .int .i64 x.v.k, .int .i64 x.v.n, .float .f64 x.v.f, .string x.v.s, v6, v7, v8, v9] := by rw [hWF]; exact blk10_set h.bA (.int .i64 x.k) (.string x.s) (.int .i64 x.v.k) (.int .i64 x.v.n) (.float .f64 x.v.f) (.string x.v.s) (v6) (v7) (v8) (v9)
  have how : Only w WF p := by rw [hWF]; exact only10_set h.only (by rw [h.hA]; exact Nat.le_refl _) (.int .i64 x.k) (.string x.s) (.int .i64 x.v.k) (.int .i64 x.v.n) (.float .f64 x.v.f) (.string x.v.s) (v6) (v7) (v8) (v9)
  refine ⟨hb, x, by unfold Exp.agg; rw [e6, e7, e8, e9], hq, In.only h.hin h.sep (fun b hb => by omega) ho, h.sep.mono (fun b hb => by have := h.hA; omega), ?_, how⟩
  have hpA := h.hp
  refine h.ps.keep2 (h.ps.blk.grown ho (by simp; omega)) ho.size (fun g hg hl => ?_)
  have hgA := h.toks g 0 none hg
  exact ho.block g (by have := h.bA.lt; omega) (by simp; omega)
theorem mid_again {z : Exp} {w4 w5 WZ : World} {j2 d2 : Nat} {v6 v7 v8 v9 : Value} (h : Mid w W A B p tp tc ts en i d x) (hps : PS w4 p tp tc ts en j2 d2) (ho : Only W w4 p) (hb5 : Below w4.heap.size w4 w5) (hz : z.In w5) (hzs : z.Sep (fun b => A + 1 ≤ b ∧ b ≠ B))
    (e6 : z.v.na.val z.v.ns.length = v6) (e7 : z.v.xa.val z.v.xs.length = v7) (e8 : z.na.val z.ns.length = v8) (e9 : z.xa.val z.xs.length = v9)
    (hWZ : WZ = ((((((((((w5.setCell ⟨B, 0, none⟩ (.int .i64 z.k)).setCell ⟨B, 1, none⟩ (.string z.s)).setCell ⟨B, 2, none⟩ (.int .i64 z.v.k)).setCell ⟨B, 3, none⟩ (.int .i64 z.v.n)).setCell ⟨B, 4, none⟩ (.float .f64 z.v.f)).setCell ⟨B, 5, none⟩ (.string z.v.s)).setCell ⟨B, 6, none⟩ v6).setCell ⟨B, 7, none⟩ v7).setCell ⟨B, 8, none⟩ v8).setCell ⟨B, 9, none⟩ v9)) : Mid w WZ A B p tp tc ts en j2 d2 z := by
  have h4 := h.step hps ho
  have hps5 := hps.below hb5
  have bA5 := h4.bA.below hb5 h4.bA.lt
  have bB5 := h4.bB.below hb5 h4.bB.lt
  have ho5 : Only w w5 p := h4.only.trans (Only.of_below hb5 p)
  have hp := h.hp; have hAB := h.hAB; have hA := h.hA
  have hoZ : Only w5 WZ B := by
    rw [hWZ]
    exact (((((((((((Only.refl w5 B).set_ (p := ⟨B, 0, none⟩) (.inl rfl) _).set_ (p := ⟨B, 1, none⟩) (.inl rfl) _).set_ (p := ⟨B, 2, none⟩) (.inl rfl) _).set_ (p := ⟨B, 3, none⟩) (.inl rfl) _).set_ (p := ⟨B, 4, none⟩) (.inl rfl) _).set_ (p := ⟨B, 5, none⟩) (.inl rfl) _).set_ (p := ⟨B, 6, none⟩) (.inl rfl) _).set_ (p := ⟨B, 7, none⟩) (.inl rfl) _).set_ (p := ⟨B, 8, none⟩) (.inl rfl) _).set_ (p := ⟨B, 9, none⟩) (.inl rfl) _)
  have hb : Blk WZ B 29 #[.int .i64 z.k, .string z.s, .int .i64 z.v.k, .int .i64 z.v.n, .float .f64 z.v.f, .string z.v.s, v6, v7, v8, v9] := by
    rw [hWZ]
    unfold Exp.cells at bB5
    exact blk10_set bB5 (.int .i64 z.k) (.string z.s) (.int .i64 z.v.k) (.int .i64 z.v.n) (.float .f64 z.v.f) (.string z.v.s) (v6) (v7) (v8) (v9)
  have how : Only w WZ p := by rw [hWZ]; exact only10_set ho5 (by omega) (.int .i64 z.k) (.string z.s) (.int .i64 z.v.k) (.int .i64 z.v.n) (.float .f64 z.v.f) (.string z.v.s) (v6) (v7) (v8) (v9)
  refine ⟨hA, hp, hAB, ?_, how, bA5.grown hoZ (by simp; omega), ?_, In.only hz hzs (fun b hb => hb.2) hoZ, hzs, h.toks⟩
  · refine hps5.keep2 (hps5.blk.grown hoZ (by simp; omega)) hoZ.size (fun g hg hl => ?_)
    have hgA := h.toks g 0 none hg
    exact hoZ.block g (by have := bA5.lt; omega) (by simp; omega)
  · unfold Exp.cells
    rw [e6, e7, e8, e9]
    exact hb
end
end Go.Proofs.YtjpdbhhjlnmacaaGreat

/- types.own of any type: the same in memory of its own. -/
namespace Go.Proofs.YtjpdbhhjlnmacaaGreat
set_option linter.unusedVariables false
open Go.RowKit

def Owned (t : Ty) (w : World) (e : Ending) (w' : World) : Prop := ∃ u : Ty, e = .returned u.agg ∧ u.erase = t.erase ∧ u.In w' ∧ u.Sep (fun b => w.heap.size ≤ b) ∧ Below w.heap.size w w'
set_option maxHeartbeats 8000000 in
set_option maxRecDepth 100000 in
theorem own_step (d : Nat) (ih : ∀ (t : Ty) (w : World), t.sz ≤ d → t.In w → Calls Tryz.prog 31 #[t.agg] w fun e w' => Owned t w e w') (t : Ty) (w : World) (hd : t.sz ≤ d + 1) (ht : t.In w) : Calls Tryz.prog 31 #[t.agg] w fun e w' => Owned t w e w' := by
  obtain ⟨W, hW⟩ : ∃ W, W = (w.alloc (.cells #[.int .i64 t.k, t.na.val t.ns.length, t.xa.val t.xs.length] 36)).alloc (.cells #[.int .i64 0, .slice none 0 0, .slice none 0 0] 36) := ⟨_, rfl⟩
  have hBW : Below w.heap.size w W := by rw [hW]; exact ((Below.refl _ w).alloc (Nat.le_refl _) _).alloc (by simp) _
  have hb : Blk W w.heap.size 36 #[.int .i64 t.k, t.na.val t.ns.length, t.xa.val t.xs.length] := by rw [hW]; exact (Blk.new w 36 _).alloc _
  have hbr : Blk W (w.heap.size + 1) 36 #[.int .i64 0, .slice none 0 0, .slice none 0 0] := by
    rw [hW]
    have := Blk.new (w.alloc (.cells #[.int .i64 t.k, t.na.val t.ns.length, t.xa.val t.xs.length] 36)) 36 #[.int .i64 0, .slice none 0 0, .slice none 0 0]
    rw [show (w.alloc (.cells #[.int .i64 t.k, t.na.val t.ns.length, t.xa.val t.xs.length] 36)).heap.size = w.heap.size + 1 from by simp] at this
    exact this
  have hWS : W.heap.size = w.heap.size + 2 := by rw [hW]; simp
  have hcl := clone_any _ t.ns W (TNamesAt.of (ht.below hBW)) ht.ok.2.1
  obtain ⟨p4, q4, e4⟩ := ht.nslice
  obtain ⟨p5, q5, e5, hx⟩ := titems_at ht
  rw [e4, e5] at hW hb
  rw [e4] at hcl
  unfold Ty.agg
  rw [e4, e5]
  obtain ⟨A, hA⟩ : ∃ A, A = w.heap.size := ⟨_, rfl⟩
  rw [← hA] at hb hbr hWS
  obtain ⟨M, hM⟩ : ∃ M, M = t.xs.length := ⟨_, rfl⟩
  rw [← hM] at hW hb ⊢
  have hMb : M ≤ 2513169434843 := by rw [hM]; exact ht.ok.2.2.1
  have c0 := hb.cell 0; have c1 := hb.cell 1; have c2 := hb.cell 2; have f1 := hb.frozen 1
  simp at c0 c1 c2
  obtain ⟨i0, hi0, hz0, hz1, hz2⟩ := info_parts tty_facts'
  have HW := Lib.hid hW; have HBW := Lib.hid hBW; have HB := Lib.hid hb; have HBR := Lib.hid hbr; have HA := Lib.hid hA; have HX := Lib.hid hx; have HM := Lib.hid hM; have HIH := Lib.hid ih; have HOK := Lib.hid ht.ok; have HCL := Lib.hid hcl; have HWS := Lib.hid hWS
  have HMM := Lib.hid (show ∀ y, y ∈ t.xs → y.sz ≤ d from fun y hy => by have := Ty.size_mem hy; omega)
  clear hW hBW hb hbr hA hx hM ih ht hcl hd hWS e4 e5
  go_enter Tryz.func31, Tryz.ntmps31
  go_wp2_with fail
  rw [← HW.out, ← HA.out]
  refine HCL.out.mono ?_
  rintro e w3 ⟨sn, rfl, hlie, hsep, hb3⟩
  obtain ⟨p6, q6, e6⟩ := hlie.slice
  rw [e6]
  have hbA := HB.out.below hb3 HB.out.lt
  have hbR := HBR.out.below hb3 HBR.out.lt
  clear c0 c1 c2 f1
  have c1 := hbA.cell 1; have f1 := hbA.frozen 1
  simp at c1
  obtain ⟨W4, hW4⟩ : ∃ W4, W4 = w3.setCell ⟨A, 1, none⟩ (.slice p6 t.ns.length q6) := ⟨_, rfl⟩
  have hbA4 : Blk W4 A 36 #[.int .i64 t.k, .slice p6 t.ns.length q6, .slice p5 M q5] := by rw [hW4]; exact hbA.set_ 1 _
  have hbR4 : Blk W4 (A + 1) 36 #[.int .i64 0, .slice none 0 0, .slice none 0 0] := by rw [hW4]; exact hbR.far (p := ⟨A, 1, none⟩) (by simp) _
  have hB4 : Below w.heap.size w W4 := by rw [hW4]; exact (HBW.out.trans (hb3.mono HBW.out.size)).setCell (p := ⟨A, 1, none⟩) (by show w.heap.size ≤ A; have := HA.out; omega) _
  have hz4 : W4.heap.size = w3.heap.size := by rw [hW4]; simp [World.setCell]
  have hz3 := hb3.size
  have hlie4 : sn.lies W4 1 t.ns.length (fun i => [.string (t.ns.getD i ByteArray.empty)]) := by
    refine hlie.carryS hsep (fun b o hb _ => ?_) (by omega)
    rw [hW4]
    exact World.cell?_setCell_other w3 ⟨A, 1, none⟩ ⟨b, o, none⟩ _ (fun e => by injection e with e _; have := HB.out.lt; omega)
  have HW4 := Lib.hid hW4; have HA4 := Lib.hid hbA4; have HR4 := Lib.hid hbR4; have HB4 := Lib.hid hB4; have HLI := Lib.hid hlie4; have HSP := Lib.hid hsep; have E6 := Lib.hid e6
  have hW34 : W.heap.size ≤ W4.heap.size := by omega
  clear hW4 hbA4 hbR4 hB4 hlie4 hsep e6 hlie hbA hbR hb3 hz4 hz3
  go_upto_region 2 with fail
  rw [← HW4.out]
  clear c1 f1
  have c2 := HA4.out.cell 2
  simp at c2
  go_wp2_with fail
  clear c2
  go_loopw [3, 13] (fun sv iv wr => ∃ (i : Nat) (us : List Ty) (ax : Option Addr) (cx : Nat), sv = .slice ax us.length cx ∧ iv = .int .i64 (i : Int) ∧ i ≤ M ∧ Hid (us.length = i) ∧ Hid (us.map Ty.erase = (t.xs.take i).map Ty.erase) ∧
    Hid (Rowed tyE (fun _ => False) W4.heap.size 36 wr us (.slice ax us.length cx)) ∧ Hid (Below W4.heap.size W4 wr)) (fun _ iv _ => M - (intOf iv).toNat)
  case atStart => exact ⟨0, [], none, 0, rfl, rfl, by omega, Lib.hid rfl, Lib.hid rfl, Lib.hid (rowed_start _), Lib.hid (Below.refl _ _)⟩
  case round =>
    obtain ⟨i, us, ax, cx, rfl, rfl, hi, HUL, HUE, HG, HBL⟩ := hrel
    have hbw : Below w.heap.size w wr := HB4.out.trans (HBL.out.mono HB4.out.size)
    have HBW4 := Lib.hid hbw
    clear hbw
    by_cases hlt : i < M
    · have hil : i < t.xs.length := by rw [← HM.out]; exact hlt
      obtain ⟨xb, xo, rfl, hpx0, hlc⟩ := HX.out i hil
      rw [← HM.out] at hlc
      obtain ⟨x, hxx⟩ : ∃ x, x = t.xs[i]'hil := ⟨_, rfl⟩
      have htk : (t.xs.take (i + 1)).map Ty.erase = (t.xs.take i).map Ty.erase ++ [x.erase] := by rw [List.take_succ_eq_append_getElem hil, List.map_append, hxx]; rfl
      have hxs := HMM.out (t.xs[i]'hil) (by simp)
      rw [← hxx] at hpx0 hxs
      have hpx := hpx0.below HBW4.out
      have u0 := hpx.c0; have u1 := hpx.c1; have u2 := hpx.c2
      obtain ⟨k4, l4, f4⟩ := hpx.in.nslice
      obtain ⟨k5, l5, f5⟩ := hpx.in.xslice
      rw [f4] at u1; rw [f5] at u2
      obtain ⟨W5, hW5⟩ : ∃ W5, W5 = wr.alloc (.cells #[.int .i64 x.k, .slice k4 x.ns.length l4, .slice k5 x.xs.length l5] 36) := ⟨_, rfl⟩
      have hb5 : Below wr.heap.size wr W5 := by rw [hW5]; exact (Below.refl _ _).alloc (Nat.le_refl _) _
      have hbx5 : Blk W5 wr.heap.size 36 #[.int .i64 x.k, .slice k4 x.ns.length l4, .slice k5 x.xs.length l5] := by rw [hW5]; exact Blk.new wr 36 _
      have hc := HIH.out x W5 hxs (hpx.in.below hb5)
      unfold Ty.agg at hc
      rw [f4, f5] at hc
      have hk0 : (0 : Int) ≤ (i : Int) := by omega
      have hk1 : (i : Int) < (M : Int) := by omega
      have hbxl := hpx.2.1
      have HC := Lib.hid hc; have HW5 := Lib.hid hW5; have HB5 := Lib.hid hb5; have HBX := Lib.hid hbx5; have HTK := Lib.hid htk
      have hzr : W4.heap.size ≤ wr.heap.size := HBL.out.size
      clear hc hW5 hb5 hbx5 htk hpx hpx0 hxx hxs hil f4 f5
      go_upto_region 6 with fail
      rw [← HW5.out]
      clear u0 u1 u2
      have u0 := HBX.out.cell 0; have u1 := HBX.out.cell 1; have u2 := HBX.out.cell 2
      simp at u0 u1 u2
      go_wp2_with fail
      refine HC.out.mono ?_
      rintro e w6 ⟨u, rfl, hue, hui, hus, hb6⟩
      obtain ⟨a4, b4, g4⟩ := hui.nslice
      obtain ⟨a5, b5, g5⟩ := hui.xslice
      unfold Ty.agg
      rw [g4, g5]
      have hb06 := HB5.out.trans (hb6.mono HB5.out.size)
      have hz6 := hb06.size
      have hg6 := HG.out.below hb06
      have hus2 : u.Sep (fun b => False ∨ wr.heap.size ≤ b) := hus.mono (fun b hb => .inr (by have := HB5.out.size; omega))
      have hred : Reads (w6.alloc (.cells #[.int .i64 u.k, .slice a4 u.ns.length b4, .slice a5 u.xs.length b5] 36)) (w6.heap.size + 1) 3 (some ⟨w6.heap.size, 0, none⟩) 1 u.cells := by
        unfold Ty.cells; rw [g4, g5]; exact row_reads w6 _ 36
      have hown6 := hg6.items.alloc (.cells #[.int .i64 u.k, .slice a4 u.ns.length b4, .slice a5 u.xs.length b5] 36)
      have hxz : ∀ b, (Value.slice ax us.length cx).ownBlock = some b → b < wr.heap.size := fun b hb => (HG.out.items.lt b hb).2
      have HG6 := Lib.hid hg6; have HRED := Lib.hid hred; have HOWN6 := Lib.hid hown6; have HUI := Lib.hid hui; have HUS := Lib.hid hus2; have HUER := Lib.hid hue; have HXZ := Lib.hid hxz; have HBL6 := Lib.hid (HBL.out.trans (hb06.mono hzr))
      have hul : us.length ≤ M := by rw [HUL.out]; exact hi
      clear hg6 hred hown6 hui hus hus2 hue hxz hb6 hb06 g4 g5 u0 u1 u2
      go_wp2_with (at_builtin; refine wpList_append_any _ rfl _ _ 34 rfl W4.heap.size 36 i0 (.agg #[.int .i64 0, .slice none 0 0, .slice none 0 0]) 3 56 Tryz.underlying34 hi0 hz0 hz1 hz2 rfl (by decide) _ us.length (tyE.row us) rfl HOWN6.out (w6.heap.size + 1) _ 1 _ u.cells rfl HRED.out (tyE.one u) ?c1 ?c2 ?c3 ?_)
      case c1 => unfold maxLen; omega
      case c2 => omega
      case c3 => simp; omega
      intro v' w8 hown' hgrow hor
      have hg8 := Rowed.item (Rowed.below HG6.out ((Below.refl _ w6).alloc (Nat.le_refl _) (.cells #[.int .i64 u.k, .slice a4 u.ns.length b4, .slice a5 u.xs.length b5] 36))) (fun b hb => hb.elim) (by simp; omega) (HUI.out.below ((Below.refl _ w6).alloc (Nat.le_refl _) (.cells #[.int .i64 u.k, .slice a4 u.ns.length b4, .slice a5 u.xs.length b5] 36))) HUS.out hzr HXZ.out hown' hgrow (by simpa using hor)
      have hb8 := (HBL6.out.alloc HBL6.out.size (.cells #[.int .i64 u.k, .slice a4 u.ns.length b4, .slice a5 u.xs.length b5] 36)).grown hgrow (by have := HBL6.out.size; simp; omega) (fun k hk => own_ge HG6.out.items hk)
      obtain ⟨ax', cx', rfl⟩ := row_form hown'
      have HG8 := Lib.hid hg8; have HB8 := Lib.hid hb8
      clear hg8 hb8 hown' hgrow hor
      go_wp2
      go_roundw
      case rel => exact ⟨i + 1, us ++ [u], ax', cx', by simp, by go_num, by omega, Lib.hid (by simp [HUL.out]), Lib.hid (by rw [List.map_append, HUE.out, HTK.out, List.map_cons, List.map_nil, HUER.out]), by simpa using HG8, HB8⟩
      case measure => simp [intOf]; omega
    · obtain rfl : i = M := by omega
      have hA4 := HA4.out.below HBL.out HA4.out.lt
      have hR4 := HR4.out.below HBL.out HR4.out.lt
      have a0 := hA4.cell 0; have a1 := hA4.cell 1; have a2 := hA4.cell 2; have fa2 := hA4.frozen 2
      have hAs := hA4.set_ 2 (.slice ax us.length cx)
      have d0 := hAs.cell 0; have d1 := hAs.cell 1; have d2 := hAs.cell 2
      have hRs := hR4.far (p := ⟨A, 2, none⟩) (by simp) (.slice ax us.length cx)
      have r0 := hRs.cell 0; have r1 := hRs.cell 1; have r2 := hRs.cell 2
      have s0 := hRs.frozen 0; have s1 := hRs.frozen 1; have s2 := hRs.frozen 2
      simp at a0 a1 a2 d0 d1 d2 r0 r1 r2
      obtain ⟨WF, hWF⟩ : ∃ WF, WF = (((wr.setCell ⟨A, 2, none⟩ (.slice ax us.length cx)).setCell ⟨A + 1, 0, none⟩ (.int .i64 t.k)).setCell ⟨A + 1, 1, none⟩ (.slice p6 t.ns.length q6)).setCell ⟨A + 1, 2, none⟩ (.slice ax us.length cx) := ⟨_, rfl⟩
      have hF : Blk WF (A + 1) 36 #[.int .i64 t.k, .slice p6 t.ns.length q6, .slice ax us.length cx] := by rw [hWF]; exact blk3_set hRs _ _ _
      have hBF : Below w.heap.size w WF := by
        rw [hWF]
        exact below3_set (HBW4.out.setCell (p := ⟨A, 2, none⟩) (by show w.heap.size ≤ A; have := HA.out; omega) _) (by have := HA.out; omega) _ _ _
      have hg2 : Rowed tyE (fun _ => False) W4.heap.size 36 WF us (.slice ax us.length cx) := by
        rw [hWF]
        have hl := HR4.out.lt
        exact (((HG.out.set_ (p := ⟨A, 2, none⟩) (fun b hb => hb.elim) (by show A < _; omega) _).set_ (p := ⟨A + 1, 0, none⟩) (fun b hb => hb.elim) hl _).set_ (p := ⟨A + 1, 1, none⟩) (fun b hb => hb.elim) hl _).set_ (p := ⟨A + 1, 2, none⟩) (fun b hb => hb.elim) hl _
      obtain ⟨sx, hsx, hlx, hspx⟩ := trowLies_of_own hg2.items
      have hsn : sn.lies WF 1 t.ns.length (fun i => [.string (t.ns.getD i ByteArray.empty)]) := by
        have h1 : sn.lies wr 1 t.ns.length (fun i => [.string (t.ns.getD i ByteArray.empty)]) := HLI.out.carry (fun b o hlt => HBL.out.cell (p := ⟨b, o, none⟩) hlt) HBL.out.size
        refine h1.carryS HSP.out (fun b o hb _ => ?_) (by rw [hWF]; simp [World.setCell])
        have hne : ∀ (c k : Nat), c = A ∨ c = A + 1 → (⟨c, k, none⟩ : Addr) ≠ ⟨b, o, none⟩ := fun c k hc e => by injection e with e _; have := HBR.out.lt; omega
        rw [hWF, World.cell?_setCell_other _ _ _ _ (hne _ 2 (.inr rfl)), World.cell?_setCell_other _ _ _ _ (hne _ 1 (.inr rfl)), World.cell?_setCell_other _ _ _ _ (hne _ 0 (.inr rfl)), World.cell?_setCell_other _ _ _ _ (hne _ 2 (.inl rfl))]
      have hfin : Owned t w (.returned (.agg #[.int .i64 t.k, .slice p6 t.ns.length q6, .slice ax us.length cx])) WF := by
        refine ⟨.mk t.k sn t.ns sx us, ?_, ?_, ?_, ?_, hBF⟩
        · show _ = Ending.returned (.agg #[.int .i64 t.k, sn.val t.ns.length, sx.val us.length])
          rw [← hsx, E6.out]
        · rw [Ty.erase_eq, Ty.erase_eq t]
          show Ty.mk t.k .no t.ns .no (us.map Ty.erase) = _
          rw [HUE.out, HM.out, List.take_length]
        · rw [Ty.in_iff]
          exact ⟨⟨HOK.out.1, HOK.out.2.1, by show us.length ≤ _; rw [HUL.out]; omega, HOK.out.2.2.2⟩, hsn, hlx, fun y hy => (hg2.each y hy).1⟩
        · rw [Ty.sep_iff]
          have hw2 : w.heap.size ≤ W.heap.size := HBW.out.size
          exact ⟨HSP.out.mono (fun b hb => by omega), hspx.mono (fun b hb => by omega), fun y hy => (hg2.each y hy).2.mono (fun b hb => by rcases hb.1 with h | h; exact h.elim; omega)⟩
      have HWF := Lib.hid hWF; have HF := Lib.hid hF; have HFIN := Lib.hid hfin
      have t1 : decide ((i : Int) < (i : Int)) = false := by simp
      clear hWF hF hfin hBF hg2 hsx hlx hspx hsn hAs hRs hA4 hR4 hlt
      go_wp2_with fail
      rw [← HWF.out]
      clear a0 a1 a2 fa2 d0 d1 d2 r0 r1 r2 s0 s1 s2
      have f0 := HF.out.cell 0; have f1 := HF.out.cell 1; have f2 := HF.out.cell 2
      simp at f0 f1 f2
      refine bodyPost_ret (v := .agg #[.int .i64 t.k, .slice p6 t.ns.length q6, .slice ax us.length cx]) (by simp [results, Tryz.results31, go_sem, f0, f1, f2]) rfl ?_
      exact HFIN.out
theorem own_any : ∀ (d : Nat) (t : Ty) (w : World), t.sz ≤ d → t.In w → Calls Tryz.prog 31 #[t.agg] w fun e w' => Owned t w e w'
  | 0, t, w, hd, _ => by rw [Ty.sz_eq] at hd; omega
  | d + 1, t, w, hd, h => own_step d (fun t w h1 h2 => own_any d t w h1 h2) t w hd h
end Go.Proofs.YtjpdbhhjlnmacaaGreat
