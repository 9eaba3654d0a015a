/- The document's parser: what a step answers; two kids (printed by wip/gen_par2.py). -/
import Derived.Test.YtjpdbhhjlnmacaaGreatTjM28
import Derived.Test.YtjpdbhhjlnmacaaGreatTjM29
import Derived.Test.YtjpdbhhjlnmacaaGreatTjM38
import Derived.Test.YtjpdbhhjlnmacaaGreatTjM40
namespace Go.Proofs.YtjpdbhhjlnmacaaGreat
set_option linter.unusedVariables false
open Go.RowKit

abbrev zero10 : Array Value := #[.int .i64 0, .string ⟨#[]⟩, .int .i64 0, .int .i64 0, .float .f64 0, .string ⟨#[]⟩, .slice none 0 0, .slice none 0 0, .slice none 0 0, .slice none 0 0]
set_option maxHeartbeats 4000000 in
theorem blk10_set {w : World} {g : Nat} {T : TypeId} {x0 x1 x2 x3 x4 x5 x6 x7 x8 x9 : Value} (hb : Blk w g T #[x0, x1, x2, x3, x4, x5, x6, x7, x8, x9]) (u0 u1 u2 u3 u4 u5 u6 u7 u8 u9 : Value) : Blk (((((((((((w.setCell ⟨g, 0, none⟩ u0).setCell ⟨g, 1, none⟩ u1).setCell ⟨g, 2, none⟩ u2).setCell ⟨g, 3, none⟩ u3).setCell ⟨g, 4, none⟩ u4).setCell ⟨g, 5, none⟩ u5).setCell ⟨g, 6, none⟩ u6).setCell ⟨g, 7, none⟩ u7).setCell ⟨g, 8, none⟩ u8).setCell ⟨g, 9, none⟩ u9)) g T #[u0, u1, u2, u3, u4, u5, u6, u7, u8, u9] := by
  have := ((((((((((hb.set_ 0 u0).set_ 1 u1).set_ 2 u2).set_ 3 u3).set_ 4 u4).set_ 5 u5).set_ 6 u6).set_ 7 u7).set_ 8 u8).set_ 9 u9)
  simpa using this
theorem below10_set {B g : Nat} {w W : World} (h : Below B w W) (hg : B ≤ g) (u0 u1 u2 u3 u4 u5 u6 u7 u8 u9 : Value) : Below B w (((((((((((W.setCell ⟨g, 0, none⟩ u0).setCell ⟨g, 1, none⟩ u1).setCell ⟨g, 2, none⟩ u2).setCell ⟨g, 3, none⟩ u3).setCell ⟨g, 4, none⟩ u4).setCell ⟨g, 5, none⟩ u5).setCell ⟨g, 6, none⟩ u6).setCell ⟨g, 7, none⟩ u7).setCell ⟨g, 8, none⟩ u8).setCell ⟨g, 9, none⟩ u9)) :=
  ((((((((((h.setCell (p := ⟨g, 0, none⟩) hg u0).setCell (p := ⟨g, 1, none⟩) hg u1).setCell (p := ⟨g, 2, none⟩) hg u2).setCell (p := ⟨g, 3, none⟩) hg u3).setCell (p := ⟨g, 4, none⟩) hg u4).setCell (p := ⟨g, 5, none⟩) hg u5).setCell (p := ⟨g, 6, none⟩) hg u6).setCell (p := ⟨g, 7, none⟩) hg u7).setCell (p := ⟨g, 8, none⟩) hg u8).setCell (p := ⟨g, 9, none⟩) hg u9)
theorem only10_set {p g : Nat} {w W : World} (h : Only w W p) (hg : w.heap.size ≤ g) (u0 u1 u2 u3 u4 u5 u6 u7 u8 u9 : Value) : Only w (((((((((((W.setCell ⟨g, 0, none⟩ u0).setCell ⟨g, 1, none⟩ u1).setCell ⟨g, 2, none⟩ u2).setCell ⟨g, 3, none⟩ u3).setCell ⟨g, 4, none⟩ u4).setCell ⟨g, 5, none⟩ u5).setCell ⟨g, 6, none⟩ u6).setCell ⟨g, 7, none⟩ u7).setCell ⟨g, 8, none⟩ u8).setCell ⟨g, 9, none⟩ u9)) p :=
  ((((((((((h.set_ (p := ⟨g, 0, none⟩) (.inr hg) u0).set_ (p := ⟨g, 1, none⟩) (.inr hg) u1).set_ (p := ⟨g, 2, none⟩) (.inr hg) u2).set_ (p := ⟨g, 3, none⟩) (.inr hg) u3).set_ (p := ⟨g, 4, none⟩) (.inr hg) u4).set_ (p := ⟨g, 5, none⟩) (.inr hg) u5).set_ (p := ⟨g, 6, none⟩) (.inr hg) u6).set_ (p := ⟨g, 7, none⟩) (.inr hg) u7).set_ (p := ⟨g, 8, none⟩) (.inr hg) u8).set_ (p := ⟨g, 9, none⟩) (.inr hg) u9)
/-- What a step of the parser answers. -/
def PX (Q : Exp → Prop) (p : Nat) (tp : Option Addr) (tc : Nat) (ts : List Tok) (en j d : Nat) (w : World) (e : Ending) (w' : World) : Prop :=
  ∃ x : Exp, e = .returned x.agg ∧ Q x ∧ x.In w' ∧ x.Sep (fun b => w.heap.size ≤ b) ∧ PS w' p tp tc ts en j d ∧ Only w w' p
/-- In the midst of one: room for the result at A, what was read last at B. -/
structure Mid (w W : World) (A B p : Nat) (tp : Option Addr) (tc : Nat) (ts : List Tok) (en i d : Nat) (x : Exp) : Prop where
  hA : A = w.heap.size
  hp : p < A
  hAB : A < B
  ps : PS W p tp tc ts en i d
  only : Only w W p
  bA : Blk W A 29 zero10
  bB : Blk W B 29 x.cells.toArray
  hin : x.In W
  sep : x.Sep (fun b => A + 1 ≤ b ∧ b ≠ B)
  toks : ∀ g o m, tp = some ⟨g, o, m⟩ → ts.length = 0 ∨ g < A
section
variable {w W W' : World} {A B p : Nat} {tp : Option Addr} {tc : Nat} {ts : List Tok} {en i d i' d' : Nat} {x : Exp} {Q : Exp → Prop}
theorem In.only {v : Exp} {S : Nat → Prop} (h : v.In w) (hs : v.Sep S) (hne : ∀ b, S b → b ≠ p) (ho : Only w W p) : v.In W :=
  h.carryS hs (fun b o hb hlt => World.cell?_of_block (a := ⟨b, o, none⟩) (ho.block b hlt (by simpa using hne b hb))) ho.size
theorem Mid.step (h : Mid w W A B p tp tc ts en i d x) (hps : PS W' p tp tc ts en i' d') (ho : Only W W' p) : Mid w W' A B p tp tc ts en i' d' x :=
  ⟨h.hA, h.hp, h.hAB, hps, h.only.trans ho, h.bA.grown ho (by have := h.hp; simp; omega), h.bB.grown ho (by have := h.hp; have := h.hAB; simp; omega), In.only h.hin h.sep (fun b hb => by have := h.hp; omega) ho, h.sep, h.toks⟩
theorem px_ps (h : PS w p tp tc ts en i d) : PS (w.alloc (.cells zero10 29)) p tp tc ts en i d := h.below ((Below.refl _ w).alloc (Nat.le_refl _) _)
theorem PS.toks_lt (h : PS w p tp tc ts en i d) : ∀ g o m, tp = some ⟨g, o, m⟩ → ts.length = 0 ∨ g < w.heap.size := fun g o m e => by
  rcases Nat.eq_zero_or_pos ts.length with h0 | h0
  · exact .inl h0
  · obtain ⟨g', a, b, _⟩ := h.toks.at_ 0 h0
    rw [a] at e
    injection e with e
    injection e with e
    exact .inr (by omega)
theorem PS.keep2 (h : PS w p tp tc ts en i d) (hb : Blk W p 97 #[.slice tp ts.length tc, .int .i64 (i' : Int), .int .i64 (en : Int), .int .i64 0, .int .i64 0, .int .i64 (d' : Int)]) (hz : w.heap.size ≤ W.heap.size) (hk : ∀ g, tp = some ⟨g, 0, none⟩ → 0 < ts.length → W.heap[g]? = w.heap[g]?) : PS W p tp tc ts en i' d' :=
  ⟨hb, ⟨h.toks.cap, fun k hk' => by
    obtain ⟨g, a, b, c⟩ := h.toks.at_ k hk'
    refine ⟨g, a, Nat.lt_of_lt_of_le b hz, fun j hj => ?_⟩
    rw [← c j hj]
    exact World.cell?_of_block (a := ⟨g, k * 6 + j, none⟩) (hk g a (by omega))⟩, h.apart⟩
theorem PS.drew (h : PS w p tp tc ts en i d) : PS w.drew p tp tc ts en i d := h.keep h.blk ((Only.refl w p).drew)
theorem Mid.drew (h : Mid w W A B p tp tc ts en i d x) : Mid w W.drew A B p tp tc ts en i d x := h.step h.ps.drew ((Only.refl W p).drew)
theorem mid_start {i0 d0 : Nat} {w1 : World} {v6 v7 v8 v9 : Value} (h0 : PS w p tp tc ts en i0 d0) (hq : x.In w1) (hs : x.Sep (fun b => (w.alloc (.cells zero10 29)).heap.size ≤ b)) (hps : PS w1 p tp tc ts en i d) (ho : Only (w.alloc (.cells zero10 29)) w1 p)
    (e6 : x.v.na.val x.v.ns.length = v6) (e7 : x.v.xa.val x.v.xs.length = v7) (e8 : x.na.val x.ns.length = v8) (e9 : x.xa.val x.xs.length = v9) :
    Mid w (w1.alloc (.cells #[.int .i64 x.k, .string x.s, .int .i64 x.v.k, .int .i64 x.v.n, .float .f64 x.v.f, .string x.v.s, v6, v7, v8, v9] 29)) w.heap.size w1.heap.size p tp tc ts en i d x := by
  have hb : Below w1.heap.size w1 (w1.alloc (.cells #[.int .i64 x.k, .string x.s, .int .i64 x.v.k, .int .i64 x.v.n, .float .f64 x.v.f, .string x.v.s, v6, v7, v8, v9] 29)) := (Below.refl _ w1).alloc (Nat.le_refl _) _
  have hp := h0.blk.lt
  have hz := ho.size
  simp at hz hs
  have h1 : Blk w1 w.heap.size 29 zero10 := (Blk.new w 29 zero10).grown ho (by simp; omega)
  refine ⟨rfl, hp, by omega, hps.below hb, ((Only.of_below ((Below.refl _ w).alloc (Nat.le_refl _) _) p).trans ho).trans (Only.of_below hb p), h1.alloc _, ?_, hq.below hb, (hs.and hq.sep).mono (fun b hb => by omega), h0.toks_lt⟩
  have := Blk.new w1 29 #[.int .i64 x.k, .string x.s, .int .i64 x.v.k, .int .i64 x.v.n, .float .f64 x.v.f, .string x.v.s, v6, v7, v8, v9]
  unfold Exp.cells
  rw [e6, e7, e8, e9]
  exact this
theorem mid_end {WF : World} {v6 v7 v8 v9 : Value} (h : Mid w W A B p tp tc ts en i d x) (hq : Q x) (e6 : x.v.na.val x.v.ns.length = v6) (e7 : x.v.xa.val x.v.xs.length = v7) (e8 : x.na.val x.ns.length = v8) (e9 : x.xa.val x.xs.length = v9)
    (hWF : WF = ((((((((((W.setCell ⟨A, 0, none⟩ (.int .i64 x.k)).setCell ⟨A, 1, none⟩ (.string x.s)).setCell ⟨A, 2, none⟩ (.int .i64 x.v.k)).setCell ⟨A, 3, none⟩ (.int .i64 x.v.n)).setCell ⟨A, 4, none⟩ (.float .f64 x.v.f)).setCell ⟨A, 5, none⟩ (.string x.v.s)).setCell ⟨A, 6, none⟩ v6).setCell ⟨A, 7, none⟩ v7).setCell ⟨A, 8, none⟩ v8).setCell ⟨A, 9, none⟩ v9)) :
    Blk WF A 29 #[.int .i64 x.k, .string x.s, .int .i64 x.v.k, .int .i64 x.v.n, .float .f64 x.v.f, .string x.v.s, v6, v7, v8, v9] ∧ PX Q p tp tc ts en i d w (.returned (.agg #[.int .i64 x.k, .string x.s, .int .i64 x.v.k, .int .i64 x.v.n, .float .f64 x.v.f, .string x.v.s, v6, v7, v8, v9])) WF := by
  have ho : Only W WF A := by
    rw [hWF]
    exact (((((((((((Only.refl W A).set_ (p := ⟨A, 0, none⟩) (.inl rfl) _).set_ (p := ⟨A, 1, none⟩) (.inl rfl) _).set_ (p := ⟨A, 2, none⟩) (.inl rfl) _).set_ (p := ⟨A, 3, none⟩) (.inl rfl) _).set_ (p := ⟨A, 4, none⟩) (.inl rfl) _).set_ (p := ⟨A, 5, none⟩) (.inl rfl) _).set_ (p := ⟨A, 6, none⟩) (.inl rfl) _).set_ (p := ⟨A, 7, none⟩) (.inl rfl) _).set_ (p := ⟨A, 8, none⟩) (.inl rfl) _).set_ (p := ⟨A, 9, none⟩) (.inl rfl) _)
  have hb : Blk WF A 29 #[.int .i64 x.k, .string x.s, .int .i64 x.v.k, .int .i64 x.v.n, .float .f64 x.v.f, .string x.v.s, v6, v7, v8, v9] := by rw [hWF]; exact blk10_set h.bA (.int .i64 x.k) (.string x.s) (.int .i64 x.v.k) (.int .i64 x.v.n) (.float .f64 x.v.f) (.string x.v.s) (v6) (v7) (v8) (v9)
  have how : Only w WF p := by rw [hWF]; exact only10_set h.only (by rw [h.hA]; exact Nat.le_refl _) (.int .i64 x.k) (.string x.s) (.int .i64 x.v.k) (.int .i64 x.v.n) (.float .f64 x.v.f) (.string x.v.s) (v6) (v7) (v8) (v9)
  refine ⟨hb, x, by unfold Exp.agg; rw [e6, e7, e8, e9], hq, In.only h.hin h.sep (fun b hb => by omega) ho, h.sep.mono (fun b hb => by have := h.hA; omega), ?_, how⟩
  have hpA := h.hp
  refine h.ps.keep2 (h.ps.blk.grown ho (by simp; omega)) ho.size (fun g hg hl => ?_)
  have hgA := h.toks g 0 none hg
  exact ho.block g (by have := h.bA.lt; omega) (by simp; omega)
theorem mid_again {z : Exp} {w4 w5 WZ : World} {j2 d2 : Nat} {v6 v7 v8 v9 : Value} (h : Mid w W A B p tp tc ts en i d x) (hps : PS w4 p tp tc ts en j2 d2) (ho : Only W w4 p) (hb5 : Below w4.heap.size w4 w5) (hz : z.In w5) (hzs : z.Sep (fun b => A + 1 ≤ b ∧ b ≠ B))
    (e6 : z.v.na.val z.v.ns.length = v6) (e7 : z.v.xa.val z.v.xs.length = v7) (e8 : z.na.val z.ns.length = v8) (e9 : z.xa.val z.xs.length = v9)
    (hWZ : WZ = ((((((((((w5.setCell ⟨B, 0, none⟩ (.int .i64 z.k)).setCell ⟨B, 1, none⟩ (.string z.s)).setCell ⟨B, 2, none⟩ (.int .i64 z.v.k)).setCell ⟨B, 3, none⟩ (.int .i64 z.v.n)).setCell ⟨B, 4, none⟩ (.float .f64 z.v.f)).setCell ⟨B, 5, none⟩ (.string z.v.s)).setCell ⟨B, 6, none⟩ v6).setCell ⟨B, 7, none⟩ v7).setCell ⟨B, 8, none⟩ v8).setCell ⟨B, 9, none⟩ v9)) : Mid w WZ A B p tp tc ts en j2 d2 z := by
  have h4 := h.step hps ho
  have hps5 := hps.below hb5
  have bA5 := h4.bA.below hb5 h4.bA.lt
  have bB5 := h4.bB.below hb5 h4.bB.lt
  have ho5 : Only w w5 p := h4.only.trans (Only.of_below hb5 p)
  have hp := h.hp; have hAB := h.hAB; have hA := h.hA
  have hoZ : Only w5 WZ B := by
    rw [hWZ]
    exact (((((((((((Only.refl w5 B).set_ (p := ⟨B, 0, none⟩) (.inl rfl) _).set_ (p := ⟨B, 1, none⟩) (.inl rfl) _).set_ (p := ⟨B, 2, none⟩) (.inl rfl) _).set_ (p := ⟨B, 3, none⟩) (.inl rfl) _).set_ (p := ⟨B, 4, none⟩) (.inl rfl) _).set_ (p := ⟨B, 5, none⟩) (.inl rfl) _).set_ (p := ⟨B, 6, none⟩) (.inl rfl) _).set_ (p := ⟨B, 7, none⟩) (.inl rfl) _).set_ (p := ⟨B, 8, none⟩) (.inl rfl) _).set_ (p := ⟨B, 9, none⟩) (.inl rfl) _)
  have hb : Blk WZ B 29 #[.int .i64 z.k, .string z.s, .int .i64 z.v.k, .int .i64 z.v.n, .float .f64 z.v.f, .string z.v.s, v6, v7, v8, v9] := by
    rw [hWZ]
    unfold Exp.cells at bB5
    exact blk10_set bB5 (.int .i64 z.k) (.string z.s) (.int .i64 z.v.k) (.int .i64 z.v.n) (.float .f64 z.v.f) (.string z.v.s) (v6) (v7) (v8) (v9)
  have how : Only w WZ p := by rw [hWZ]; exact only10_set ho5 (by omega) (.int .i64 z.k) (.string z.s) (.int .i64 z.v.k) (.int .i64 z.v.n) (.float .f64 z.v.f) (.string z.v.s) (v6) (v7) (v8) (v9)
  refine ⟨hA, hp, hAB, ?_, how, bA5.grown hoZ (by simp; omega), ?_, In.only hz hzs (fun b hb => hb.2) hoZ, hzs, h.toks⟩
  · refine hps5.keep2 (hps5.blk.grown hoZ (by simp; omega)) hoZ.size (fun g hg hl => ?_)
    have hgA := h.toks g 0 none hg
    exact hoZ.block g (by have := bA5.lt; omega) (by simp; omega)
  · unfold Exp.cells
    rw [e6, e7, e8, e9]
    exact hb
end
end Go.Proofs.YtjpdbhhjlnmacaaGreat

/- (*checker).own of a list, and of any expression (printed by wip/gen_cown3.py). -/
namespace Go.Proofs.YtjpdbhhjlnmacaaGreat
set_option linter.unusedVariables false
open Go.RowKit

def listR (F : Option Ty) : Except Int Ty := match F with | some t => .ok (.mk 5 .no [] .no [t]) | none => .error 6
theorem foldJ_erase (a : Ty) (l : List Ty) : (foldJ a.erase l).map Ty.erase = (foldJ a l).map Ty.erase := by
  cases l with
  | nil => simp [foldJ, Ty.ee]
  | cons x l => simp only [foldJ, Ty.joinT_eraseL]
theorem foldJ_drop {u v u' : Ty} {ks : List Ty} {i : Nat} (hi : i < ks.length) (h : u.joinT (ks[i]'hi) = some v) (hv : u'.erase = v) : (foldJ u (ks.drop i)).map Ty.erase = (foldJ u' (ks.drop (i + 1))).map Ty.erase := by
  rw [List.drop_eq_getElem_cons hi, foldJ, h, Option.bind_some, ← hv, foldJ_erase]
theorem foldJ_stop {u : Ty} {ks : List Ty} {i : Nat} (hi : i < ks.length) (h : u.joinT (ks[i]'hi) = none) : (foldJ u (ks.drop i)).map Ty.erase = none := by
  rw [List.drop_eq_getElem_cons hi, foldJ, h]
  rfl
/-- A type's cells written over a block. -/
theorem ty_over {W WF : World} {u : Ty} {P : Nat → Prop} {R : Nat} {k4 k5 : Option Addr} {l4 l5 : Nat} {x0 x1 x2 : Value} (hP : ∀ b, P b → b < R) (hr : Blk W R 36 #[x0, x1, x2]) (hi : u.In W) (hs : u.Sep (fun b => P b ∨ R + 1 ≤ b))
    (hWF : WF = ((W.setCell ⟨R, 0, none⟩ (.int .i64 u.k)).setCell ⟨R, 1, none⟩ (.slice k4 u.ns.length l4)).setCell ⟨R, 2, none⟩ (.slice k5 u.xs.length l5)) :
    Blk WF R 36 #[.int .i64 u.k, .slice k4 u.ns.length l4, .slice k5 u.xs.length l5] ∧ u.In WF := by
  refine ⟨by rw [hWF]; exact blk3_set hr _ _ _, ?_⟩
  refine hi.carryS hs (fun b o hb hlt => ?_) (by rw [hWF]; simp [World.setCell])
  have hne : ∀ k, (⟨R, k, none⟩ : Addr) ≠ ⟨b, o, none⟩ := fun k e => by
    injection e with e _
    rcases hb with hb | hb
    · have := hP b hb; omega
    · omega
  rw [hWF, World.cell?_setCell_other _ _ _ _ (hne 2), World.cell?_setCell_other _ _ _ _ (hne 1), World.cell?_setCell_other _ _ _ _ (hne 0)]
/-- A list of one type, in a row of its own. -/
theorem one_row {w : World} {u : Ty} (h : u.In w) : (Ty.mk 5 .no [] (.at_ w.heap.size 0 1) [u]).In (w.alloc (.cells u.cells.toArray 36)) := by
  have hp := PTy.new w u 36 h
  rw [Ty.in_iff]
  refine ⟨⟨by show i64r 5; unfold i64r; decide, by simp [Ty.ns], by simp [Ty.xs], fun s hs => by simp [Ty.ns] at hs⟩, rfl, ?_, fun x hx => ?_⟩
  · refine ⟨Nat.le_refl _, by decide, fun i hi j hj => ?_⟩
    obtain rfl : i = 0 := by simp [Ty.xs] at hi; omega
    refine ⟨?_, by simp⟩
    have := hp.1 j hj
    simp only [Nat.zero_mul, Nat.zero_add] at this ⊢
    rw [this]
    rfl
  · obtain rfl : x = u := by simpa [Ty.xs] using hx
    exact hp.in

set_option maxHeartbeats 8000000 in
set_option maxRecDepth 100000 in
theorem cown_list (C b o : Nat) (x : Exp) (K : Ty) (vp : Option Addr) (vc : Nat) (vs : List Var) (P : Nat → Prop) (w : World) (h : OwnIn C b o x K vp vc vs P w) (hk : x.k = 16) :
    Calls Tryz.prog 52 #[.pointer (some ⟨C, 0, none⟩), .pointer (some ⟨b, o, none⟩), K.xa.val K.xs.length] w fun e w' => GaveE (ownP x K.xs vs) P w e w' := by
  obtain ⟨W, hW⟩ : ∃ W, W = (w.alloc (.cells #[.pointer (some ⟨b, o, none⟩)] 66)).alloc (.cells #[.int .i64 0, .slice none 0 0, .slice none 0 0] 36) := ⟨_, rfl⟩
  have hj : C0 w W b o := by rw [hW]; exact c0_start w b o
  have hIW := h.below hj.below
  obtain ⟨kp, kc, ek, hkat⟩ := titems_at hIW.hK
  rw [ek]
  obtain ⟨A, hA⟩ : ∃ A, A = w.heap.size := ⟨_, rfl⟩
  have bp := hj.bp; have br := hj.br; have hWS := hj.size
  rw [← hA] at bp br hWS
  have p0 := bp.cell 0
  simp at p0
  have HW := Lib.hid hW; have HA := Lib.hid hA; have HBW := Lib.hid hj.below; have BP := Lib.hid bp; have BR := Lib.hid br; have HI := Lib.hid hIW; have HP := Lib.hid h.hP; have HWS := Lib.hid hWS; have HKAT := Lib.hid hkat
  have x0 := hIW.hx.c0
  rw [hk] at x0
  obtain ⟨R, hR⟩ : ∃ R, R = ownP x K.xs vs := ⟨_, rfl⟩
  rw [← hR]
  obtain ⟨F, hF⟩ : ∃ F, F = (foldJ (Ty.of 7) K.xs).map Ty.erase := ⟨_, rfl⟩
  have hR2 : R = listR F := by
    rw [hR, hF]; unfold ownP; rw [if_neg (by omega), if_neg (by omega), if_neg (by omega), if_pos hk]
    cases foldJ (Ty.of 7) K.xs <;> rfl
  have hMb : K.xs.length ≤ 2513169434843 := hIW.hK.ok.2.2.1
  obtain ⟨M, hM⟩ : ∃ M, M = K.xs.length := ⟨_, rfl⟩
  rw [← hM] at hMb ⊢
  have HR2 := Lib.hid hR2; have HF := Lib.hid hF; have HM := Lib.hid hM; have HOF := Lib.hid (fun W => of_any 7 W); have HKS := Lib.hid h.hKS; have HKR := Lib.hid h.hKR
  clear hW hA hj hIW hkat hR hR2 hk ek bp br hWS h hF hM
  go_enter Tryz.func52, Tryz.ntmps52
  go_upto_region 1 with fail
  rw [← HW.out, ← HA.out]
  go_wp2_with fail
  refine (HOF.out _).mono ?_
  rintro e w5 ⟨rfl, hb5⟩
  obtain ⟨T, hT⟩ : ∃ T, T = w5.heap.size := ⟨_, rfl⟩
  obtain ⟨W6, hW6⟩ : ∃ W6, W6 = w5.alloc (.cells #[.int .i64 7, .slice none 0 0, .slice none 0 0] 36) := ⟨_, rfl⟩
  have hb6 : Below W.heap.size W W6 := by rw [hW6]; exact hb5.alloc hb5.size _
  have hbt : Blk W6 T 36 #[.int .i64 7, .slice none 0 0, .slice none 0 0] := by rw [hW6, hT]; exact Blk.new w5 36 _
  have hWT : W.heap.size ≤ T := by rw [hT]; exact hb5.size
  have HW6 := Lib.hid hW6; have B6 := Lib.hid hb6; have HBT := Lib.hid hbt; have HT := Lib.hid hT; have HWT := Lib.hid hWT
  clear hW6 hb6 hbt hb5 hT hWT
  go_upto_region 13 with fail
  rw [← HW6.out, ← HT.out]
  go_wp2_with fail
  go_loopw [63] (fun iv wr => ∃ (i : Nat) (u : Ty) (k4 k5 : Option Addr) (l4 l5 : Nat), iv = .int .i64 (i : Int) ∧ i ≤ M ∧ Hid (Blk wr T 36 #[.int .i64 u.k, .slice k4 u.ns.length l4, .slice k5 u.xs.length l5]) ∧
    Hid (u.na.val u.ns.length = .slice k4 u.ns.length l4) ∧ Hid (u.xa.val u.xs.length = .slice k5 u.xs.length l5) ∧ Hid (u.In wr) ∧ Hid (u.Sep (fun b => P b ∨ T + 1 ≤ b)) ∧ Hid (u.rightB 1 = true) ∧ Hid (F = (foldJ u (K.xs.drop i)).map Ty.erase) ∧ Hid (Below W.heap.size W wr)) (fun iv _ => M - (intOf iv).toNat)
  case atStart => exact ⟨0, Ty.of 7, none, none, 0, 0, rfl, by omega, HBT, Lib.hid rfl, Lib.hid rfl, Lib.hid (of_in 7 (by unfold i64r; decide) _), Lib.hid (of_sep _ _), Lib.hid (by rw [Ty.rightB_mk]; decide), Lib.hid (by rw [HF.out]; rfl), B6⟩
  case round =>
    obtain ⟨i, u, k4, k5, l4, l5, rfl, hi, HB, E4, E5, HIN, HSEP, HRI, HFO, HBL⟩ := hrel
    by_cases hlt : i < M
    · have hil : i < K.xs.length := by rw [← HM.out]; exact hlt
      obtain ⟨xb, xo, rfl, hpx0, hlc⟩ := HKAT.out i hil
      rw [← HM.out] at hlc
      obtain ⟨y, hy⟩ : ∃ y, y = K.xs[i]'hil := ⟨_, rfl⟩
      have hym : y ∈ K.xs := by rw [hy]; simp
      rw [← hy] at hpx0
      have hpx := hpx0.below HBL.out
      have u0 := hpx.c0; have u1 := hpx.c1; have u2 := hpx.c2
      obtain ⟨m4, n4, g4⟩ := hpx.in.nslice
      obtain ⟨m5, n5, g5⟩ := hpx.in.xslice
      rw [g4] at u1; rw [g5] at u2
      obtain ⟨W5, hW5⟩ : ∃ W5, W5 = wr.alloc (.cells #[.int .i64 y.k, .slice m4 y.ns.length n4, .slice m5 y.xs.length n5] 36) := ⟨_, rfl⟩
      have hb5 : Below wr.heap.size wr W5 := by rw [hW5]; exact (Below.refl _ _).alloc (Nat.le_refl _) _
      have hbx5 : Blk W5 wr.heap.size 36 #[.int .i64 y.k, .slice m4 y.ns.length n4, .slice m5 y.xs.length n5] := by rw [hW5]; exact Blk.new wr 36 _
      have hTw : T < wr.heap.size := HB.out.lt
      have hwW : W.heap.size ≤ wr.heap.size := HBL.out.size
      have hww : w.heap.size ≤ W.heap.size := HBW.out.size
      have hsu : u.Sep (fun b => P b ∨ (T + 1 ≤ b ∧ b < W5.heap.size)) := (HSEP.out.and HIN.out.sep).mono (fun b hb => by
        rcases hb.1 with h | h
        · exact .inl h
        · exact .inr ⟨h, Nat.lt_of_lt_of_le hb.2 hb5.size⟩)
      have hc := join_any u.sz u y (fun b => P b ∨ (T + 1 ≤ b ∧ b < W5.heap.size)) W5 (Nat.le_refl _) (fun b hb => by
        have h5 := hb5.size
        rcases hb with h | h
        · have := HP.out b h; omega
        · exact h.2) (HIN.out.below hb5) (hpx.in.below hb5) ⟨1, HRI.out⟩ ⟨1, HKR.out y hym⟩ hsu ((HKS.out.kid hym).mono (fun b hb => .inl hb))
      obtain ⟨JT, hJT⟩ : ∃ JT, JT = u.joinT y := ⟨_, rfl⟩
      rw [← hJT] at hc
      unfold Ty.agg at hc
      rw [g4, g5, E4.out, E5.out] at hc
      have hk0 : (0 : Int) ≤ (i : Int) := by omega
      have hk1 : (i : Int) < (M : Int) := by omega
      have HC := Lib.hid hc; have HW5 := Lib.hid hW5; have HB5 := Lib.hid hb5; have HBX := Lib.hid hbx5; have HJT := Lib.hid hJT; have HY := Lib.hid hy
      have HYM := Lib.hid hym
      have HSZ := Lib.hid hTw
      clear hc hW5 hb5 hbx5 hpx hpx0 hJT hsu hym g4 g5 hTw hwW hww hy
      go_upto_region 16 with fail
      rw [← HW5.out]
      clear u0 u1 u2
      have u0 := HBX.out.cell 0; have u1 := HBX.out.cell 1; have u2 := HBX.out.cell 2
      have hbT5 := HB.out.below HB5.out HB.out.lt
      have t0 := hbT5.cell 0; have t1 := hbT5.cell 1; have t2 := hbT5.cell 2
      simp at u0 u1 u2 t0 t1 t2
      clear hbT5
      go_wp2_with fail
      refine HC.out.mono ?_
      cases JT with
      | none =>
        rintro e w6 ⟨hb6, rfl⟩
        have B7 := Lib.hid (HBL.out.trans ((HB5.out.trans (hb6.mono HB5.out.size)).mono HBL.out.size))
        have HRN : Hid (R = .error 6) := Lib.hid (by
          rw [HR2.out, HFO.out, foldJ_stop hil (by rw [← HY.out, ← HJT.out])]; rfl)
        clear hb6
        unfold gave
        go_wp2
        refine ⟨rfl, HBW.out.trans ((B7.out).mono HBW.out.size), ?_⟩
        rw [HRN.out]
        rfl
      | some v =>
        rintro e w6 ⟨hb6, u', rfl, hue, hui, hus⟩
        obtain ⟨a4, b4, f4⟩ := hui.nslice
        obtain ⟨a5, b5, f5⟩ := hui.xslice
        have hag : u'.agg = .agg #[.int .i64 u'.k, .slice a4 u'.ns.length b4, .slice a5 u'.xs.length b5] := by unfold Ty.agg; rw [f4, f5]
        rw [hag]
        have hr06 := HB5.out.trans (hb6.mono HB5.out.size)
        have hbT := HB.out.below hr06 HB.out.lt
        have r0 := hbT.cell 0; have r1 := hbT.cell 1; have r2 := hbT.cell 2
        have s0 := hbT.frozen 0; have s1 := hbT.frozen 1; have s2 := hbT.frozen 2
        simp at r0 r1 r2
        obtain ⟨WF, hWF⟩ : ∃ WF, WF = ((w6.setCell ⟨T, 0, none⟩ (.int .i64 u'.k)).setCell ⟨T, 1, none⟩ (.slice a4 u'.ns.length b4)).setCell ⟨T, 2, none⟩ (.slice a5 u'.xs.length b5) := ⟨_, rfl⟩
        have hsu : u'.Sep (fun b => P b ∨ T + 1 ≤ b) := hus.mono (fun b hb => by
          have h5 := HB5.out.size; have h6 := HSZ.out
          rcases hb with h | h
          · rcases h with h | h
            · exact .inl h
            · exact .inr h.1
          · exact .inr (by omega))
        obtain ⟨hTF, hIF⟩ := ty_over (fun b hb => by have := HP.out b hb; have h2 := HBW.out.size; have h3 := HWT.out; omega) hbT hui hsu hWF
        have hBF : Below W.heap.size W WF := by rw [hWF]; exact below3_set (HBL.out.trans (hr06.mono HBL.out.size)) HWT.out _ _ _
        have HWF := Lib.hid hWF; have HTF := Lib.hid hTF; have HIF := Lib.hid hIF; have HBF := Lib.hid hBF; have HSU := Lib.hid hsu; have F4 := Lib.hid f4; have F5 := Lib.hid f5
        have HRT : Hid (u'.rightB 1 = true) := Lib.hid (by
          rw [← Ty.rightB_erase u'.sz u' 1 (Nat.le_refl _), hue]
          exact joinT_right HRI.out (HKR.out y HYM.out) HJT.out.symm)
        have HF2 : Hid (F = (foldJ u' (K.xs.drop (i + 1))).map Ty.erase) := Lib.hid (by
          rw [HFO.out]
          exact foldJ_drop hil (by rw [← HY.out, ← HJT.out]) hue)
        clear hWF hTF hIF hBF hsu f4 f5 hag hr06 hbT hb6 hui hus hue u0 u1 u2 t0 t1 t2
        go_wp2_with fail
        rw [← HWF.out]
        go_roundw
        case rel => exact ⟨i + 1, u', a4, a5, b4, b5, by go_num, by omega, HTF, F4, F5, HIF, HSU, HRT, HF2, HBF⟩
        case measure => simp [intOf]; omega
    · obtain rfl : i = M := by omega
      have t0 := HB.out.cell 0; have t1 := HB.out.cell 1; have t2 := HB.out.cell 2
      simp at t0 t1 t2
      have hlt2 : decide ((i : Int) < (i : Int)) = false := by simp
      have HRS : Hid (R = .ok (Ty.mk 5 .no [] (.at_ wr.heap.size 0 1) [u]).erase) := Lib.hid (by
        rw [HR2.out, HFO.out, HM.out, List.drop_length, Ty.erase_eq]
        rfl)
      obtain ⟨W9, hW9⟩ : ∃ W9, W9 = wr.alloc (.cells #[.int .i64 u.k, .slice k4 u.ns.length l4, .slice k5 u.xs.length l5] 36) := ⟨_, rfl⟩
      have hb9 : Below W.heap.size W W9 := by rw [hW9]; exact HBL.out.alloc HBL.out.size _
      have hU := one_row HIN.out
      have hcl : u.cells.toArray = #[.int .i64 u.k, .slice k4 u.ns.length l4, .slice k5 u.xs.length l5] := by unfold Ty.cells; rw [E4.out, E5.out]
      rw [hcl, ← hW9] at hU
      have hTw : T < wr.heap.size := HB.out.lt
      have hUS : (Ty.mk 5 .no [] (.at_ wr.heap.size 0 1) [u]).Sep (fun b => P b ∨ A + 1 + 1 ≤ b) := by
        rw [Ty.sep_iff]
        refine ⟨trivial, .inr (by have h1 := HBL.out.size; have h2 := HWS.out; omega), fun y hy => ?_⟩
        obtain rfl : y = u := by simpa [Ty.xs] using hy
        exact HSEP.out.mono (fun b hb => by
          rcases hb with h | h
          · exact .inl h
          · exact .inr (by have h1 := HWT.out; have h2 := HWS.out; omega))
      have HW9 := Lib.hid hW9; have B9 := Lib.hid hb9
      have hbr := BR.out.below (B9.out) BR.out.lt
      have r0 := hbr.cell 0; have r1 := hbr.cell 1; have r2 := hbr.cell 2
      have s0 := hbr.frozen 0; have s1 := hbr.frozen 1; have s2 := hbr.frozen 2
      simp at r0 r1 r2
      obtain ⟨WF, hWF⟩ : ∃ WF, WF = ((W9.setCell ⟨A + 1, 0, none⟩ (.int .i64 5)).setCell ⟨A + 1, 1, none⟩ (.slice none 0 0)).setCell ⟨A + 1, 2, none⟩ (.slice (some ⟨wr.heap.size, 0, none⟩) 1 1) := ⟨_, rfl⟩
      have hres := res_storedE (u := Ty.mk 5 .no [] (.at_ wr.heap.size 0 1) [u]) (k4 := none) (k5 := (some ⟨wr.heap.size, 0, none⟩)) (l4 := 0) (l5 := 1) (R := A + 1) (by rw [HA.out]; omega) HP.out (HBW.out.trans ((B9.out).mono HBW.out.size)) hbr (hU) (hUS) (rfl) (rfl) hWF
      have HRES := Lib.hid hres; have HWF := Lib.hid hWF
      clear HWF
      have hbr0 := BR.out.below HBL.out BR.out.lt
      have hlr0 := hbr0.lt
      have hWF2 : WF = (((wr.setCell ⟨A + 1, 0, none⟩ (.int .i64 5)).setCell ⟨A + 1, 1, none⟩ (.slice none 0 0)).setCell ⟨A + 1, 2, none⟩ (.slice (some ⟨wr.heap.size, 0, none⟩) 1 1)).alloc (.cells #[.int .i64 u.k, .slice k4 u.ns.length l4, .slice k5 u.xs.length l5] 36) := by
        rw [hWF, hW9]
        simp [go_sem, hlr0]
      have HWF := Lib.hid hWF2
      clear hres hWF hbr hb9 hU hcl hUS hlt hW9 r0 r1 r2 s0 s1 s2 hWF2 hlr0 hbr0
      have hbr := BR.out.below HBL.out BR.out.lt
      have r0 := hbr.cell 0; have r1 := hbr.cell 1; have r2 := hbr.cell 2
      have s0 := hbr.frozen 0; have s1 := hbr.frozen 1; have s2 := hbr.frozen 2
      simp at r0 r1 r2
      have hlr := hbr.lt
      clear hbr
      go_wp2_with fail
      rw [← HWF.out]
      obtain ⟨hF, hJ⟩ := HRES.out
      have f0 := hF.cell 0; have f1 := hF.cell 1; have f2 := hF.cell 2
      simp [Ty.k, Ty.ns, Ty.xs] at f0 f1 f2
      refine bodyPost_ret (v := .agg #[.int .i64 5, .slice none 0 0, .slice (some ⟨wr.heap.size, 0, none⟩) 1 1]) (by simp [results, Tryz.results52, go_sem, f0, f1, f2]) rfl ?_
      rw [HRS.out]
      exact hJ
end Go.Proofs.YtjpdbhhjlnmacaaGreat
