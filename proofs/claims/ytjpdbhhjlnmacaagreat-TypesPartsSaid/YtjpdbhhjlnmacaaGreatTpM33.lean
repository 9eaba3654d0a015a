/- types.Join and types.Is of any two types. -/
import Derived.Test.YtjpdbhhjlnmacaaGreatTpM32
namespace Go.Proofs.YtjpdbhhjlnmacaaGreat
set_option linter.unusedVariables false
open Go.RowKit

/-- What types.Join answers. -/
def Ty.joinF (a b : Ty) : Except Int Ty := bif a.RightB && b.RightB then (match a.joinT b with | some v => .ok v | none => .error 6) else .error 2
def JoinRes (r : Except Int Ty) (P : Nat → Prop) (w : World) (e : Ending) (w' : World) : Prop :=
  Below w.heap.size w w' ∧ match r with
  | .ok v => ∃ u : Ty, e = .returned (.tuple #[u.agg, .int .i64 0]) ∧ u.erase = v ∧ u.In w' ∧ u.Sep (fun b => P b ∨ w.heap.size ≤ b)
  | .error k => e = .returned (.tuple #[Ty.zero.agg, .int .i64 k])
theorem RightB.some {a : Ty} (h : a.RightB = true) : ∃ n, a.rightB n = true := by
  unfold Ty.RightB at h
  rw [Bool.and_eq_true] at h
  exact ⟨1, h.2⟩
/-- A catch behind a panic: what it leaves. -/
theorem caught_blk {w : World} {T E : Nat} {k : Int} {x0 x1 x2 y : Value} (hT : Blk w T 36 #[x0, x1, x2]) (hE : Blk w E 37 #[y]) (hne : T ≠ E) :
    Blk (caughtW w T E k) T 36 #[.int .i64 0, .slice none 0 0, .slice none 0 0] ∧ Blk (caughtW w T E k) E 37 #[.int .i64 k] :=
  ⟨(blk3_set hT _ _ _).far (p := ⟨E, 0, none⟩) hne _, (((hE.far (p := ⟨T, 0, none⟩) (Ne.symm hne) _).far (p := ⟨T, 1, none⟩) (Ne.symm hne) _).far (p := ⟨T, 2, none⟩) (Ne.symm hne) _).set_ 0 _⟩
theorem caught_below {B : Nat} {w W : World} {T E : Nat} {k : Int} (h : Below B w W) (hT : B ≤ T) (hE : B ≤ E) : Below B w (caughtW W T E k) := (below3_set h hT _ _ _).setCell (p := ⟨E, 0, none⟩) hE _
/-- Where it begins: two by value, room for the results. -/
structure J4 (w W : World) (a b : Ty) : Prop where
  below : Below w.heap.size w W
  ba : Blk W w.heap.size 36 #[.int .i64 a.k, a.na.val a.ns.length, a.xa.val a.xs.length]
  bb : Blk W (w.heap.size + 1) 36 #[.int .i64 b.k, b.na.val b.ns.length, b.xa.val b.xs.length]
  br : Blk W (w.heap.size + 1 + 1) 36 #[.int .i64 0, .slice none 0 0, .slice none 0 0]
  be : Blk W (w.heap.size + 1 + 1 + 1) 37 #[.int .i64 0]
theorem j4_start (w : World) (a b : Ty) : J4 w ((((w.alloc (.cells #[.int .i64 a.k, a.na.val a.ns.length, a.xa.val a.xs.length] 36)).alloc (.cells #[.int .i64 b.k, b.na.val b.ns.length, b.xa.val b.xs.length] 36)).alloc (.cells #[.int .i64 0, .slice none 0 0, .slice none 0 0] 36)).alloc (.cells #[.int .i64 0] 37)) a b := by
  have h := j0_start w a b #[.int .i64 0, .slice none 0 0, .slice none 0 0]
  obtain ⟨W, hW⟩ : ∃ W, W = (((w.alloc (.cells #[.int .i64 a.k, a.na.val a.ns.length, a.xa.val a.xs.length] 36)).alloc (.cells #[.int .i64 b.k, b.na.val b.ns.length, b.xa.val b.xs.length] 36)).alloc (.cells #[.int .i64 0, .slice none 0 0, .slice none 0 0] 36)) := ⟨_, rfl⟩
  have hz : W.heap.size = w.heap.size + 1 + 1 + 1 := by rw [hW]; simp
  rw [← hW] at h ⊢
  have h5 := Blk.new W 37 #[.int .i64 0]
  rw [hz] at h5
  exact ⟨h.below.alloc h.below.size _, h.ba.alloc _, h.bb.alloc _, h.br.alloc _, h5⟩

set_option maxHeartbeats 4000000 in
set_option maxRecDepth 100000 in
theorem joinf_any (a b : Ty) (P : Nat → Prop) (w : World) (hP : ∀ b, P b → b < w.heap.size) (ha : a.In w) (hb : b.In w) (hsa : a.Sep P) (hsb : b.Sep P) :
    Calls Tryz.prog 17 #[a.agg, b.agg] w fun e w' => JoinRes (a.joinF b) P w e w' := by
  obtain ⟨W, hW⟩ : ∃ W, W = (((w.alloc (.cells #[.int .i64 a.k, a.na.val a.ns.length, a.xa.val a.xs.length] 36)).alloc (.cells #[.int .i64 b.k, b.na.val b.ns.length, b.xa.val b.xs.length] 36)).alloc (.cells #[.int .i64 0, .slice none 0 0, .slice none 0 0] 36)).alloc (.cells #[.int .i64 0] 37) := ⟨_, rfl⟩
  have hj : J4 w W a b := by rw [hW]; exact j4_start w a b
  have hra := fun (W' : World) (h : Below W.heap.size W W') => tright_any a W' ((ha.below hj.below).below h)
  have hrb := fun (W' : World) (h : Below W.heap.size W W') => tright_any b W' ((hb.below hj.below).below h)
  have hjn := fun (W' : World) (h : Below W.heap.size W W') (h1 : a.RightB = true) (h2 : b.RightB = true) => join_any a.sz a b P W' (Nat.le_refl _) (fun b hb => Nat.lt_of_lt_of_le (hP b hb) (Nat.le_trans hj.below.size h.size)) ((ha.below hj.below).below h) ((hb.below hj.below).below h) (RightB.some h1) (RightB.some h2) hsa hsb
  obtain ⟨p4, q4, e4⟩ := ha.nslice
  obtain ⟨p5, q5, e5⟩ := ha.xslice
  obtain ⟨r4, t4, g4⟩ := hb.nslice
  obtain ⟨r5, t5, g5⟩ := hb.xslice
  obtain ⟨A, hA⟩ : ∃ A, A = w.heap.size := ⟨_, rfl⟩
  have ba := hj.ba; have bb := hj.bb; have br := hj.br; have be := hj.be
  rw [← hA] at ba bb br be
  rw [e4, e5] at ba
  rw [g4, g5] at bb
  rw [e4, e5, g4, g5] at hW
  unfold Ty.agg at hra hrb hjn ⊢
  rw [e4, e5] at hra hjn ⊢
  rw [g4, g5] at hrb hjn ⊢
  have a0 := ba.cell 0; have a1 := ba.cell 1; have a2 := ba.cell 2
  have b0 := bb.cell 0; have b1 := bb.cell 1; have b2 := bb.cell 2
  simp at a0 a1 a2 b0 b1 b2
  have hE : a.joinF b = bif a.RightB && b.RightB then (match a.joinT b with | some v => .ok v | none => .error 6) else .error 2 := rfl
  obtain ⟨J, hJ⟩ : ∃ J, J = a.joinF b := ⟨_, rfl⟩
  obtain ⟨RA, hRA⟩ : ∃ RA, RA = a.RightB := ⟨_, rfl⟩
  obtain ⟨RB, hRB⟩ : ∃ RB, RB = b.RightB := ⟨_, rfl⟩
  obtain ⟨JT, hJT⟩ : ∃ JT, JT = a.joinT b := ⟨_, rfl⟩
  rw [← hJ] at hE ⊢
  rw [← hRA] at hE hra hjn
  rw [← hRB] at hE hrb hjn
  rw [← hJT] at hE hjn
  have HW := Lib.hid hW; have HA := Lib.hid hA; have HJ := Lib.hid hj.below; have BA := Lib.hid ba; have BB := Lib.hid bb; have BR := Lib.hid br; have BE := Lib.hid be; have HE := Lib.hid hE
  have HRA := Lib.hid hra; have HRB := Lib.hid hrb; have HJN := Lib.hid hjn
  have hA2 : w.heap.size ≤ A + 1 + 1 := by omega
  have HA2 := Lib.hid hA2
  clear hW hA hj ba bb br be hE hra hrb hjn e4 e5 g4 g5 hsa hsb ha hb hJ hRA hRB hJT hA2
  go_enter_defers Tryz.func17, Tryz.ntmps17
  go_wp2_with fail
  rw [← HW.out, ← HA.out]
  refine (HRA.out _ (Below.refl _ _)).mono ?_
  rintro e w1 ⟨rfl, hb1⟩
  have B1 := Lib.hid hb1
  clear hb1
  cases RA with
  | false =>
    go_wp2_with fail
    refine (tmust_false _ _ _ rfl).mono ?_
    rintro e w2 ⟨rfl, rfl⟩
    have hT := BR.out.below B1.out BR.out.lt
    have hE := BE.out.below B1.out BE.out.lt
    obtain ⟨kT, kE⟩ := caught_blk (k := 2) hT hE (by omega)
    have e0 := kT.cell 0; have e1 := kT.cell 1; have e2 := kT.cell 2; have e3 := kE.cell 0
    simp at e0 e1 e2 e3
    have E0 := Lib.hid e0; have E1 := Lib.hid e1; have E2 := Lib.hid e2; have E3 := Lib.hid e3; have HT := Lib.hid hT; have HEE := Lib.hid hE
    have HBF := Lib.hid (caught_below (k := 2) (HJ.out.trans (Below.mono B1.out HJ.out.size)) HA2.out (Nat.le_succ_of_le HA2.out))
    have HER : Hid (J = .error 2) := Lib.hid (by rw [HE.out]; rfl)
    clear kT kE e0 e1 e2 e3 hT hE
    unfold gave
    go_wp2
    refine leaves_cons (f := 27) (args := #[.pointer (some ⟨A + 1 + 1, 0, none⟩), .pointer (some ⟨A + 1 + 1 + 1, 0, none⟩)]) (by simp) (by simp [go_sem]) ?_
    refine (caught_panicking _ _ 2 _ _ _ _ [] _ HT.out HEE.out (by omega)).mono ?_
    rintro e u' w'' ⟨rfl, rfl, rfl⟩
    have e0 := E0.out; have e1 := E1.out; have e2 := E2.out; have e3 := E3.out
    simp [Leaves, settle, results, Tryz.results17, go_sem, e0, e1, e2, e3]
    refine ⟨HBF.out, ?_⟩
    rw [HER.out]
    rfl
  | true =>
    clear a0 a1 a2 b0 b1 b2
    have ba := BA.out.below B1.out BA.out.lt
    have bb := BB.out.below B1.out BB.out.lt
    have a0 := ba.cell 0; have a1 := ba.cell 1; have a2 := ba.cell 2
    have b0 := bb.cell 0; have b1 := bb.cell 1; have b2 := bb.cell 2
    simp at a0 a1 a2 b0 b1 b2
    clear ba bb
    go_wp2_with fail
    refine (HRB.out _ B1.out).mono ?_
    rintro e w2 ⟨rfl, hb2⟩
    have B2 := Lib.hid (B1.out.trans (hb2.mono B1.out.size))
    clear hb2
    cases RB with
    | false =>
      go_wp2_with fail
      refine (tmust_false _ _ _ rfl).mono ?_
      rintro e w3 ⟨rfl, rfl⟩
      have hT := BR.out.below B2.out BR.out.lt
      have hE := BE.out.below B2.out BE.out.lt
      obtain ⟨kT, kE⟩ := caught_blk (k := 2) hT hE (by omega)
      have e0 := kT.cell 0; have e1 := kT.cell 1; have e2 := kT.cell 2; have e3 := kE.cell 0
      simp at e0 e1 e2 e3
      have E0 := Lib.hid e0; have E1 := Lib.hid e1; have E2 := Lib.hid e2; have E3 := Lib.hid e3; have HT := Lib.hid hT; have HEE := Lib.hid hE
      have HBF := Lib.hid (caught_below (k := 2) (HJ.out.trans (Below.mono B2.out HJ.out.size)) HA2.out (Nat.le_succ_of_le HA2.out))
      have HER : Hid (J = .error 2) := Lib.hid (by rw [HE.out]; rfl)
      clear kT kE e0 e1 e2 e3 hT hE
      unfold gave
      go_wp2
      refine leaves_cons (f := 27) (args := #[.pointer (some ⟨A + 1 + 1, 0, none⟩), .pointer (some ⟨A + 1 + 1 + 1, 0, none⟩)]) (by simp) (by simp [go_sem]) ?_
      refine (caught_panicking _ _ 2 _ _ _ _ [] _ HT.out HEE.out (by omega)).mono ?_
      rintro e u' w'' ⟨rfl, rfl, rfl⟩
      have e0 := E0.out; have e1 := E1.out; have e2 := E2.out; have e3 := E3.out
      simp [Leaves, settle, results, Tryz.results17, go_sem, e0, e1, e2, e3]
      refine ⟨HBF.out, ?_⟩
      rw [HER.out]
      rfl
    | true =>
      clear a0 a1 a2 b0 b1 b2
      have ba := BA.out.below B2.out BA.out.lt
      have bb := BB.out.below B2.out BB.out.lt
      have a0 := ba.cell 0; have a1 := ba.cell 1; have a2 := ba.cell 2
      have b0 := bb.cell 0; have b1 := bb.cell 1; have b2 := bb.cell 2
      simp at a0 a1 a2 b0 b1 b2
      have HC := Lib.hid (HJN.out w2 B2.out (by trivial) (by trivial))
      clear ba bb
      go_wp2_with fail
      refine (tmust_true _ _ _ rfl).mono ?_
      rintro e w3 ⟨rfl, rfl⟩
      go_wp2_with fail
      refine HC.out.mono ?_
      cases JT with
      | none =>
        rintro e w4 ⟨hb4, rfl⟩
        have B4 := Lib.hid (B2.out.trans (hb4.mono B2.out.size))
        clear hb4
        have hT := BR.out.below B4.out BR.out.lt
        have hE := BE.out.below B4.out BE.out.lt
        obtain ⟨kT, kE⟩ := caught_blk (k := 6) hT hE (by omega)
        have e0 := kT.cell 0; have e1 := kT.cell 1; have e2 := kT.cell 2; have e3 := kE.cell 0
        simp at e0 e1 e2 e3
        have E0 := Lib.hid e0; have E1 := Lib.hid e1; have E2 := Lib.hid e2; have E3 := Lib.hid e3; have HT := Lib.hid hT; have HEE := Lib.hid hE
        have HBF := Lib.hid (caught_below (k := 6) (HJ.out.trans (Below.mono B4.out HJ.out.size)) HA2.out (Nat.le_succ_of_le HA2.out))
        have HER : Hid (J = .error 6) := Lib.hid (by rw [HE.out]; rfl)
        clear kT kE e0 e1 e2 e3 hT hE
        unfold gave
        go_wp2
        refine leaves_cons (f := 27) (args := #[.pointer (some ⟨A + 1 + 1, 0, none⟩), .pointer (some ⟨A + 1 + 1 + 1, 0, none⟩)]) (by simp) (by simp [go_sem]) ?_
        refine (caught_panicking _ _ 6 _ _ _ _ [] _ HT.out HEE.out (by omega)).mono ?_
        rintro e u' w'' ⟨rfl, rfl, rfl⟩
        have e0 := E0.out; have e1 := E1.out; have e2 := E2.out; have e3 := E3.out
        simp [Leaves, settle, results, Tryz.results17, go_sem, e0, e1, e2, e3]
        refine ⟨HBF.out, ?_⟩
        rw [HER.out]
        rfl
      | some v =>
        rintro e w4 ⟨hb4, u, rfl, hue, hui, hus⟩
        have B4 := Lib.hid (B2.out.trans (hb4.mono B2.out.size))
        obtain ⟨k4, l4, f4⟩ := hui.nslice
        obtain ⟨k5, l5, f5⟩ := hui.xslice
        have hT := BR.out.below B4.out BR.out.lt
        have hE := BE.out.below B4.out BE.out.lt
        have r0 := hT.cell 0; have r1 := hT.cell 1; have r2 := hT.cell 2
        have s0 := hT.frozen 0; have s1 := hT.frozen 1; have s2 := hT.frozen 2
        simp at r0 r1 r2
        have hE3 := ((hE.far (p := ⟨A + 1 + 1, 0, none⟩) (by simp) (.int .i64 u.k)).far (p := ⟨A + 1 + 1, 1, none⟩) (by simp) (.slice k4 u.ns.length l4)).far (p := ⟨A + 1 + 1, 2, none⟩) (by simp) (.slice k5 u.xs.length l5)
        have q0 := hE.cell 0; have q1 := hE.frozen 0
        simp at q0
        obtain ⟨WF, hWF⟩ : ∃ WF, WF = (((w4.setCell ⟨A + 1 + 1, 0, none⟩ (.int .i64 u.k)).setCell ⟨A + 1 + 1, 1, none⟩ (.slice k4 u.ns.length l4)).setCell ⟨A + 1 + 1, 2, none⟩ (.slice k5 u.xs.length l5)).setCell ⟨A + 1 + 1 + 1, 0, none⟩ (.int .i64 0) := ⟨_, rfl⟩
        have hTF : Blk WF (A + 1 + 1) 36 #[.int .i64 u.k, .slice k4 u.ns.length l4, .slice k5 u.xs.length l5] := by rw [hWF]; exact (blk3_set hT _ _ _).far (p := ⟨A + 1 + 1 + 1, 0, none⟩) (by simp) _
        have hEF : Blk WF (A + 1 + 1 + 1) 37 #[.int .i64 0] := by rw [hWF]; exact hE3.set_ 0 _
        have hBF : Below w.heap.size w WF := by
          rw [hWF]
          exact (below3_set (HJ.out.trans (B4.out.mono HJ.out.size)) HA2.out _ _ _).setCell (p := ⟨A + 1 + 1 + 1, 0, none⟩) (Nat.le_succ_of_le HA2.out) _
        have hsep : u.Sep (fun b => P b ∨ w.heap.size + 1 + 1 + 1 + 1 ≤ b) := hus.mono (fun b hb => by
          have h2 := B2.out.size
          have h3 := BE.out.lt
          have h4 := HA.out
          rcases hb with hb | hb
          · exact .inl hb
          · exact .inr (by omega))
        have hIF : u.In WF := hui.carryS hsep (fun b o hb hlt => by
          have hne : ∀ (c k : Nat), c = A + 1 + 1 ∨ c = A + 1 + 1 + 1 → (⟨c, k, none⟩ : Addr) ≠ ⟨b, o, none⟩ := fun c k hc e => by
            injection e with e _
            have := HA.out
            rcases hb with hb | hb
            · have := hP b hb; omega
            · omega
          rw [hWF, World.cell?_setCell_other _ _ _ _ (hne _ 0 (.inr rfl)), World.cell?_setCell_other _ _ _ _ (hne _ 2 (.inl rfl)), World.cell?_setCell_other _ _ _ _ (hne _ 1 (.inl rfl)), World.cell?_setCell_other _ _ _ _ (hne _ 0 (.inl rfl))]) (by rw [hWF]; simp [World.setCell])
        have hag : u.agg = .agg #[.int .i64 u.k, .slice k4 u.ns.length l4, .slice k5 u.xs.length l5] := by unfold Ty.agg; rw [f4, f5]
        rw [hag]
        have z0 := hTF.cell 0; have z1 := hTF.cell 1; have z2 := hTF.cell 2; have z3 := hEF.cell 0
        simp at z0 z1 z2 z3
        have Z0 := Lib.hid z0; have Z1 := Lib.hid z1; have Z2 := Lib.hid z2; have Z3 := Lib.hid z3
        have HWF := Lib.hid hWF; have HBF := Lib.hid hBF; have HIF := Lib.hid hIF; have HSF := Lib.hid hsep; have HUE := Lib.hid hue; have HAG := Lib.hid hag
        have HER : Hid (J = .ok v) := Lib.hid (by rw [HE.out]; rfl)
        clear hWF hTF hEF hBF hIF hsep hue hag hui hus hb4 f4 f5 hT hE hE3 z0 z1 z2 z3
        go_wp2
        rw [← HWF.out]
        refine leaves_cons (f := 27) (args := #[.pointer (some ⟨A + 1 + 1, 0, none⟩), .pointer (some ⟨A + 1 + 1 + 1, 0, none⟩)]) (by simp) (by simp [go_sem]) ?_
        refine (caught_idle _ _ _).mono ?_
        rintro e u' w'' ⟨rfl, rfl, rfl⟩
        have e0 := Z0.out; have e1 := Z1.out; have e2 := Z2.out; have e3 := Z3.out
        simp [Leaves, settle, results, Tryz.results17, go_sem, e0, e1, e2, e3]
        refine ⟨HBF.out, ?_⟩
        rw [HER.out]
        exact ⟨u, by rw [HAG.out], HUE.out, HIF.out, HSF.out.mono (fun b hb => by rcases hb with h | h; exact .inl h; exact .inr (by omega))⟩

theorem Ty.erase_erase : ∀ (d : Nat) (v : Ty), v.sz ≤ d → v.erase.erase = v.erase
  | 0, v, hd => by rw [Ty.sz_eq] at hd; omega
  | d + 1, v, hd => by
    rw [Ty.erase_eq v, Ty.erase_eq]
    simp only [Ty.k, Ty.ns, Ty.xs, List.map_map]
    congr 1
    refine List.map_congr_left (fun x hx => ?_)
    exact Ty.erase_erase d x (by have := Ty.size_mem hx; omega)
theorem Ty.sameB_l {u v b : Ty} (h : u.erase = v) : u.sameB b = v.sameB b := by
  have h1 := Ty.sameB_erase u.sz u b (Nat.le_refl _)
  have h2 := Ty.sameB_erase v.sz v b (Nat.le_refl _)
  have h3 : v.erase = u.erase := by rw [← h]; exact Ty.erase_erase u.sz u (Nat.le_refl _)
  rw [h3, ← h1] at h2
  cases h4 : u.sameB b <;> cases h5 : v.sameB b <;> simp_all
theorem joinF_err {a b : Ty} {k : Int} (h : a.joinF b = .error k) : (k == 0) = false := by
  unfold Ty.joinF at h
  cases h1 : (a.RightB && b.RightB) <;> rw [h1] at h
  · simp at h; subst h; rfl
  · cases h2 : a.joinT b <;> rw [h2] at h <;> simp at h
    subst h; rfl
/-- Does the first stand for the second? -/
def Ty.isB (a b : Ty) : Bool := match a.joinF b with
  | .ok v => v.sameB b
  | .error _ => false
set_option maxHeartbeats 4000000 in
set_option maxRecDepth 100000 in
theorem is_any (a b : Ty) (w : World) (ha : a.In w) (hb : b.In w) : Calls Tryz.prog 18 #[a.agg, b.agg] w fun e w' => BoolBelow (a.isB b) w e w' := by
  obtain ⟨W, hW⟩ : ∃ W, W = (w.alloc (.cells #[.int .i64 a.k, a.na.val a.ns.length, a.xa.val a.xs.length] 36)).alloc (.cells #[.int .i64 b.k, b.na.val b.ns.length, b.xa.val b.xs.length] 36) := ⟨_, rfl⟩
  have hBW : Below w.heap.size w W := by rw [hW]; exact ((Below.refl _ w).alloc (Nat.le_refl _) _).alloc (by simp) _
  have ba : Blk W w.heap.size 36 #[.int .i64 a.k, a.na.val a.ns.length, a.xa.val a.xs.length] := by rw [hW]; exact (Blk.new w 36 _).alloc _
  have bb : Blk W (w.heap.size + 1) 36 #[.int .i64 b.k, b.na.val b.ns.length, b.xa.val b.xs.length] := by
    rw [hW]
    have := Blk.new (w.alloc (.cells #[.int .i64 a.k, a.na.val a.ns.length, a.xa.val a.xs.length] 36)) 36 #[.int .i64 b.k, b.na.val b.ns.length, b.xa.val b.xs.length]
    rw [show (w.alloc (.cells #[.int .i64 a.k, a.na.val a.ns.length, a.xa.val a.xs.length] 36)).heap.size = w.heap.size + 1 from by simp] at this
    exact this
  have hIb := hb.below hBW
  have hjn := joinf_any a b (fun b => b < w.heap.size) W (fun b hb => Nat.lt_of_lt_of_le hb hBW.size) (ha.below hBW) hIb ha.sep hb.sep
  have hsm := fun (x : Ty) (W' : World) (h : Below W.heap.size W W') (hx : x.In W') => tsame_any x.sz x b W' (Nat.le_refl _) hx (hIb.below h)
  obtain ⟨p4, q4, e4⟩ := ha.nslice
  obtain ⟨p5, q5, e5⟩ := ha.xslice
  obtain ⟨r4, t4, g4⟩ := hb.nslice
  obtain ⟨r5, t5, g5⟩ := hb.xslice
  obtain ⟨A, hA⟩ : ∃ A, A = w.heap.size := ⟨_, rfl⟩
  rw [← hA] at ba bb
  rw [e4, e5] at ba
  rw [g4, g5] at bb
  rw [e4, e5, g4, g5] at hW
  have hbag : b.agg = .agg #[.int .i64 b.k, .slice r4 b.ns.length t4, .slice r5 b.xs.length t5] := by unfold Ty.agg; rw [g4, g5]
  have haag : a.agg = .agg #[.int .i64 a.k, .slice p4 a.ns.length q4, .slice p5 a.xs.length q5] := by unfold Ty.agg; rw [e4, e5]
  rw [hbag] at hsm
  rw [hbag, haag] at hjn ⊢
  have a0 := ba.cell 0; have a1 := ba.cell 1; have a2 := ba.cell 2
  have b0 := bb.cell 0; have b1 := bb.cell 1; have b2 := bb.cell 2
  simp at a0 a1 a2 b0 b1 b2
  have hE : a.isB b = match a.joinF b with | .ok v => v.sameB b | .error _ => false := rfl
  obtain ⟨R, hR⟩ : ∃ R, R = a.isB b := ⟨_, rfl⟩
  obtain ⟨JF, hJF⟩ : ∃ JF, JF = a.joinF b := ⟨_, rfl⟩
  rw [← hR] at hE ⊢
  rw [← hJF] at hE hjn
  have hEr : ∀ k, JF = .error k → (k == 0) = false := fun k hk => joinF_err (by rw [← hJF]; exact hk)
  have HW := Lib.hid hW; have HA := Lib.hid hA; have HBW := Lib.hid hBW; have BA := Lib.hid ba; have BB := Lib.hid bb; have HE := Lib.hid hE; have HJN := Lib.hid hjn; have HSM := Lib.hid hsm; have HER := Lib.hid hEr
  clear hW hA hBW ba bb hE hjn hsm e4 e5 g4 g5 ha hb hR hJF hIb hbag haag hEr
  go_enter Tryz.func18, Tryz.ntmps18
  go_wp2_with fail
  rw [← HW.out, ← HA.out]
  refine HJN.out.mono ?_
  cases JF with
  | error k =>
    rintro e w2 ⟨hb2, rfl⟩
    have hk := HER.out k rfl
    have B2 := Lib.hid (HBW.out.trans ((hb2.alloc hb2.size (.cells #[.int .i64 0, .slice none 0 0, .slice none 0 0] 36)).mono HBW.out.size))
    have HR : Hid (R = false) := Lib.hid (by rw [HE.out])
    rw [show Ty.zero.agg = .agg #[.int .i64 0, .slice none 0 0, .slice none 0 0] from rfl]
    clear hb2
    go_wp2
    go_ret
    exact ⟨by rw [HR.out]; rfl, B2.out⟩
  | ok v =>
    rintro e w2 ⟨hb2, u, rfl, hue, hui, hus⟩
    obtain ⟨k4, l4, f4⟩ := hui.nslice
    obtain ⟨k5, l5, f5⟩ := hui.xslice
    obtain ⟨W2, hW2⟩ : ∃ W2, W2 = w2.alloc (.cells #[.int .i64 u.k, .slice k4 u.ns.length l4, .slice k5 u.xs.length l5] 36) := ⟨_, rfl⟩
    have hb3 : Below W.heap.size W W2 := by rw [hW2]; exact hb2.alloc hb2.size _
    have bu : Blk W2 w2.heap.size 36 #[.int .i64 u.k, .slice k4 u.ns.length l4, .slice k5 u.xs.length l5] := by rw [hW2]; exact Blk.new w2 36 _
    have hsm := HSM.out u W2 hb3 (hui.below (by rw [hW2]; exact (Below.refl _ _).alloc (Nat.le_refl _) _))
    have hag : u.agg = .agg #[.int .i64 u.k, .slice k4 u.ns.length l4, .slice k5 u.xs.length l5] := by unfold Ty.agg; rw [f4, f5]
    rw [hag] at hsm ⊢
    have HR : Hid (R = u.sameB b) := Lib.hid (by rw [HE.out, Ty.sameB_l hue])
    have bb := BB.out.below hb3 BB.out.lt
    clear a0 a1 a2 b0 b1 b2
    have b0 := bb.cell 0; have b1 := bb.cell 1; have b2 := bb.cell 2
    have u0 := bu.cell 0; have u1 := bu.cell 1; have u2 := bu.cell 2
    simp at b0 b1 b2 u0 u1 u2
    have HC := Lib.hid hsm; have HW2 := Lib.hid hW2; have HB3 := Lib.hid hb3
    clear hsm hW2 hb3 bu bb hag hue hui hus hb2 f4 f5
    go_upto_region 2 with fail
    rw [← HW2.out]
    go_wp2_with fail
    refine HC.out.mono ?_
    rintro e w4 ⟨rfl, hb4⟩
    have B4 := Lib.hid (HBW.out.trans ((HB3.out.trans (hb4.mono HB3.out.size)).mono HBW.out.size))
    clear hb4
    go_wp2
    go_ret
    exact ⟨by rw [HR.out]; rfl, B4.out⟩
end Go.Proofs.YtjpdbhhjlnmacaaGreat
