/- pack's reader: a small number; a value; a value, or none at all. -/
import Derived.Test.YtaamihdibpioaaaGreatJkM14
import Derived.Test.YtaamihdibpioaaaGreatJkM39
import Derived.StillTailTactics
import Derived.RegionTactic
import Derived.Deep.DeepCutAuto
namespace Go.Proofs.YtaamihdibpioaaaGreat.Pk
set_option linter.unusedVariables false
open Go.RowKit

/-- The reader in block g stands at p. -/
def PRd (w : World) (g : Nat) (s : ByteArray) (p : Nat) : Prop := Blk w g 132 #[.string s, .int .i64 p]
def PNum (r : Option (Nat × Nat)) (s : ByteArray) (g : Nat) (w : World) (e : Ending) (w' : World) : Prop :=
  Only w w' g ∧ match r with
  | some (n, q) => e = .returned (.int .i64 n) ∧ PRd w' g s q
  | none => e = pgave 5
theorem below_onlyD {w w1 w2 : World} {g : Nat} (h : Below w.drew.heap.size w.drew w1) : Only w w1 g := Only.of_below ((Below.refl w.heap.size w).drew.trans h) g
set_option maxHeartbeats 2000000 in
set_option maxRecDepth 100000 in
theorem prnum_any (s : ByteArray) (p g : Nat) (w : World) (hs : s.size ≤ 100000) (hp : p ≤ s.size) (h : PRd w g s p) :
    Calls Tryz.prog 70 #[.pointer (some ⟨g, 0, none⟩)] w fun e w' => PNum (rdN s p) s g w e w' := by
  have h0 := h.cell 0; have h1 := h.cell 1
  simp at h0 h1
  have hr := readuint_any s p w.drew hs hp
  have hE : rdN s p = match readU s p 0 0 with | .ok (n, q) => if n ≤ 10000 then some (n, q) else none | .error _ => none := rfl
  obtain ⟨R, hR⟩ : ∃ R, R = rdN s p := ⟨_, rfl⟩
  rw [← hR] at hE ⊢
  cases hu : readU s p 0 0 with
  | error k =>
    have hk : (k == 0) = false := by rcases readU_err2 s p 0 0 k hu with rfl | rfl <;> rfl
    rw [hu] at hr hE
    have HR := Lib.hid hr; have HE := Lib.hid hE
    clear hr hE hu hR h
    go_enter Tryz.func70, Tryz.ntmps70
    go_wp2_with fail
    go_region_law (first | (go_simp; go_at_call 104; refine HR.out.mono ?_; rintro e w1 ⟨hb1, rfl⟩; have HO := Lib.hid (below_onlyD (g := g) (w2 := w1) hb1); clear hb1) | fail)
    all_goals
      go_wp2_with fail
      refine (pmust_false _ _ _ rfl).mono ?_
      rintro e w2 ⟨rfl, rfl⟩
      unfold pgave
      go_wp2
      rw [HE.out]
      exact ⟨rfl, HO.out, rfl⟩
  | ok x =>
    obtain ⟨n, q⟩ := x
    rw [hu] at hr hE
    simp only at hE
    by_cases hn : n ≤ 10000
    · rw [if_pos hn] at hE
      have j1 : decide ((n : Int) ≤ 10000) = true := by simp; omega
      have hcv : IntKind.i64.wrap (n : Int) = n := IntWalk.i64_in _ (by omega)
      have HR := Lib.hid hr; have HE := Lib.hid hE; have HH := Lib.hid h
      have hlt := h.lt
      clear hr hE hu hR h hn
      go_enter Tryz.func70, Tryz.ntmps70
      go_wp2_with fail
      go_region_law (first
        | (go_simp; go_at_call 104; refine HR.out.mono ?_; rintro e w1 ⟨hb1, rfl⟩;
           have hb1' : Below w.heap.size w w1 := (Below.refl w.heap.size w).drew.trans hb1;
           have hrd := Blk.below HH.out hb1' hlt;
           have c1 := hrd.cell 1; have f1 := hrd.frozen 1;
           simp at c1;
           have hset := hrd.set_ 1 (.int .i64 q);
           have HF := Lib.hid (And.intro ((Only.of_below hb1' g).set_ (p := ⟨g, 1, none⟩) (.inl rfl) (.int .i64 q)) hset);
           clear hb1 hb1' hrd hset h0 h1)
        | fail)
      all_goals
        go_wp2_with fail
        refine (pmust_true _ _ _ rfl).mono ?_
        rintro e w2 ⟨rfl, rfl⟩
        go_wp2
        go_ret
        rw [HE.out]
        exact ⟨HF.out.1, rfl, HF.out.2⟩
    · rw [if_neg hn] at hE
      have j1 : decide ((n : Int) ≤ 10000) = false := by simp; omega
      have HR := Lib.hid hr; have HE := Lib.hid hE
      clear hr hE hu hR h hn
      go_enter Tryz.func70, Tryz.ntmps70
      go_wp2_with fail
      go_region_law (first | (go_simp; go_at_call 104; refine HR.out.mono ?_; rintro e w1 ⟨hb1, rfl⟩; have HO := Lib.hid (below_onlyD (g := g) (w2 := w1) hb1); clear hb1) | fail)
      all_goals
        go_wp2_with fail
        refine (pmust_false _ _ _ rfl).mono ?_
        rintro e w2 ⟨rfl, rfl⟩
        unfold pgave
        go_wp2
        rw [HE.out]
        exact ⟨rfl, HO.out, rfl⟩

/-- A value that is read, where it lies. -/
def PSome (r : Option (Val × Nat)) (s : ByteArray) (g : Nat) (w : World) (e : Ending) (w' : World) : Prop :=
  Only w w' g ∧ match r with
  | some (v, q) => ∃ u : Val, e = .returned u.agg ∧ u.erase = v ∧ u.In w' ∧ u.Sep (fun b => w.heap.size ≤ b) ∧ PRd w' g s q
  | none => e = pgave 5
def optV : Except Int (Val × Nat) → Option (Val × Nat)
  | .ok (v, q) => some (v, q)
  | .error _ => none
def rdVal (s : ByteArray) (p : Nat) : Option (Val × Nat) := optV (readVAt s (p : Int))
theorem readVAt_err {s : ByteArray} {a k : Int} (h : readVAt s a = .error k) : (k == 0) = false := by
  unfold readVAt at h
  split at h
  · unfold readV at h
    cases hr : rdV s 12 a.toNat 0 with
    | error k' =>
      rw [hr] at h
      injection h with h
      subst h
      rcases rdV_err2 s 12 _ 0 _ hr with rfl | rfl <;> rfl
    | ok x =>
      obtain ⟨v, q, m⟩ := x
      rw [hr] at h
      simp only at h
      cases hv : v.RightB with
      | true => rw [hv] at h; cases h
      | false => rw [hv] at h; injection h with h; subst h; rfl
  · injection h with h
    subst h
    rfl
def VOut (r : Except Int (Val × Nat)) (u : Val) (q k : Int) : Prop := match r with
  | .ok (v, q') => k = 0 ∧ q = q' ∧ u.erase = v
  | .error k' => k = k'
theorem zero_in (W : World) : Val.zero.In W := by
  rw [Val.in_iff]
  exact ⟨⟨by unfold i64r; decide, by unfold i64r; decide, by decide, by unfold strok; decide, by decide, by decide, fun s hs => by cases hs⟩, rfl, rfl, fun x hx => by cases hx⟩
theorem zero_sep (S : Nat → Prop) : Val.zero.Sep S := by
  rw [Val.sep_iff]
  exact ⟨trivial, trivial, fun x hx => by cases hx⟩
theorem ReadVSep.any {r : Except Int (Val × Nat)} {w w' : World} {e : Ending} (h : ReadVSep r w e w') :
    Below w.heap.size w w' ∧ ∃ (u : Val) (q k : Int), e = .returned (.tuple #[u.agg, .int .i64 q, .int .i64 k]) ∧ u.In w' ∧ u.Sep (fun b => w.heap.size ≤ b) ∧ VOut r u q k := by
  refine ⟨h.1, ?_⟩
  have h2 := h.2
  cases r with
  | error k => exact ⟨Val.zero, 0, k, h2, zero_in _, zero_sep _, rfl⟩
  | ok x =>
    obtain ⟨v, q⟩ := x
    obtain ⟨u, h3, h4, h5, h6⟩ := h2
    exact ⟨u, q, 0, h3, h5, h6, rfl, rfl, h4⟩
theorem below6' {B V : Nat} {W w6 : World} (h : Below B W w6) (hV : B ≤ V) (u0 u1 u2 u3 u4 u5 : Value) :
    Below B W ((((((w6.setCell ⟨V, 0, none⟩ u0).setCell ⟨V, 1, none⟩ u1).setCell ⟨V, 2, none⟩ u2).setCell ⟨V, 3, none⟩ u3).setCell ⟨V, 4, none⟩ u4).setCell ⟨V, 5, none⟩ u5) :=
  (((((h.setCell (p := ⟨V, 0, none⟩) hV u0).setCell (p := ⟨V, 1, none⟩) hV u1).setCell (p := ⟨V, 2, none⟩) hV u2).setCell (p := ⟨V, 3, none⟩) hV u3).setCell (p := ⟨V, 4, none⟩) hV u4).setCell (p := ⟨V, 5, none⟩) hV u5
/-- A value that was read and stored in a block of its own. -/
def VRel (r : Except Int (Val × Nat)) (W : World) (a3 a4 a5 : Value) (wx : World) : Prop :=
  ∃ (V : Nat) (u : Val) (q k : Int), a3 = .pointer (some ⟨V, 0, none⟩) ∧ a4 = .int .i64 q ∧ a5 = .int .i64 k ∧ W.heap.size ≤ V ∧ Below W.heap.size W wx ∧ Blk wx V 37 u.cells.toArray ∧ u.In wx ∧ u.Sep (fun b => W.heap.size ≤ b) ∧ VOut r u q k
def z6 : Array Value := #[.int .i64 0, .int .i64 0, .float .f64 0, .string ⟨#[]⟩, .slice none 0 0, .slice none 0 0]
theorem vrel_new {r : Except Int (Val × Nat)} {W w6 : World} {u : Val} {q k : Int} {a4 a5 : Option Addr} {b4 b5 : Nat} (hb : Below W.heap.size W w6) (k4 : u.na.val u.ns.length = .slice a4 u.ns.length b4) (k5 : u.xa.val u.xs.length = .slice a5 u.xs.length b5) (hi : u.In w6) (hs : u.Sep (fun b => W.heap.size ≤ b)) (ho : VOut r u q k) :
    VRel r W (.pointer (some ⟨w6.heap.size, 0, none⟩)) (.int .i64 q) (.int .i64 k) (w6.alloc (.cells #[.int .i64 u.k, .int .i64 u.n, .float .f64 u.f, .string u.s, .slice a4 u.ns.length b4, .slice a5 u.xs.length b5] 37)) := by
  have hal : Below w6.heap.size w6 (w6.alloc (.cells #[.int .i64 u.k, .int .i64 u.n, .float .f64 u.f, .string u.s, .slice a4 u.ns.length b4, .slice a5 u.xs.length b5] 37)) := (Below.refl _ _).alloc (Nat.le_refl _) _
  refine ⟨_, u, q, k, rfl, rfl, rfl, hb.size, hb.trans (hal.mono hb.size), ?_, hi.below hal, hs, ho⟩
  unfold Val.cells
  rw [k4, k5]
  exact Blk.new _ _ _
theorem vrel_set {r : Except Int (Val × Nat)} {W w6 : World} {u : Val} {q k : Int} {X : Nat} {a4 a5 : Option Addr} {b4 b5 : Nat} (hb : Below W.heap.size W w6) (hX : X = W.heap.size) (hX6 : Blk w6 X 37 #[.int .i64 0, .int .i64 0, .float .f64 0, .string ⟨#[]⟩, .slice none 0 0, .slice none 0 0]) (k4 : u.na.val u.ns.length = .slice a4 u.ns.length b4) (k5 : u.xa.val u.xs.length = .slice a5 u.xs.length b5) (hi : u.In w6) (hs : u.Sep (fun b => X + 1 ≤ b)) (ho : VOut r u q k) :
    VRel r W (.pointer (some ⟨X, 0, none⟩)) (.int .i64 q) (.int .i64 k) ((((((w6.setCell ⟨X, 0, none⟩ (.int .i64 u.k)).setCell ⟨X, 1, none⟩ (.int .i64 u.n)).setCell ⟨X, 2, none⟩ (.float .f64 u.f)).setCell ⟨X, 3, none⟩ (.string u.s)).setCell ⟨X, 4, none⟩ (.slice a4 u.ns.length b4)).setCell ⟨X, 5, none⟩ (.slice a5 u.xs.length b5)) := by
  have b2 : Blk w6 X 37 [.int .i64 0, .int .i64 0, .float .f64 0, .string ⟨#[]⟩, .slice none 0 0, .slice none 0 0].toArray := hX6
  have hst := stored6' b2 (.int .i64 u.k) (.int .i64 u.n) (.float .f64 u.f) (.string u.s) (.slice a4 u.ns.length b4) (.slice a5 u.xs.length b5)
  refine ⟨X, u, q, k, rfl, rfl, rfl, by omega, Go.Proofs.YtaamihdibpioaaaGreat.Below.only hb hst.2 (by omega) hb.size, ?_, hi.carryS hs (fun b o hb' hlt => only_cell hst.2 (by have hb2 : X + 1 ≤ b := hb'; omega) hlt o) hst.2.size, hs.mono (fun b hb => by have hb2 : X + 1 ≤ b := hb; omega), ho⟩
  unfold Val.cells
  rw [k4, k5]
  exact hst.1
set_option maxHeartbeats 4000000 in
set_option maxRecDepth 100000 in
theorem prval_any (s : ByteArray) (p g : Nat) (w : World) (hs : s.size ≤ 100000) (h : PRd w g s p) :
    Calls Tryz.prog 105 #[.pointer (some ⟨g, 0, none⟩)] w fun e w' => PSome (rdVal s p) s g w e w' := by
  have hsf := run_store_flt
  obtain ⟨R, hR⟩ : ∃ R, R = w.heap.size := ⟨_, rfl⟩
  obtain ⟨W, hW⟩ : ∃ W, W = w.alloc (.cells #[.int .i64 0, .int .i64 0, .float .f64 0, .string ⟨#[]⟩, .slice none 0 0, .slice none 0 0] 37) := ⟨_, rfl⟩
  have bm : Blk W R 37 [.int .i64 0, .int .i64 0, .float .f64 0, .string ⟨#[]⟩, .slice none 0 0, .slice none 0 0].toArray := by rw [hW, hR]; exact Blk.new w 37 _
  have hB : Below w.heap.size w W := by rw [hW]; exact (Below.refl _ _).alloc (Nat.le_refl _) _
  have hg : PRd W g s p := by rw [hW]; exact Blk.alloc h _
  have hglt := h.lt
  have hgR : g ≠ R := by omega
  have hgR' : g < R := by omega
  have h0 := hg.cell 0; have h1 := hg.cell 1
  simp at h0 h1
  have hWR : R + 1 = W.heap.size := by rw [hW, hR]; simp
  have hgW : g < W.heap.size := by omega
  have hr := fun (W' : World) (hb : Below W.heap.size W W') => readval_sep s p W' hs
  obtain ⟨RV, hRV⟩ : ∃ RV, RV = readVAt s (p : Int) := ⟨_, rfl⟩
  have hE : rdVal s p = optV RV := by rw [hRV]; rfl
  have hne := fun k (hk : RV = .error k) => readVAt_err (s := s) (a := (p : Int)) (k := k) (by rw [← hRV]; exact hk)
  rw [← hRV] at hr
  obtain ⟨RR, hRR⟩ : ∃ RR, RR = rdVal s p := ⟨_, rfl⟩
  rw [← hRR] at hE ⊢
  have HW := Lib.hid hW; have HB := Lib.hid hB; have HR := Lib.hid hR; have BM := Lib.hid bm; have HG := Lib.hid hg; have HRD := Lib.hid hr; have HE := Lib.hid hE; have HNE := Lib.hid hne; have HWR := Lib.hid hWR
  clear hW hB bm hg hr hE hRR h hRV hne hWR hR
  go_enter Tryz.func105, Tryz.ntmps105
  go_wp2_with fail
  rw [← HW.out, ← HR.out]
  go_cut [3, 4, 5] (fun a3 a4 a5 wx => VRel RV W a3 a4 a5 wx)
  case first =>
    refine wp_region_held_drew (S := (fun X => Below W.heap.size W X)) (by kernel_rfl) ((Below.refl W.heap.size W).drew) (fun hHeld => ?_)
    refine held_take (i := 0) (d := some 7) (v := ?_) rfl rfl (by kernel_rfl) (by kernel_rfl) (by kernel_rfl) (fun _ _ _ h => h) (by rfl) ?_ hHeld ?_
    rotate_left
    · (intro w hSw; (try dsimp only at hSw); have hS0 := (hSw.cell (p := ⟨g, 0, none⟩) hgW).trans h0; have hS1 := (hSw.cell (p := ⟨g, 1, none⟩) hgW).trans h1; go_simp; try with_reducible rfl)
    try simp only [Act.put, List.setIfInBounds_toArray, List.set_cons_zero, List.set_cons_succ]
    refine held_take (i := 1) (d := some 8) (v := ?_) rfl rfl (by kernel_rfl) (by kernel_rfl) (by kernel_rfl) (fun _ _ _ h => h) (by rfl) ?_ hHeld ?_
    rotate_left
    · (intro w hSw; (try dsimp only at hSw); have hS0 := (hSw.cell (p := ⟨g, 0, none⟩) hgW).trans h0; have hS1 := (hSw.cell (p := ⟨g, 1, none⟩) hgW).trans h1; go_simp; try with_reducible rfl)
    try simp only [Act.put, List.setIfInBounds_toArray, List.set_cons_zero, List.set_cons_succ]
    refine held_take (i := 2) (d := some 9) (v := ?_) rfl rfl (by kernel_rfl) (by kernel_rfl) (by kernel_rfl) (fun _ _ _ h => h) (by rfl) ?_ hHeld ?_
    rotate_left
    · (intro w hSw; (try dsimp only at hSw); have hS0 := (hSw.cell (p := ⟨g, 0, none⟩) hgW).trans h0; have hS1 := (hSw.cell (p := ⟨g, 1, none⟩) hgW).trans h1; go_simp; try with_reducible rfl)
    try simp only [Act.put, List.setIfInBounds_toArray, List.set_cons_zero, List.set_cons_succ]
    refine held_take (i := 3) (d := some 10) (v := ?_) rfl rfl (by kernel_rfl) (by kernel_rfl) (by kernel_rfl) (fun _ _ _ h => h) (by rfl) ?_ hHeld ?_
    rotate_left
    · (intro w hSw; (try dsimp only at hSw); have hS0 := (hSw.cell (p := ⟨g, 0, none⟩) hgW).trans h0; have hS1 := (hSw.cell (p := ⟨g, 1, none⟩) hgW).trans h1; go_simp; try with_reducible rfl)
    try simp only [Act.put, List.setIfInBounds_toArray, List.set_cons_zero, List.set_cons_succ]
    refine held_take (i := 4) (d := some 11) (v := ?_) rfl rfl (by kernel_rfl) (by kernel_rfl) (by kernel_rfl) (fun _ _ _ h => h) (by rfl) ?_ hHeld ?_
    rotate_left
    · (intro w hSw; (try dsimp only at hSw); have hS0 := (hSw.cell (p := ⟨g, 0, none⟩) hgW).trans h0; have hS1 := (hSw.cell (p := ⟨g, 1, none⟩) hgW).trans h1; go_simp; try with_reducible rfl)
    try simp only [Act.put, List.setIfInBounds_toArray, List.set_cons_zero, List.set_cons_succ]
    refine held_take (i := 5) (d := some 12) (v := ?_) rfl rfl (by kernel_rfl) (by kernel_rfl) (by kernel_rfl) (fun _ _ _ h => h) (by rfl) ?_ hHeld ?_
    rotate_left
    · (intro w hSw; (try dsimp only at hSw); have hS0 := (hSw.cell (p := ⟨g, 0, none⟩) hgW).trans h0; have hS1 := (hSw.cell (p := ⟨g, 1, none⟩) hgW).trans h1; go_simp; try with_reducible rfl)
    try simp only [Act.put, List.setIfInBounds_toArray, List.set_cons_zero, List.set_cons_succ]
    refine held_take (i := 6) (d := some 13) (v := ?_) rfl rfl (by kernel_rfl) (by kernel_rfl) (by kernel_rfl) (fun _ _ _ h => h) (by rfl) ?_ hHeld ?_
    rotate_left
    · (intro w hSw; (try dsimp only at hSw); have hS0 := (hSw.cell (p := ⟨g, 0, none⟩) hgW).trans h0; have hS1 := (hSw.cell (p := ⟨g, 1, none⟩) hgW).trans h1; go_simp; try with_reducible rfl)
    try simp only [Act.put, List.setIfInBounds_toArray, List.set_cons_zero, List.set_cons_succ]
    refine held_take (i := 7) (d := some 14) (v := ?_) rfl rfl (by kernel_rfl) (by kernel_rfl) (by kernel_rfl) (fun _ _ _ h => h) (by rfl) ?_ hHeld ?_
    rotate_left
    · (intro w hSw; (try dsimp only at hSw); have hS0 := (hSw.cell (p := ⟨g, 0, none⟩) hgW).trans h0; have hS1 := (hSw.cell (p := ⟨g, 1, none⟩) hgW).trans h1; go_simp; try with_reducible rfl)
    try simp only [Act.put, List.setIfInBounds_toArray, List.set_cons_zero, List.set_cons_succ]
    refine held_two (i := 8) (j := 13) (by kernel_rfl) rfl rfl (by rfl) (by rfl) (fun K hK => ?_) (fun K hK => ?_)
    · go_simp
      go_at_call 127
      refine (HRD.out _ ((Below.refl W.heap.size W).drew)).mono ?_
      rintro e w6 hrv
      obtain ⟨hb6, u, q, k, rfl, hui, hus, hvo⟩ := ReadVSep.any hrv
      obtain ⟨a4, b4, k4⟩ := hui.nslice
      obtain ⟨a5, b5, k5⟩ := hui.xslice
      unfold Val.agg
      rw [k4, k5]
      have hb6' : Below W.heap.size W w6 := (Below.refl W.heap.size W).drew.trans hb6
      have HB6 := Lib.hid hb6'
      have HFIN := Lib.hid (vrel_new (W := W) hb6' k4 k5 hui hus hvo)
      clear hb6 hb6' hui hus hvo k4 k5 hrv
      refine hK.out _ _ (HB6.out) (fun hHeld => ?_)
      clear hK K
      try simp only [Act.put, List.setIfInBounds_toArray, List.set_cons_zero, List.set_cons_succ]
      refine held_take (i := 9) (d := some 6) (v := ?_) rfl rfl (by kernel_rfl) (by kernel_rfl) (by kernel_rfl) (fun _ _ _ h => h) (by rfl) ?_ hHeld ?_
      rotate_left
      · (intro w hSw; (try dsimp only at hSw); go_simp; try with_reducible rfl)
      try simp only [Act.put, List.setIfInBounds_toArray, List.set_cons_zero, List.set_cons_succ]
      refine held_take (i := 10) (d := some 16) (v := ?_) rfl rfl (by kernel_rfl) (by kernel_rfl) (by kernel_rfl) (fun _ _ _ h => h) (by rfl) ?_ hHeld ?_
      rotate_left
      · (intro w hSw; (try dsimp only at hSw); go_simp; try with_reducible rfl)
      try simp only [Act.put, List.setIfInBounds_toArray, List.set_cons_zero, List.set_cons_succ]
      refine held_take (i := 11) (d := some 17) (v := ?_) rfl rfl (by kernel_rfl) (by kernel_rfl) (by kernel_rfl) (fun _ _ _ h => h) (by rfl) ?_ hHeld ?_
      rotate_left
      · (intro w hSw; (try dsimp only at hSw); go_simp; try with_reducible rfl)
      try simp only [Act.put, List.setIfInBounds_toArray, List.set_cons_zero, List.set_cons_succ]
      refine held_take (i := 12) (d := some 18) (v := ?_) rfl rfl (by kernel_rfl) (by kernel_rfl) (by kernel_rfl) (fun _ _ _ h => h) (by rfl) ?_ hHeld ?_
      rotate_left
      · (intro w hSw; (try dsimp only at hSw); go_simp; try with_reducible rfl)
      try simp only [Act.put, List.setIfInBounds_toArray, List.set_cons_zero, List.set_cons_succ]
      refine held_only (i := 13) (by kernel_rfl) rfl (by rfl) (fun K hK => ?_)
      go_simp
      refine hK.out _ _ (HB6.out.alloc HB6.out.size _) (fun hHeld => ?_)
      clear hK K
      try simp only [Act.put, List.setIfInBounds_toArray, List.set_cons_zero, List.set_cons_succ]
      have hn6 := Blk.new w6 37 #[.int .i64 0, .int .i64 0, .float .f64 0, .string ⟨#[]⟩, .slice none 0 0, .slice none 0 0]
      have z0 := hn6.cell 0; have z1 := hn6.cell 1; have z2 := hn6.cell 2; have z3 := hn6.cell 3; have z4 := hn6.cell 4; have z5 := hn6.cell 5
      have y0 := hn6.frozen 0; have y1 := hn6.frozen 1; have y2 := hn6.frozen 2; have y3 := hn6.frozen 3; have y4 := hn6.frozen 4; have y5 := hn6.frozen 5
      simp at z0 z1 z2 z3 z4 z5
      clear hn6
      refine held_only (i := 14) (by kernel_rfl) rfl (by rfl) (fun K hK => ?_)
      go_simp
      refine hK.out _ _ (HB6.out.alloc HB6.out.size _) (fun hHeld => ?_)
      clear hK K
      try simp only [Act.put, List.setIfInBounds_toArray, List.set_cons_zero, List.set_cons_succ]
      clear z0 z1 z2 z3 z4 z5 y0 y1 y2 y3 y4 y5
      refine held_take (i := 15) (d := some 4) (v := ?_) rfl rfl (by kernel_rfl) (by kernel_rfl) (by kernel_rfl) (fun _ _ _ h => h) (by rfl) ?_ hHeld ?_
      rotate_left
      · (intro w hSw; (try dsimp only at hSw); go_simp; try with_reducible rfl)
      try simp only [Act.put, List.setIfInBounds_toArray, List.set_cons_zero, List.set_cons_succ]
      refine held_take (i := 16) (d := some 5) (v := ?_) rfl rfl (by kernel_rfl) (by kernel_rfl) (by kernel_rfl) (fun _ _ _ h => h) (by rfl) ?_ hHeld ?_
      rotate_left
      · (intro w hSw; (try dsimp only at hSw); go_simp; try with_reducible rfl)
      try simp only [Act.put, List.setIfInBounds_toArray, List.set_cons_zero, List.set_cons_succ]
      refine wpAnyH_done (by kernel_rfl) ?_ _
      go_wp2
      go_meet
      exact HFIN.out
    · go_simp
      refine hK.out _ _ ((Below.refl W.heap.size W).drew.alloc (Nat.le_refl _) _) (fun hHeld => ?_)
      clear hK K
      try simp only [Act.put, List.setIfInBounds_toArray, List.set_cons_zero, List.set_cons_succ]
      refine held_only (i := 8) (by kernel_rfl) rfl (by rfl) (fun K hK => ?_)
      go_simp
      go_at_call 127
      refine (HRD.out _ ((Below.refl W.heap.size W).drew.alloc (Nat.le_refl _) _)).mono ?_
      rintro e w6 hrv
      obtain ⟨hb6, u, q, k, rfl, hui, hus, hvo⟩ := ReadVSep.any hrv
      obtain ⟨a4, b4, k4⟩ := hui.nslice
      obtain ⟨a5, b5, k5⟩ := hui.xslice
      unfold Val.agg
      rw [k4, k5]
      have hb6' : Below W.heap.size W w6 := ((Below.refl W.heap.size W).drew.alloc (Nat.le_refl _) _).trans (hb6.mono (by simp))
      have hX6 : Blk w6 W.heap.size 37 #[.int .i64 0, .int .i64 0, .float .f64 0, .string ⟨#[]⟩, .slice none 0 0, .slice none 0 0] := (Blk.new W.drew 37 _).below hb6 (by simp)
      have HB6 := Lib.hid hb6'; have HX6 := Lib.hid hX6
      have HFIN := Lib.hid (vrel_set (W := W) hb6' rfl hX6 k4 k5 hui (hus.mono (fun b hb => by
        have hz' : (W.drew.alloc (.cells #[.int .i64 0, .int .i64 0, .float .f64 0, .string ⟨#[]⟩, .slice none 0 0, .slice none 0 0] 37)).heap.size = W.heap.size + 1 := by simp
        rw [hz'] at hb
        exact hb)) hvo)
      clear hb6 hb6' hX6 hui hus hvo k4 k5 hrv
      refine hK.out _ _ (HB6.out) (fun hHeld => ?_)
      clear hK K
      try simp only [Act.put, List.setIfInBounds_toArray, List.set_cons_zero, List.set_cons_succ]
      refine held_take (i := 9) (d := some 6) (v := ?_) rfl rfl (by kernel_rfl) (by kernel_rfl) (by kernel_rfl) (fun _ _ _ h => h) (by rfl) ?_ hHeld ?_
      rotate_left
      · (intro w hSw; (try dsimp only at hSw); go_simp; try with_reducible rfl)
      try simp only [Act.put, List.setIfInBounds_toArray, List.set_cons_zero, List.set_cons_succ]
      refine held_take (i := 10) (d := some 16) (v := ?_) rfl rfl (by kernel_rfl) (by kernel_rfl) (by kernel_rfl) (fun _ _ _ h => h) (by rfl) ?_ hHeld ?_
      rotate_left
      · (intro w hSw; (try dsimp only at hSw); go_simp; try with_reducible rfl)
      try simp only [Act.put, List.setIfInBounds_toArray, List.set_cons_zero, List.set_cons_succ]
      refine held_take (i := 11) (d := some 17) (v := ?_) rfl rfl (by kernel_rfl) (by kernel_rfl) (by kernel_rfl) (fun _ _ _ h => h) (by rfl) ?_ hHeld ?_
      rotate_left
      · (intro w hSw; (try dsimp only at hSw); go_simp; try with_reducible rfl)
      try simp only [Act.put, List.setIfInBounds_toArray, List.set_cons_zero, List.set_cons_succ]
      refine held_take (i := 12) (d := some 18) (v := ?_) rfl rfl (by kernel_rfl) (by kernel_rfl) (by kernel_rfl) (fun _ _ _ h => h) (by rfl) ?_ hHeld ?_
      rotate_left
      · (intro w hSw; (try dsimp only at hSw); go_simp; try with_reducible rfl)
      try simp only [Act.put, List.setIfInBounds_toArray, List.set_cons_zero, List.set_cons_succ]
      have hn6 := HX6.out
      have z0 := hn6.cell 0; have z1 := hn6.cell 1; have z2 := hn6.cell 2; have z3 := hn6.cell 3; have z4 := hn6.cell 4; have z5 := hn6.cell 5
      have y0 := hn6.frozen 0; have y1 := hn6.frozen 1; have y2 := hn6.frozen 2; have y3 := hn6.frozen 3; have y4 := hn6.frozen 4; have y5 := hn6.frozen 5
      simp at z0 z1 z2 z3 z4 z5
      clear hn6
      refine held_only (i := 14) (by kernel_rfl) rfl (by rfl) (fun K hK => ?_)
      go_simp
      refine hK.out _ _ (below6' HB6.out (Nat.le_refl _) _ _ _ _ _ _) (fun hHeld => ?_)
      clear hK K
      try simp only [Act.put, List.setIfInBounds_toArray, List.set_cons_zero, List.set_cons_succ]
      clear z0 z1 z2 z3 z4 z5 y0 y1 y2 y3 y4 y5
      refine held_take (i := 15) (d := some 4) (v := ?_) rfl rfl (by kernel_rfl) (by kernel_rfl) (by kernel_rfl) (fun _ _ _ h => h) (by rfl) ?_ hHeld ?_
      rotate_left
      · (intro w hSw; (try dsimp only at hSw); go_simp; try with_reducible rfl)
      try simp only [Act.put, List.setIfInBounds_toArray, List.set_cons_zero, List.set_cons_succ]
      refine held_take (i := 16) (d := some 5) (v := ?_) rfl rfl (by kernel_rfl) (by kernel_rfl) (by kernel_rfl) (fun _ _ _ h => h) (by rfl) ?_ hHeld ?_
      rotate_left
      · (intro w hSw; (try dsimp only at hSw); go_simp; try with_reducible rfl)
      try simp only [Act.put, List.setIfInBounds_toArray, List.set_cons_zero, List.set_cons_succ]
      refine wpAnyH_done (by kernel_rfl) ?_ _
      go_wp2
      go_meet
      exact HFIN.out
  case rest =>
  obtain ⟨V, u, q, k, rfl, rfl, rfl, hV, hbx, hbV, hui, hus, hvo⟩ := hcut
  obtain ⟨W3, hW3⟩ : ∃ W3 : World, W3 = wc := ⟨_, rfl⟩
  rw [← hW3] at hbx hbV hui ⊢
  clear hW3 h0 h1
  obtain ⟨a4, b4, k4⟩ := hui.nslice
  obtain ⟨a5, b5, k5⟩ := hui.xslice
  have hag : u.agg = .agg #[.int .i64 u.k, .int .i64 u.n, .float .f64 u.f, .string u.s, .slice a4 u.ns.length b4, .slice a5 u.xs.length b5] := by unfold Val.agg; rw [k4, k5]
  have hRlt := BM.out.lt
  have bR3 := BM.out.below hbx hRlt
  have bG3 := Blk.below HG.out hbx hgW
  have hbV' : Blk W3 V 37 [.int .i64 u.k, .int .i64 u.n, .float .f64 u.f, .string u.s, .slice a4 u.ns.length b4, .slice a5 u.xs.length b5].toArray := by unfold Val.cells at hbV; rw [k4, k5] at hbV; exact hbV
  have hO3 : Only w W3 g := Only.of_below (HB.out.trans (hbx.mono HB.out.size)) g
  have HO3 := Lib.hid hO3; have HG3 := Lib.hid bG3; have HR3 := Lib.hid bR3; have HV3 := Lib.hid hbV'; have HUI := Lib.hid hui; have HUS := Lib.hid hus; have HAG := Lib.hid hag; have HVO := Lib.hid hvo; have HVV := Lib.hid hV
  clear hO3 bG3 bR3 hbV hbV' hui hus hvo hag hbx k4 k5 hRlt hV
  cases RV with
  | error k' =>
    have e : k = k' := HVO.out
    subst e
    have hk := HNE.out k rfl
    have HRN : Hid (RR = none) := Lib.hid (by rw [HE.out]; rfl)
    go_wp2_with fail
    refine (pmust_false _ _ _ rfl).mono ?_
    rintro e w2 ⟨rfl, rfl⟩
    unfold pgave
    go_wp2
    rw [HRN.out]
    exact ⟨rfl, HO3.out, rfl⟩
  | ok x =>
    obtain ⟨v, q'⟩ := x
    obtain ⟨rfl, rfl, hue⟩ := HVO.out
    have HUE := Lib.hid hue
    have HRN : Hid (RR = some (v, q')) := Lib.hid (by rw [HE.out]; rfl)
    clear hue
    have c1 := HG3.out.cell 1; have f1 := HG3.out.frozen 1
    simp at c1
    obtain ⟨W4, hW4⟩ : ∃ W4, W4 = W3.setCell ⟨g, 1, none⟩ (.int .i64 q') := ⟨_, rfl⟩
    have HW4 := Lib.hid hW4
    clear hW4
    go_wp2_with fail
    refine (pmust_true _ _ _ rfl).mono ?_
    rintro e w2 ⟨rfl, rfl⟩
    go_upto_region 4 with fail
    rw [← HW4.out]
    clear c1 f1
    have bG4 : PRd W4 g s q' := by rw [HW4.out]; exact Blk.set_ HG3.out 1 _
    have bR4 : Blk W4 R 37 [.int .i64 0, .int .i64 0, .float .f64 0, .string ⟨#[]⟩, .slice none 0 0, .slice none 0 0].toArray := by rw [HW4.out]; exact HR3.out.far (p := ⟨g, 1, none⟩) (Ne.symm hgR) _
    have bV4 : Blk W4 V 37 [.int .i64 u.k, .int .i64 u.n, .float .f64 u.f, .string u.s, .slice a4 u.ns.length b4, .slice a5 u.xs.length b5].toArray := by
      rw [HW4.out]
      exact Blk.far HV3.out (p := ⟨g, 1, none⟩) (by have := HVV.out; show V ≠ g; omega) _
    have hst5 := stored6' bR4 (.int .i64 u.k) (.int .i64 u.n) (.float .f64 u.f) (.string u.s) (.slice a4 u.ns.length b4) (.slice a5 u.xs.length b5)
    obtain ⟨W5, hW5⟩ : ∃ W5, W5 = ((((((W4.setCell ⟨R, 0, none⟩ (.int .i64 u.k)).setCell ⟨R, 1, none⟩ (.int .i64 u.n)).setCell ⟨R, 2, none⟩ (.float .f64 u.f)).setCell ⟨R, 3, none⟩ (.string u.s)).setCell ⟨R, 4, none⟩ (.slice a4 u.ns.length b4)).setCell ⟨R, 5, none⟩ (.slice a5 u.xs.length b5)) := ⟨_, rfl⟩
    rw [← hW5] at hst5
    have bG5 : PRd W5 g s q' := Blk.grown bG4 hst5.2 (by simp; omega)
    have hO4 : Only w W4 g := by rw [HW4.out]; exact HO3.out.set_ (p := ⟨g, 1, none⟩) (.inl rfl) _
    have hO5 : Only w W5 g := by
      have e := HR.out
      rw [hW5]
      exact (((((hO4.set_ (p := ⟨R, 0, none⟩) (.inr (by simp; omega)) _).set_ (p := ⟨R, 1, none⟩) (.inr (by simp; omega)) _).set_ (p := ⟨R, 2, none⟩) (.inr (by simp; omega)) _).set_ (p := ⟨R, 3, none⟩) (.inr (by simp; omega)) _).set_ (p := ⟨R, 4, none⟩) (.inr (by simp; omega)) _).set_ (p := ⟨R, 5, none⟩) (.inr (by simp; omega)) _
    have husW : u.Sep (fun b => R + 1 ≤ b) := HUS.out.mono (fun b hb => by have hb' : W.heap.size ≤ b := hb; have := HWR.out; omega)
    have hui4 : u.In W4 := HUI.out.carryS husW (fun b o hb hlt => by rw [HW4.out]; exact World.cell?_setCell_other W3 ⟨g, 1, none⟩ ⟨b, o, none⟩ _ (fun e => by injection e with e _; have hb' : R + 1 ≤ b := hb; omega)) (by rw [HW4.out]; simp [World.setCell])
    have hui5 : u.In W5 := hui4.carryS husW (fun b o hb hlt => only_cell hst5.2 (by have hb' : R + 1 ≤ b := hb; omega) hlt o) hst5.2.size
    have HF := Lib.hid (show Only w W5 g ∧ u.erase = v ∧ u.In W5 ∧ u.Sep (fun b => w.heap.size ≤ b) ∧ PRd W5 g s q' from ⟨hO5, HUE.out, hui5, husW.mono (fun b hb => by have hb' : R + 1 ≤ b := hb; have := HR.out; omega), bG5⟩)
    have v0 := bV4.cell 0; have v1 := bV4.cell 1; have v2 := bV4.cell 2; have v3 := bV4.cell 3; have v4 := bV4.cell 4; have v5 := bV4.cell 5
    simp only [List.getElem?_toArray, List.getElem?_cons_zero, List.getElem?_cons_succ] at v0 v1 v2 v3 v4 v5
    have r0 := bR4.cell 0; have r1 := bR4.cell 1; have r2 := bR4.cell 2; have r3 := bR4.cell 3; have r4 := bR4.cell 4; have r5 := bR4.cell 5
    simp only [List.getElem?_toArray, List.getElem?_cons_zero, List.getElem?_cons_succ] at r0 r1 r2 r3 r4 r5
    have f0 := bR4.frozen 0; have f1 := bR4.frozen 1; have f2 := bR4.frozen 2; have f3 := bR4.frozen 3; have f4 := bR4.frozen 4; have f5 := bR4.frozen 5
    have HW5 := Lib.hid hW5; have HR5 := Lib.hid hst5.1
    clear bG4 bR4 bV4 hst5 hW5 bG5 hO4 hO5 husW hui4 hui5
    go_wp2_with fail
    rw [← HW5.out]
    clear v0 v1 v2 v3 v4 v5 r0 r1 r2 r3 r4 r5 f0 f1 f2 f3 f4 f5
    have e0 := HR5.out.cell 0; have e1 := HR5.out.cell 1; have e2 := HR5.out.cell 2; have e3 := HR5.out.cell 3; have e4 := HR5.out.cell 4; have e5 := HR5.out.cell 5
    simp only [List.getElem?_toArray, List.getElem?_cons_zero, List.getElem?_cons_succ] at e0 e1 e2 e3 e4 e5
    refine bodyPost_ret (v := .agg #[.int .i64 u.k, .int .i64 u.n, .float .f64 u.f, .string u.s, .slice a4 u.ns.length b4, .slice a5 u.xs.length b5]) (by simp [results, Tryz.results105, go_sem, e0, e1, e2, e3, e4, e5]) rfl ?_
    rw [HRN.out]
    exact ⟨HF.out.1, u, by rw [HAG.out], HF.out.2⟩
end Go.Proofs.YtaamihdibpioaaaGreat.Pk
