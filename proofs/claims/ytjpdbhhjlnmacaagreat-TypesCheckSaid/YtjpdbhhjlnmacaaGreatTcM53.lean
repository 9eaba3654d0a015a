/- basculeref09.Check of any expression (printed by wip/gen_refchk.py). -/
import Derived.Test.YtjpdbhhjlnmacaaGreatTcM20
import Derived.Test.YtjpdbhhjlnmacaaGreatTcM35
import Derived.Test.YtjpdbhhjlnmacaaGreatTcM40
import Derived.Test.YtjpdbhhjlnmacaaGreatTcM49
import Derived.Test.YtjpdbhhjlnmacaaGreatTcM52
namespace Go.Proofs.YtjpdbhhjlnmacaaGreat
set_option linter.unusedVariables false
open Go.RowKit

/-- What Check works on. -/
structure RCheckIn (x : Exp) (vp : Option Addr) (vc : Nat) (vs : List Var) (P : Nat → Prop) (w : World) : Prop where
  hP : ∀ b, P b → b < w.heap.size
  hx : x.In w
  hxs : x.Sep P
  hv : VarsIn w vp vc vs
  hvs : ∀ v, v ∈ vs → v.t.Sep P
  hr : ∃ n, x.rightB n = true
theorem RCheckIn.below {x : Exp} {vp : Option Addr} {vc : Nat} {vs : List Var} {P : Nat → Prop} {w w' : World} (h : RCheckIn x vp vc vs P w) (hb : Below w.heap.size w w') : RCheckIn x vp vc vs P w' :=
  ⟨fun b hb' => Nat.lt_of_lt_of_le (h.hP b hb') hb.size, h.hx.below hb, h.hxs, h.hv.below hb, h.hvs, h.hr⟩
theorem xsep_kid {x y : Exp} {P : Nat → Prop} (h : x.Sep P) (hy : y ∈ x.xs) : y.Sep P := ((Exp.sep_iff _ _).1 h).2.2.2 y hy
/-- Where it begins. -/
structure H0 (w W : World) (x : Exp) : Prop where
  below : Below w.heap.size w W
  bx : Blk W w.heap.size 29 x.cells.toArray
  br : Blk W (w.heap.size + 1) 36 #[.int .i64 0, .slice none 0 0, .slice none 0 0]
  size : W.heap.size = w.heap.size + 1 + 1
theorem h0_start (w : World) (x : Exp) : H0 w ((w.alloc (.cells x.cells.toArray 29)).alloc (.cells #[.int .i64 0, .slice none 0 0, .slice none 0 0] 36)) x := by
  refine ⟨((Below.refl _ w).alloc (Nat.le_refl _) _).alloc (by simp) _, (Blk.new w 29 _).alloc _, ?_, by simp⟩
  have := Blk.new (w.alloc (.cells x.cells.toArray 29)) 36 #[.int .i64 0, .slice none 0 0, .slice none 0 0]
  rw [show (w.alloc (.cells x.cells.toArray 29)).heap.size = w.heap.size + 1 from by simp] at this
  exact this

set_option maxHeartbeats 8000000 in
set_option maxRecDepth 100000 in
theorem rcheck_step (d : Nat) (ih : ∀ (x : Exp) (vp : Option Addr) (vc : Nat) (vs : List Var) (P : Nat → Prop) (w : World), x.sz ≤ d → RCheckIn x vp vc vs P w →
      Calls Tryz.prog 14 #[x.agg, .slice vp vs.length vc] w fun e w' => RGave (checkP vs x) P w e w')
    (x : Exp) (vp : Option Addr) (vc : Nat) (vs : List Var) (P : Nat → Prop) (w : World) (hd : x.sz ≤ d + 1) (h : RCheckIn x vp vc vs P w) :
    Calls Tryz.prog 14 #[x.agg, .slice vp vs.length vc] w fun e w' => RGave (checkP vs x) P w e w' := by
  obtain ⟨W, hW⟩ : ∃ W, W = (w.alloc (.cells x.cells.toArray 29)).alloc (.cells #[.int .i64 0, .slice none 0 0, .slice none 0 0] 36) := ⟨_, rfl⟩
  have hj : H0 w W x := by rw [hW]; exact h0_start w x
  have hIW := h.below hj.below
  obtain ⟨p9, q9, e9, hxk⟩ := xitems_at hIW.hx
  obtain ⟨p8, q8, e8⟩ := h.hx.nslice
  obtain ⟨p6, q6, e6⟩ := h.hx.val.nslice
  obtain ⟨p7, q7, e7⟩ := h.hx.val.xslice
  have bx := hj.bx; have br := hj.br; have hWS := hj.size
  obtain ⟨A, hA⟩ : ∃ A, A = w.heap.size := ⟨_, rfl⟩
  rw [← hA] at bx br hWS
  obtain ⟨R, hR⟩ : ∃ R, R = checkP vs x := ⟨_, rfl⟩
  rw [← hR]
  obtain ⟨E, hE⟩ : ∃ E, E = checkAll vs x.xs := ⟨_, rfl⟩
  have hR2 : R = restP x vs E := by rw [hR, checkP_eq, hE]
  have hMb : x.xs.length ≤ 879609302195 := hIW.hx.ok.2.2.2.1
  obtain ⟨M, hM⟩ : ∃ M, M = x.xs.length := ⟨_, rfl⟩
  unfold Exp.cells at hW bx
  unfold Exp.agg
  rw [e6, e7, e8, e9] at hW bx ⊢
  rw [← hM] at hW bx hMb ⊢
  obtain ⟨hwant, hlen⟩ := (fun ⟨n, h'⟩ => xright_wants h' : (∃ n, x.rightB n = true) → _) h.hr
  have hrk : ∀ y, y ∈ x.xs → ∃ n, y.rightB n = true := fun y hy => by
    obtain ⟨n, h'⟩ := h.hr
    exact ⟨_, xright_kid h' hy⟩
  obtain ⟨i0, hi0, hz0, hz1, hz2⟩ := info_parts tty_facts'
  have hagg : x.agg = .agg #[.int .i64 x.k, .string x.s, .int .i64 x.v.k, .int .i64 x.v.n, .float .f64 x.v.f, .string x.v.s, .slice p6 x.v.ns.length q6, .slice p7 x.v.xs.length q7, .slice p8 x.ns.length q8, .slice p9 x.xs.length q9] := by unfold Exp.agg; rw [e6, e7, e8, e9]
  have HW := Lib.hid hW; have HBW := Lib.hid hj.below; have BX := Lib.hid bx; have BR := Lib.hid br; have HI := Lib.hid hIW; have HP := Lib.hid h.hP; have HA := Lib.hid hA; have HM := Lib.hid hM; have HR2 := Lib.hid hR2; have HE := Lib.hid hE; have HIH := Lib.hid ih; have HXK := Lib.hid hxk; have HWS := Lib.hid hWS; have HWN := Lib.hid hwant; have HLN := Lib.hid hlen; have HRK := Lib.hid hrk; have HAG := Lib.hid hagg
  have HMM := Lib.hid (show ∀ y, y ∈ x.xs → y.sz ≤ d from fun y hy => by have := Exp.size_mem hy; omega)
  clear hW hj bx br hIW hxk hR hR2 hE hM hA hwant hlen hrk h ih hd e6 e7 e8 e9 hWS hagg
  go_enter Tryz.func14, Tryz.ntmps14
  go_upto_region 1 with fail
  rw [← HW.out, ← HA.out]
  go_wp2_with fail
  go_loopw [6, 7] (fun sv iv wr => ∃ (i : Nat) (us : List Ty) (ax : Option Addr) (cx : Nat), sv = .slice ax us.length cx ∧ iv = .int .i64 (i : Int) ∧ i ≤ M ∧ Hid (us.length = i) ∧ Hid (E = ahead (us.map Ty.erase) (checkAll vs (x.xs.drop i))) ∧ Hid (∀ u, u ∈ us → u.rightB 1 = true) ∧
    Hid (Rowed tyE P W.heap.size 36 wr us (.slice ax us.length cx)) ∧ Hid (Below W.heap.size W wr)) (fun _ iv _ => M - (intOf iv).toNat)
  case atStart => exact ⟨0, [], none, 0, rfl, rfl, by omega, Lib.hid rfl, Lib.hid (by rw [HE.out]; exact (ahead_nil _).symm), Lib.hid (fun u hu => by simp at hu), Lib.hid (rowed_start _), Lib.hid (Below.refl _ _)⟩
  case round =>
    obtain ⟨i, us, ax, cx, rfl, rfl, hi, HUL, HEI, HUR, HG, HBL⟩ := hrel
    have hbx := BX.out.below HBL.out BX.out.lt
    by_cases hlt : i < M
    · have hil : i < x.xs.length := by rw [← HM.out]; exact hlt
      have x9 := hbx.cell 9
      simp only [List.getElem?_toArray, List.getElem?_cons_zero, List.getElem?_cons_succ] at x9
      obtain ⟨xb, xo, rfl, hpx0, hlc⟩ := HXK.out i hil
      rw [← HM.out] at hlc
      obtain ⟨y, hy⟩ : ∃ y, y = x.xs[i]'hil := ⟨_, rfl⟩
      have hym : y ∈ x.xs := by rw [hy]; simp
      rw [← hy] at hpx0
      have hpx := hpx0.below HBL.out
      have hIr := HI.out.below HBL.out
      have hc := HIH.out y vp vc vs P wr (HMM.out y hym) ⟨hIr.hP, hpx.2.2, xsep_kid hIr.hxs hym, hIr.hv, hIr.hvs, HRK.out y hym⟩
      have k0 := hpx.c0; have k1 := hpx.c1; have k2 := hpx.c2; have k3 := hpx.c3; have k4 := hpx.c4; have k5 := hpx.c5; have k6 := hpx.c6; have k7 := hpx.c7; have k8 := hpx.c8; have k9 := hpx.c9
      obtain ⟨y6, z6, g6⟩ := hpx.2.2.val.nslice
      obtain ⟨y7, z7, g7⟩ := hpx.2.2.val.xslice
      obtain ⟨y8, z8, g8⟩ := hpx.2.2.nslice
      obtain ⟨y9, z9, g9⟩ := hpx.2.2.xslice
      rw [g6] at k6; rw [g7] at k7; rw [g8] at k8; rw [g9] at k9
      unfold Exp.agg at hc
      rw [g6, g7, g8, g9] at hc
      obtain ⟨JR, hJR⟩ : ∃ JR, JR = checkP vs y := ⟨_, rfl⟩
      rw [← hJR] at hc
      have hEN := checkAll_drop (vs := vs) hil
      rw [← hy, ← hJR] at hEN
      have hne : ∀ k, JR = .error k → k ≠ 0 := fun k h => checkP_err y.sz vs y k (Nat.le_refl _) (by rw [← hJR]; exact h)
      have hk0 : (0 : Int) ≤ (i : Int) := by omega
      have hk1 : (i : Int) < (M : Int) := by omega
      have HC := Lib.hid hc; have HJR := Lib.hid hJR; have HEN := Lib.hid hEN; have HNE := Lib.hid hne
      have hzr : W.heap.size ≤ wr.heap.size := HBL.out.size
      clear hc hpx hpx0 hy hym hIr hJR hEN hil hne g6 g7 g8 g9 hbx
      go_wp2_with fail
      refine HC.out.mono ?_
      cases JR with
      | error k =>
        rintro e w6 ⟨hb6, rfl⟩
        obtain ⟨W7, hW7⟩ : ∃ W7, W7 = w6.alloc (.cells #[.int .i64 0, .slice none 0 0, .slice none 0 0] 36) := ⟨_, rfl⟩
        have B7 := Lib.hid (show Below W.heap.size W W7 by rw [hW7]; exact (HBL.out.trans (hb6.mono hzr)).alloc (Nat.le_trans hzr hb6.size) _)
        have HW7 := Lib.hid hW7
        have HRN : Hid (R = .error k) := Lib.hid (by rw [HR2.out, HEI.out, HEN.out]; rfl)
        have hk := HNE.out k rfl
        have j1 : (k == 0) = false := by simpa using hk
        have j2 : (k != 0) = true := by simp [hk]
        clear hb6 x9 hW7 hk k0 k1 k2 k3 k4 k5 k6 k7 k8 k9
        unfold Ty.agg
        simp only [Ty.zero, Ty.k, Ty.ns, Ty.na, Ty.xa, Ty.xs, Sl.val, List.length_nil]
        go_upto_region 6 with fail
        rw [← HW7.out]
        have hbR := BR.out.below B7.out BR.out.lt
        have r0 := hbR.cell 0; have r1 := hbR.cell 1; have r2 := hbR.cell 2
        have s0 := hbR.frozen 0; have s1 := hbR.frozen 1; have s2 := hbR.frozen 2
        simp at r0 r1 r2
        obtain ⟨WF, hWF⟩ : ∃ WF, WF = (((W7.setCell ⟨A + 1, 0, none⟩ (.int .i64 0)).setCell ⟨A + 1, 1, none⟩ (.slice none 0 0)).setCell ⟨A + 1, 2, none⟩ (.slice none 0 0)) := ⟨_, rfl⟩
        have hres := err_storedR (w := w) (P := P) (R := A + 1) (k := k) (by rw [← HA.out]; omega) (HBW.out.trans (B7.out.mono HBW.out.size)) hbR hWF
        have HRES := Lib.hid hres; have HWF := Lib.hid hWF
        clear hres hWF hbR
        go_wp2_with fail
        rw [← HWF.out]
        obtain ⟨hF, hJ⟩ := HRES.out
        have f0 := hF.cell 0; have f1 := hF.cell 1; have f2 := hF.cell 2
        simp at f0 f1 f2
        refine bodyPost_ret (v := .tuple #[.agg #[.int .i64 0, .slice none 0 0, .slice none 0 0], .int .i64 k]) (by simp [results, Tryz.results14, go_sem, f0, f1, f2]) rfl ?_
        rw [HRN.out]
        exact hJ
      | ok v =>
        rintro e w6 ⟨hb6, u, rfl, hue, hui, hus⟩
        obtain ⟨a4, b4, g4⟩ := hui.nslice
        obtain ⟨a5, b5, g5⟩ := hui.xslice
        unfold Ty.agg
        rw [g4, g5]
        obtain ⟨W7, hW7⟩ : ∃ W7, W7 = w6.alloc (.cells #[.int .i64 u.k, .slice a4 u.ns.length b4, .slice a5 u.xs.length b5] 36) := ⟨_, rfl⟩
        have hb67 : Below w6.heap.size w6 W7 := by rw [hW7]; exact (Below.refl _ _).alloc (Nat.le_refl _) _
        obtain ⟨X, hX⟩ : ∃ X, X = w6.heap.size := ⟨_, rfl⟩
        have hbX : Blk W7 X 36 #[.int .i64 u.k, .slice a4 u.ns.length b4, .slice a5 u.xs.length b5] := by rw [hW7, hX]; exact Blk.new w6 36 _
        have hb7 : Below wr.heap.size wr W7 := hb6.trans (hb67.mono hb6.size)
        have hz7 := hb7.size
        have hg7 := HG.out.below hb7
        have hred : Reads (W7.alloc (.cells #[.int .i64 u.k, .slice a4 u.ns.length b4, .slice a5 u.xs.length b5] 36)) (W7.heap.size + 1) 3 (some ⟨W7.heap.size, 0, none⟩) 1 u.cells := by
          unfold Ty.cells; rw [g4, g5]; exact row_reads W7 _ 36
        have hown7 := hg7.items.alloc (.cells #[.int .i64 u.k, .slice a4 u.ns.length b4, .slice a5 u.xs.length b5] 36)
        have hxz : ∀ b, (Value.slice ax us.length cx).ownBlock = some b → b < wr.heap.size := fun b hb => (HG.out.items.lt b hb).2
        have HG7 := Lib.hid hg7; have HRED := Lib.hid hred; have HOWN7 := Lib.hid hown7; have HUI := Lib.hid (hui.below hb67); have HUS := Lib.hid hus; have HUER := Lib.hid hue; have HXZ := Lib.hid hxz; have HBL7 := Lib.hid (HBL.out.trans (hb7.mono hzr)); have HW7 := Lib.hid hW7; have HX := Lib.hid hX; have HBX := Lib.hid hbX
        have hul : us.length ≤ M := by rw [HUL.out]; exact hi
        have HPW := Lib.hid (fun b (hb : P b) => HI.out.hP b hb)
        clear hg7 hred hown7 hui hus hue hxz hb6 hb67 hb7 g4 g5 x9 hW7 hX hbX k0 k1 k2 k3 k4 k5 k6 k7 k8 k9
        go_upto_region 6 with fail
        rw [← HW7.out, ← HX.out]
        have x0 := HBX.out.cell 0; have x1 := HBX.out.cell 1; have x2 := HBX.out.cell 2
        simp at x0 x1 x2
        have hxl := HBX.out.lt
        go_wp2_with (at_builtin; refine wpList_append_any _ rfl _ _ 34 rfl W.heap.size 36 i0 (.agg #[.int .i64 0, .slice none 0 0, .slice none 0 0]) 3 56 Tryz.underlying34 hi0 hz0 hz1 hz2 rfl (by decide) _ us.length (tyE.row us) rfl HOWN7.out (W7.heap.size + 1) _ 1 _ u.cells rfl HRED.out (tyE.one u) ?c1 ?c2 ?c3 ?_)
        case c1 => unfold maxLen; omega
        case c2 => omega
        case c3 => simp; omega
        intro v' w8 hown' hgrow hor
        have hg8 := Rowed.item (Rowed.below HG7.out ((Below.refl _ W7).alloc (Nat.le_refl _) (.cells #[.int .i64 u.k, .slice a4 u.ns.length b4, .slice a5 u.xs.length b5] 36))) HPW.out (by simp; omega) (HUI.out.below ((Below.refl _ W7).alloc (Nat.le_refl _) (.cells #[.int .i64 u.k, .slice a4 u.ns.length b4, .slice a5 u.xs.length b5] 36))) HUS.out hzr HXZ.out hown' hgrow (by simpa using hor)
        have hb8 := (HBL7.out.alloc HBL7.out.size (.cells #[.int .i64 u.k, .slice a4 u.ns.length b4, .slice a5 u.xs.length b5] 36)).grown hgrow (by have := HBL7.out.size; simp; omega) (fun k hk => own_ge HG7.out.items hk)
        obtain ⟨ax', cx', rfl⟩ := row_form hown'
        have HG8 := Lib.hid hg8; have HB8 := Lib.hid hb8
        have HUR2 : Hid (∀ u', u' ∈ us ++ [u] → u'.rightB 1 = true) := Lib.hid (fun u' hu' => by
          rcases List.mem_append.1 hu' with hu' | hu'
          · exact HUR.out u' hu'
          · obtain rfl : u' = u := by simpa using hu'
            have := checkP_right HJR.out.symm
            rw [← HUER.out, Ty.RightB_erase] at this
            unfold Ty.RightB at this
            rw [Bool.and_eq_true] at this
            exact this.2)
        have HE2 : Hid (E = ahead ((us ++ [u]).map Ty.erase) (checkAll vs (x.xs.drop (i + 1)))) := Lib.hid (by
          rw [HEI.out, HEN.out]
          show ahead _ (ahead [v] _) = _
          rw [ahead_ahead, List.map_append, List.map_cons, List.map_nil, HUER.out])
        clear hg8 hb8 hown' hgrow hor x0 x1 x2
        go_wp2
        go_roundw
        case rel => exact ⟨i + 1, us ++ [u], ax', cx', by simp, by go_num, by omega, Lib.hid (by simp [HUL.out]), HE2, HUR2, by simpa using HG8, HB8⟩
        case measure => simp [intOf]; omega
    · obtain rfl : i = M := by omega
      have hIr := HI.out.below HBL.out
      have hgi := HG.out
      obtain ⟨sx, hsx, hlx, hspx⟩ := trowLies_of_own hgi.items
      obtain ⟨K, hK⟩ : ∃ K, K = Ty.mk 0 .no [] sx us := ⟨_, rfl⟩
      have hKxs : K.xs = us := by rw [hK]; rfl
      have hKxa : K.xa = sx := by rw [hK]; rfl
      have hKI : K.In wr := by
        rw [hK, Ty.in_iff]
        exact ⟨⟨by show i64r 0; unfold i64r; decide, by show 0 ≤ _; omega, by show us.length ≤ _; rw [HUL.out]; omega, fun s hs => by simp [Ty.ns] at hs⟩, rfl, hlx, fun y hy => (hgi.each y hy).1⟩
      have hKS : K.Sep (fun b => P b ∨ (W.heap.size ≤ b ∧ b < wr.heap.size)) := by
        have h1 : K.Sep (fun b => P b ∨ W.heap.size ≤ b) := by
          rw [hK, Ty.sep_iff]
          exact ⟨trivial, hspx.mono (fun b hb => .inr hb), fun y hy => (hgi.each y hy).2.mono (fun b hb => hb.1)⟩
        exact (h1.and hKI.sep).mono (fun b hb => by
          rcases hb.1 with h | h
          · exact .inl h
          · exact .inr ⟨h, hb.2⟩)
      have hown := rown_any x K vp vc vs (fun b => P b ∨ (W.heap.size ≤ b ∧ b < wr.heap.size)) wr ⟨fun b hb => by
          rcases hb with h | h
          · exact hIr.hP b h
          · exact h.2, hIr.hx, hIr.hxs.mono (fun b hb => .inl hb), hIr.hv, fun v hv => (hIr.hvs v hv).mono (fun b hb => .inl hb), hKI, hKS, fun k hk => HUR.out k (by rw [← hKxs]; exact hk)⟩ HWN.out (by rw [hKxs, HUL.out, HM.out]; exact HLN.out)
      rw [hKxs, hKxa, ← hsx, HAG.out, ← HM.out] at hown
      have hR3 : R = restP x vs (.ok us) := by
        rw [HR2.out, HEI.out, HM.out, List.drop_length]
        exact restP_ahead x us vs
      obtain ⟨O, hO⟩ : ∃ O, O = ownP x us vs := ⟨_, rfl⟩
      rw [← hO] at hown
      unfold restP at hR3
      simp only [] at hR3
      rw [← hO] at hR3
      have hne : ∀ k, O = .error k → k ≠ 0 := fun k h => ownP_err (by rw [← hO]; exact h)
      have HR3 := Lib.hid hR3
      have HC := Lib.hid hown; have HNE := Lib.hid hne
      have hzr : W.heap.size ≤ wr.heap.size := HBL.out.size
      have t1 : decide ((i : Int) < (i : Int)) = false := by simp
      have x0 := hbx.cell 0; have x1 := hbx.cell 1; have x2 := hbx.cell 2; have x3 := hbx.cell 3; have x4 := hbx.cell 4; have x5 := hbx.cell 5; have x6 := hbx.cell 6; have x7 := hbx.cell 7; have x8 := hbx.cell 8; have x9 := hbx.cell 9
      simp only [List.getElem?_toArray, List.getElem?_cons_zero, List.getElem?_cons_succ] at x0 x1 x2 x3 x4 x5 x6 x7 x8 x9
      clear hR3 hown hIr hgi hsx hlx hspx hK hKxs hKxa hKI hKS hO hlt hne hbx
      go_wp2_with fail
      refine HC.out.mono ?_
      cases O with
      | error k =>
        rintro e w6 ⟨hb6, rfl⟩
        obtain ⟨W7, hW7⟩ : ∃ W7, W7 = w6.alloc (.cells #[.int .i64 0, .slice none 0 0, .slice none 0 0] 36) := ⟨_, rfl⟩
        have B7 := Lib.hid (show Below W.heap.size W W7 by rw [hW7]; exact (HBL.out.trans (hb6.mono hzr)).alloc (Nat.le_trans hzr hb6.size) _)
        have HW7 := Lib.hid hW7
        have HRN : Hid (R = .error k) := HR3
        have hk := HNE.out k rfl
        have j1 : (k == 0) = false := by simpa using hk
        have j2 : (k != 0) = true := by simp [hk]
        clear hb6 hW7 hk x0 x1 x2 x3 x4 x5 x6 x7 x8 x9
        unfold Ty.agg
        simp only [Ty.zero, Ty.k, Ty.ns, Ty.na, Ty.xa, Ty.xs, Sl.val, List.length_nil]
        go_upto_region 10 with fail
        rw [← HW7.out]
        have hbR := BR.out.below B7.out BR.out.lt
        have r0 := hbR.cell 0; have r1 := hbR.cell 1; have r2 := hbR.cell 2
        have s0 := hbR.frozen 0; have s1 := hbR.frozen 1; have s2 := hbR.frozen 2
        simp at r0 r1 r2
        obtain ⟨WF, hWF⟩ : ∃ WF, WF = (((W7.setCell ⟨A + 1, 0, none⟩ (.int .i64 0)).setCell ⟨A + 1, 1, none⟩ (.slice none 0 0)).setCell ⟨A + 1, 2, none⟩ (.slice none 0 0)) := ⟨_, rfl⟩
        have hres := err_storedR (w := w) (P := P) (R := A + 1) (k := k) (by rw [← HA.out]; omega) (HBW.out.trans (B7.out.mono HBW.out.size)) hbR hWF
        have HRES := Lib.hid hres; have HWF := Lib.hid hWF
        clear hres hWF hbR
        go_wp2_with fail
        rw [← HWF.out]
        obtain ⟨hF, hJ⟩ := HRES.out
        have f0 := hF.cell 0; have f1 := hF.cell 1; have f2 := hF.cell 2
        simp at f0 f1 f2
        refine bodyPost_ret (v := .tuple #[.agg #[.int .i64 0, .slice none 0 0, .slice none 0 0], .int .i64 k]) (by simp [results, Tryz.results14, go_sem, f0, f1, f2]) rfl ?_
        rw [HRN.out]
        exact hJ
      | ok v =>
        rintro e w6 ⟨hb6, u, rfl, hue, hui, hus⟩
        obtain ⟨k4, l4, f4⟩ := hui.nslice
        obtain ⟨k5, l5, f5⟩ := hui.xslice
        have hag : u.agg = .agg #[.int .i64 u.k, .slice k4 u.ns.length l4, .slice k5 u.xs.length l5] := by unfold Ty.agg; rw [f4, f5]
        obtain ⟨W7, hW7⟩ : ∃ W7, W7 = w6.alloc (.cells #[.int .i64 u.k, .slice k4 u.ns.length l4, .slice k5 u.xs.length l5] 36) := ⟨_, rfl⟩
        have hb7 : Below W.heap.size W W7 := by rw [hW7]; exact (HBL.out.trans (hb6.mono hzr)).alloc (Nat.le_trans hzr hb6.size) _
        have hbu : Blk W7 w6.heap.size 36 #[.int .i64 u.k, .slice k4 u.ns.length l4, .slice k5 u.xs.length l5] := by rw [hW7]; exact Blk.new w6 36 _
        have hu7 : u.In W7 := by rw [hW7]; exact hui.below ((Below.refl _ _).alloc (Nat.le_refl _) _)
        have htr := rtrightf_any u W7 hu7
        have hRB : u.RightB = v.RightB := by rw [← hue, Ty.RightB_erase]
        rw [hag] at htr ⊢
        have hus2 : u.Sep (fun b => P b ∨ (w.heap.size ≤ b ∧ b ≠ A + 1)) := hus.mono (fun b hb => by
          have h2 := HWS.out; have h3 := HA.out
          rcases hb with hb | hb
          · rcases hb with h | h
            · exact .inl h
            · exact .inr (by omega)
          · exact .inr (by omega))
        obtain ⟨g, hg⟩ : ∃ g, g = w6.heap.size := ⟨_, rfl⟩
        rw [← hg] at hbu
        have HW7 := Lib.hid hW7; have B7 := Lib.hid hb7; have HBU := Lib.hid hbu; have HU7 := Lib.hid hu7; have HC2 := Lib.hid htr; have HRB := Lib.hid hRB; have HUS := Lib.hid hus2; have HG6 := Lib.hid hg; have F4 := Lib.hid f4; have F5 := Lib.hid f5; have HUE := Lib.hid hue
        clear hW7 hb7 hbu hu7 htr hRB hus2 hg f4 f5 hag hui hus hb6 hue x0 x1 x2 x3 x4 x5 x6 x7 x8 x9
        go_upto_region 10 with fail
        rw [← HW7.out, ← HG6.out]
        have u0 := HBU.out.cell 0; have u1 := HBU.out.cell 1; have u2 := HBU.out.cell 2
        simp at u0 u1 u2
        go_wp2_with fail
        refine HC2.out.mono ?_
        rintro e w8 ⟨rfl, hb8⟩
        have B8 := Lib.hid (B7.out.trans (hb8.mono B7.out.size))
        have hb8' := HBU.out.below hb8 HBU.out.lt
        have hu8 := HU7.out.below hb8
        have HBU8 := Lib.hid hb8'; have HU8 := Lib.hid hu8
        clear u0 u1 u2 hb8 hb8' hu8
        by_cases hrb : u.RightB = true
        case neg =>
          have hrf : u.RightB = false := by simpa using hrb
          have HRN : Hid (R = .error 15) := Lib.hid (by
            rw [HR3.out]
            show (if v.RightB = true then _ else _) = _
            rw [← HRB.out, if_neg hrb])
          rw [hrf]
          clear hrb hrf
          have hbR := BR.out.below B8.out BR.out.lt
          have r0 := hbR.cell 0; have r1 := hbR.cell 1; have r2 := hbR.cell 2
          have s0 := hbR.frozen 0; have s1 := hbR.frozen 1; have s2 := hbR.frozen 2
          simp at r0 r1 r2
          obtain ⟨WF, hWF⟩ : ∃ WF, WF = (((w8.setCell ⟨A + 1, 0, none⟩ (.int .i64 0)).setCell ⟨A + 1, 1, none⟩ (.slice none 0 0)).setCell ⟨A + 1, 2, none⟩ (.slice none 0 0)) := ⟨_, rfl⟩
          have hres := err_storedR (w := w) (P := P) (R := A + 1) (k := 15) (by rw [← HA.out]; omega) (HBW.out.trans (B8.out.mono HBW.out.size)) hbR hWF
          have HRES := Lib.hid hres; have HWF := Lib.hid hWF
          clear hres hWF hbR
          go_wp2_with fail
          rw [← HWF.out]
          obtain ⟨hF, hJ⟩ := HRES.out
          have f0 := hF.cell 0; have f1 := hF.cell 1; have f2 := hF.cell 2
          simp at f0 f1 f2
          refine bodyPost_ret (v := .tuple #[.agg #[.int .i64 0, .slice none 0 0, .slice none 0 0], .int .i64 15]) (by simp [results, Tryz.results14, go_sem, f0, f1, f2]) rfl ?_
          rw [HRN.out]
          exact hJ
        case pos =>
        have HRS : Hid (R = .ok u.erase) := Lib.hid (by
          rw [HR3.out]
          show (if v.RightB = true then _ else _) = _
          rw [← HRB.out, if_pos hrb, HUE.out])
        rw [hrb]
        clear hrb
        have u0 := HBU8.out.cell 0; have u1 := HBU8.out.cell 1; have u2 := HBU8.out.cell 2
        simp at u0 u1 u2
        have hbR := BR.out.below B8.out BR.out.lt
        have r0 := hbR.cell 0; have r1 := hbR.cell 1; have r2 := hbR.cell 2
        have s0 := hbR.frozen 0; have s1 := hbR.frozen 1; have s2 := hbR.frozen 2
        simp at r0 r1 r2
        obtain ⟨WF, hWF⟩ : ∃ WF, WF = (((w8.setCell ⟨A + 1, 0, none⟩ (.int .i64 u.k)).setCell ⟨A + 1, 1, none⟩ (.slice k4 u.ns.length l4)).setCell ⟨A + 1, 2, none⟩ (.slice k5 u.xs.length l5)) := ⟨_, rfl⟩
        have hres := res_storedR (u := u) (w := w) (P := P) (R := A + 1) (by rw [← HA.out]; omega) HP.out (HBW.out.trans (B8.out.mono HBW.out.size)) hbR HU8.out HUS.out F4.out F5.out hWF
        have HRES := Lib.hid hres; have HWF := Lib.hid hWF
        clear hres hWF hbR
        go_wp2_with fail
        rw [← HWF.out]
        obtain ⟨hF, hJ⟩ := HRES.out
        have f0 := hF.cell 0; have f1 := hF.cell 1; have f2 := hF.cell 2
        simp at f0 f1 f2
        refine bodyPost_ret (v := .tuple #[.agg #[.int .i64 u.k, .slice k4 u.ns.length l4, .slice k5 u.xs.length l5], .int .i64 0]) (by simp [results, Tryz.results14, go_sem, f0, f1, f2]) rfl ?_
        rw [HRS.out]
        exact hJ
theorem rcheck_any : ∀ (d : Nat) (x : Exp) (vp : Option Addr) (vc : Nat) (vs : List Var) (P : Nat → Prop) (w : World), x.sz ≤ d → RCheckIn x vp vc vs P w →
    Calls Tryz.prog 14 #[x.agg, .slice vp vs.length vc] w fun e w' => RGave (checkP vs x) P w e w'
  | 0, x, _, _, _, _, _, hd, _ => by rw [Exp.sz_eq] at hd; omega
  | d + 1, x, vp, vc, vs, P, w, hd, h => rcheck_step d (fun x vp vc vs P w h1 h2 => rcheck_any d x vp vc vs P w h1 h2) x vp vc vs P w hd h
end Go.Proofs.YtjpdbhhjlnmacaaGreat

/- Variables copied to a row of the call's own; basculeref09.May; types.Check's answer, laid by. -/
namespace Go.Proofs.YtjpdbhhjlnmacaaGreat
set_option linter.unusedVariables false
open Go.RowKit

theorem vcells_one (x : Var) : ∀ u ∈ x.cells, u.oneCell' = true := by
  intro u hu
  simp only [Var.cells, List.mem_cons, List.not_mem_nil, or_false] at hu
  rcases hu with rfl | rfl | rfl | rfl | rfl | rfl | rfl | rfl | rfl | rfl | rfl
  · rfl
  · rfl
  · rfl
  · cases x.t.na <;> rfl
  · cases x.t.xa <;> rfl
  · rfl
  · rfl
  · rfl
  · rfl
  · cases x.v.na <;> rfl
  · cases x.v.xa <;> rfl
def varE : Elem Var where
  cells := Var.cells
  size := 11
  In := fun w x => x.In w
  Sep := fun S x => x.t.Sep S ∧ x.v.Sep S
  pos := by decide
  len := fun _ => rfl
  one := vcells_one
  carry := fun h hs hb hz => ⟨h.1, h.2.1, h.2.2.1.carryS hs.1 hb hz, h.2.2.2.carryS hs.2 hb hz⟩
  mono := fun h hst => ⟨h.1.mono hst, h.2.mono hst⟩
  and := fun h k => ⟨h.1.and k.1, h.2.and k.2⟩
  lt := fun h => ⟨h.2.2.1.sep, h.2.2.2.sep⟩
theorem varE_one (vs : List Var) : ∀ u ∈ varE.row vs, u.oneCell' = true := fun u hu => by
  obtain ⟨x, _, hx⟩ := List.mem_flatMap.1 hu
  exact vcells_one x u hx
/-- Variables that came in, as cells to be appended. -/
theorem VarsIn.reads {w : World} {p : Option Addr} {c : Nat} {vs : List Var} (h : VarsIn w p c vs) : Reads w w.heap.size 11 p vs.length (varE.row vs) := by
  refine ⟨varE.row_len vs, fun hn => ?_⟩
  obtain ⟨b, o, rfl, hp⟩ := h.at_ 0 hn
  refine ⟨⟨b, o, none⟩, rfl, hp.2.1, fun j u hu => ?_⟩
  have hl : j < (varE.row vs).length := by
    rcases Nat.lt_or_ge j (varE.row vs).length with h' | h'
    · exact h'
    · rw [List.getElem?_eq_none h'] at hu; cases hu
  rw [varE.row_len] at hl
  have hl' : j < vs.length * 11 := hl
  have hi : j / 11 < vs.length := by omega
  have hr : j % 11 < 11 := Nat.mod_lt _ (by decide)
  have hj : j = j / 11 * 11 + j % 11 := by omega
  obtain ⟨b', o', e, hq⟩ := h.at_ (j / 11) hi
  injection e with e
  injection e with e1 e2
  subst e1 e2
  have h1 := varE.row_get vs (j / 11) (j % 11) hi hr
  have h2 := hq.1 (j % 11) hr
  rw [show varE.size = 11 from rfl, ← hj, hu] at h1
  rw [Addr.add_lit]
  have h3 : o + j = o + j / 11 * 11 + j % 11 := by omega
  rw [h3, h2]
  exact h1.symm
/-- The copy: the same variables. -/
theorem vars_of_own {w : World} {base : Nat} {v : Value} {vs : List Var} (h : w.ownsRow base 56 11 v vs.length (varE.row vs)) (hin : ∀ x, x ∈ vs → x.In w) (hl : vs.length ≤ 879609302195) :
    ∃ p c, v = .slice p vs.length c ∧ VarsIn w p c vs := by
  obtain ⟨p, c, h1, h2, h3⟩ := Elem.row_cells (E := varE) h
  refine ⟨p, c, h1, hl, h2, fun i hi => ?_⟩
  obtain ⟨g, a, b, e, d⟩ := h3 i hi
  exact ⟨g, 0, a, fun j hj => by rw [Nat.zero_add]; exact d j hj, e, hin _ (List.getElem_mem hi)⟩
theorem copy_done {U V w' : World} {vs : List Var} {p : Option Addr} {c : Nat} {v0 v' : Value} (hv : VarsIn U p c vs) (hb : Below U.heap.size U V) (ho : ∀ k, v0.ownBlock = some k → U.heap.size ≤ k)
    (hown : w'.ownsRow U.heap.size 56 11 v' (0 + vs.length) ([] ++ varE.row vs)) (hg : V.grownBy w' v0.ownBlock) : ∃ p c, v' = .slice p vs.length c ∧ VarsIn w' p c vs ∧ Below U.heap.size U w' := by
  have hb' := hb.grown hg hb.size ho
  rw [Nat.zero_add, List.nil_append] at hown
  obtain ⟨p, c, h1, h2⟩ := vars_of_own hown (fun x hx => (hv.each hx).below hb') hv.len
  exact ⟨p, c, h1, h2, hb'⟩
theorem var_facts : (Tryz.prog.info? 56).map (fun i => (i.zero, i.size, i.bytes)) = some (some (.agg #[.string ByteArray.empty, .int .i64 0, .int .i64 0, .slice none 0 0, .slice none 0 0, .int .i64 0, .int .i64 0, .float .f64 0, .string ByteArray.empty, .slice none 0 0, .slice none 0 0]), 11, 168) := by kernel_rfl
/-- An answer laid by. -/
def CItem (U : World) (x : Exp) (vs : List Var) (p q : Value) (wx : World) : Prop :=
  ∃ (X : Nat) (T : Ty) (k : Int), p = .pointer (some ⟨X, 0, none⟩) ∧ q = .int .i64 k ∧ Below U.heap.size U wx ∧ Blk wx X 36 #[.int .i64 T.k, T.na.val T.ns.length, T.xa.val T.xs.length] ∧ T.In wx ∧ CAns x vs T k
theorem citem_new {U w6 : World} {x : Exp} {vs : List Var} {u : Ty} {k : Int} {a4 a5 : Option Addr} {b4 b5 : Nat} (hb : Below U.heap.size U w6) (k4 : u.na.val u.ns.length = .slice a4 u.ns.length b4) (k5 : u.xa.val u.xs.length = .slice a5 u.xs.length b5) (hi : u.In w6) (ha : CAns x vs u k) :
    CItem U x vs (.pointer (some ⟨w6.heap.size, 0, none⟩)) (.int .i64 k) (w6.alloc (.cells #[.int .i64 u.k, .slice a4 u.ns.length b4, .slice a5 u.xs.length b5] 36)) := by
  have h1 := Blk.new w6 36 #[.int .i64 u.k, .slice a4 u.ns.length b4, .slice a5 u.xs.length b5]
  have h2 := (Below.refl w6.heap.size w6).alloc (Nat.le_refl _) (.cells #[.int .i64 u.k, .slice a4 u.ns.length b4, .slice a5 u.xs.length b5] 36)
  exact ⟨_, u, k, rfl, rfl, hb.trans (h2.mono hb.size), by rw [k4, k5]; exact h1, hi.below h2, ha⟩
theorem citem_set {U w6 : World} {X : Nat} {x : Exp} {vs : List Var} {u : Ty} {k : Int} {a4 a5 : Option Addr} {b4 b5 : Nat} {z0 z1 z2 : Value} (hb : Below U.heap.size U w6) (hX : U.heap.size ≤ X) (hbX : Blk w6 X 36 #[z0, z1, z2]) (k4 : u.na.val u.ns.length = .slice a4 u.ns.length b4) (k5 : u.xa.val u.xs.length = .slice a5 u.xs.length b5) (hi : u.In w6) (hs : u.Sep (fun b => b ≠ X)) (ha : CAns x vs u k) :
    CItem U x vs (.pointer (some ⟨X, 0, none⟩)) (.int .i64 k) (((w6.setCell ⟨X, 0, none⟩ (.int .i64 u.k)).setCell ⟨X, 1, none⟩ (.slice a4 u.ns.length b4)).setCell ⟨X, 2, none⟩ (.slice a5 u.xs.length b5)) := by
  refine ⟨X, u, k, rfl, rfl, below3_set hb hX _ _ _, by rw [k4, k5]; exact blk3_set hbX _ _ _, hi.carryS hs (fun b o hb' hlt => ?_) (by simp [World.setCell]), ha⟩
  have hne : ∀ k, (⟨X, k, none⟩ : Addr) ≠ ⟨b, o, none⟩ := fun k e => by injection e with e _; exact hb' e.symm
  rw [World.cell?_setCell_other _ _ _ _ (hne 2), World.cell?_setCell_other _ _ _ _ (hne 1), World.cell?_setCell_other _ _ _ _ (hne 0)]
theorem checked_sep (x : Exp) (vs : List Var) (vp : Option Addr) (vc : Nat) (w : World) (hx : x.In w) (hv : VarsIn w vp vc vs) :
    Calls Tryz.prog 11 #[x.agg, .slice vp vs.length vc] w fun e w' => ∃ (T : Ty) (k : Int), e = .returned (.tuple #[T.agg, .int .i64 k]) ∧ T.In w' ∧ T.Sep (fun b => w.heap.size ≤ b) ∧ CAns x vs T k ∧ Below w.heap.size w w' := by
  refine (checkf_any x vs vp vc w hx hv).mono ?_
  rintro e w' ⟨hb, hr⟩
  cases h : checkF x vs with
  | error k =>
    rw [h] at hr
    exact ⟨Ty.zero, k, hr, tzero_in _, tzero_sep _, .inr ⟨checkF_err h, h, rfl⟩, hb⟩
  | ok v =>
    rw [h] at hr
    obtain ⟨u, he, hue, hui, hus⟩ := hr
    exact ⟨u, 0, he, hui, hus, .inl ⟨rfl, by rw [h, hue]⟩, hb⟩
/-- The reference's answer, both ways at once. -/
theorem rcheck_both (x : Exp) (vs : List Var) (vp : Option Addr) (vc : Nat) (w : World) (hx : x.In w) (hv : VarsIn w vp vc vs) (hr : x.RightB = true) :
    Calls Tryz.prog 14 #[x.agg, .slice vp vs.length vc] w fun e w' => ∃ (T : Ty) (k : Int), e = .returned (.tuple #[T.agg, .int .i64 k]) ∧ T.In w' ∧ ((k = 0 ∧ checkP vs x = .ok T.erase) ∨ (k ≠ 0 ∧ checkP vs x = .error k ∧ T.erase = Ty.zero)) ∧ Below w.heap.size w w' := by
  unfold Exp.RightB at hr
  rw [Bool.and_eq_true] at hr
  refine (rcheck_any x.sz x vp vc vs (fun b => b < w.heap.size) w (Nat.le_refl _) ⟨fun b hb => hb, hx, hx.sep, hv, fun v hm => (hv.each hm).2.2.1.sep, ⟨1, hr.2⟩⟩).mono ?_
  intro e w' hg
  obtain ⟨u, k, rfl, hui, _, hb, hk⟩ := hg.any
  refine ⟨u, k, rfl, hui, ?_, hb⟩
  rcases hk with ⟨rfl, hk⟩ | ⟨hk, rfl⟩
  · exact .inl ⟨rfl, hk⟩
  · exact .inr ⟨checkP_err x.sz vs x k (Nat.le_refl _) hk, hk, rfl⟩
def mayB (x : Exp) (vs : List Var) : Bool := (vs.all fun v => v.t.RightB) && x.RightB
set_option maxHeartbeats 4000000 in
set_option maxRecDepth 100000 in
theorem may_any (x : Exp) (vs : List Var) (vp : Option Addr) (vc : Nat) (w : World) (hx : x.In w) (hv : VarsIn w vp vc vs) :
    Calls Tryz.prog 12 #[x.agg, .slice vp vs.length vc] w fun e w' => BoolBelow (mayB x vs) w e w' := by
  obtain ⟨W, hW⟩ : ∃ W, W = w.alloc (.cells x.cells.toArray 29) := ⟨_, rfl⟩
  have hBW : Below w.heap.size w W := by rw [hW]; exact (Below.refl _ w).alloc (Nat.le_refl _) _
  have hb0 : Blk W w.heap.size 29 x.cells.toArray := by rw [hW]; exact Blk.new w 29 _
  have hxW := hx.below hBW
  have hvW := hv.below hBW
  have hr := fun (W' : World) (hb : Below W.heap.size W W') => rxrightf_any x W' (hxW.below hb)
  obtain ⟨p8, q8, e8⟩ := hx.nslice
  obtain ⟨p9, q9, e9⟩ := hx.xslice
  obtain ⟨p6, q6, e6⟩ := hx.val.nslice
  obtain ⟨p7, q7, e7⟩ := hx.val.xslice
  unfold Exp.cells at hW hb0
  unfold Exp.agg at hr ⊢
  rw [e6, e7, e8, e9] at hW hr hb0 ⊢
  obtain ⟨A, hA⟩ : ∃ A, A = w.heap.size := ⟨_, rfl⟩
  rw [← hA] at hb0
  obtain ⟨R, hR⟩ : ∃ R, R = mayB x vs := ⟨_, rfl⟩
  obtain ⟨Q, hQ⟩ : ∃ Q, Q = x.RightB := ⟨_, rfl⟩
  rw [← hR]
  simp only [← hQ] at hr
  obtain ⟨N, hN⟩ : ∃ N, N = vs.length := ⟨_, rfl⟩
  rw [← hN]
  have hNb : N ≤ 879609302195 := by rw [hN]; exact hv.len
  have hNc : N ≤ vc := by rw [hN]; exact hv.cap
  have HW := Lib.hid hW; have HBW := Lib.hid hBW; have HX := Lib.hid hb0; have HA := Lib.hid hA; have HR := Lib.hid hR; have HQ := Lib.hid hQ; have HN := Lib.hid hN; have HV := Lib.hid hvW; have HRX := Lib.hid hr
  clear hW hBW hb0 hA hR hQ hN hvW hr hv hx hxW e6 e7 e8 e9
  go_enter Tryz.func12, Tryz.ntmps12
  go_upto_region 1 with fail
  rw [← HW.out, ← HA.out]
  go_wp2_with fail
  go_loopw [5] (fun iv wr => ∃ i : Nat, iv = .int .i64 (i : Int) ∧ i ≤ N ∧ Hid ((vs.take i).all (fun v => v.t.RightB) = true) ∧ Hid (Below W.heap.size W wr)) (fun iv _ => N - (intOf iv).toNat)
  case atStart => exact ⟨0, rfl, by omega, Lib.hid rfl, Lib.hid (Below.refl _ _)⟩
  case round =>
    obtain ⟨i, rfl, hi, HAL, HBL⟩ := hrel
    by_cases hlt : i < N
    · have hil : i < vs.length := by rw [← HN.out]; exact hlt
      obtain ⟨vb, vo, rfl, hpv0⟩ := HV.out.at_ i hil
      obtain ⟨v, hvd⟩ : ∃ v, v = vs[i]'hil := ⟨_, rfl⟩
      rw [← hvd] at hpv0
      have hpv := hpv0.below HBL.out
      have htr := rtrightf_any v.t wr hpv.ty.in
      have g2 := hpv.c2; have g3 := hpv.c3; have g4 := hpv.c4
      obtain ⟨k4, l4, f4⟩ := hpv.ty.in.nslice
      obtain ⟨k5, l5, f5⟩ := hpv.ty.in.xslice
      rw [f4] at g3
      rw [f5] at g4
      unfold Ty.agg at htr
      rw [f4, f5] at htr
      have hk0 : (0 : Int) ≤ (i : Int) := by omega
      have hk1 : (i : Int) < (N : Int) := by omega
      have HC := Lib.hid htr
      have HVD := Lib.hid hvd
      clear htr hpv hpv0 f4 f5 hvd
      go_wp2_with fail
      refine HC.out.mono ?_
      rintro e w3 ⟨rfl, hb3⟩
      have B3 := Lib.hid (HBL.out.trans (hb3.mono HBL.out.size))
      clear hb3 g2 g3 g4
      cases hs1 : v.t.RightB with
      | false =>
        have HRN : Hid (R = false) := Lib.hid (by
          rw [HR.out]
          unfold mayB
          have : (vs.all fun v => v.t.RightB) = false := by
            rw [Bool.eq_false_iff]
            intro hall
            have := List.all_eq_true.1 hall v (by rw [HVD.out]; simp)
            rw [this] at hs1
            cases hs1
          rw [this]
          rfl)
        clear hs1
        go_wp2_with fail
        go_ret
        exact ⟨by rw [HRN.out]; rfl, HBW.out.trans (B3.out.mono HBW.out.size)⟩
      | true =>
        have HAL2 : Hid ((vs.take (i + 1)).all (fun v => v.t.RightB) = true) := Lib.hid (all_take hil HAL.out (by rw [← HVD.out]; exact hs1))
        clear hs1
        go_wp2_with fail
        go_roundw
        case rel => exact ⟨i + 1, by go_num, by omega, HAL2, B3⟩
        case measure => simp [intOf]; omega
    · obtain rfl : i = N := by omega
      have t1 : decide ((i : Int) < (i : Int)) = false := by simp
      have HRE : Hid (R = Q) := Lib.hid (by
        have := HAL.out
        rw [HN.out, List.take_length] at this
        rw [HR.out]
        unfold mayB
        rw [this, HQ.out]
        rfl)
      have hbx := HX.out.below HBL.out HX.out.lt
      have c0 := hbx.cell 0; have c1 := hbx.cell 1; have c2 := hbx.cell 2; have c3 := hbx.cell 3; have c4 := hbx.cell 4; have c5 := hbx.cell 5; have c6 := hbx.cell 6; have c7 := hbx.cell 7; have c8 := hbx.cell 8; have c9 := hbx.cell 9
      simp only [List.getElem?_toArray, List.getElem?_cons_zero, List.getElem?_cons_succ] at c0 c1 c2 c3 c4 c5 c6 c7 c8 c9
      clear hbx hlt
      go_wp2_with fail
      refine (HRX.out _ HBL.out).mono ?_
      rintro e w3 ⟨rfl, hb3⟩
      have B3 := Lib.hid (HBL.out.trans (hb3.mono HBL.out.size))
      clear hb3
      go_wp2_with fail
      go_ret
      exact ⟨by rw [HRE.out]; rfl, HBW.out.trans (B3.out.mono HBW.out.size)⟩
end Go.Proofs.YtjpdbhhjlnmacaaGreat
