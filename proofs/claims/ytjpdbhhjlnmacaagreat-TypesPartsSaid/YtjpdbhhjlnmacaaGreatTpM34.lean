/- types.own of any type: the same in memory of its own. -/
import Derived.Test.YtjpdbhhjlnmacaaGreatTpM22
import Derived.Test.YtjpdbhhjlnmacaaGreatTpM32
namespace Go.Proofs.YtjpdbhhjlnmacaaGreat
set_option linter.unusedVariables false
open Go.RowKit

def Owned (t : Ty) (w : World) (e : Ending) (w' : World) : Prop := ∃ u : Ty, e = .returned u.agg ∧ u.erase = t.erase ∧ u.In w' ∧ u.Sep (fun b => w.heap.size ≤ b) ∧ Below w.heap.size w w'
set_option maxHeartbeats 8000000 in
set_option maxRecDepth 100000 in
theorem own_step (d : Nat) (ih : ∀ (t : Ty) (w : World), t.sz ≤ d → t.In w → Calls Tryz.prog 31 #[t.agg] w fun e w' => Owned t w e w') (t : Ty) (w : World) (hd : t.sz ≤ d + 1) (ht : t.In w) : Calls Tryz.prog 31 #[t.agg] w fun e w' => Owned t w e w' := by
  obtain ⟨W, hW⟩ : ∃ W, W = (w.alloc (.cells #[.int .i64 t.k, t.na.val t.ns.length, t.xa.val t.xs.length] 36)).alloc (.cells #[.int .i64 0, .slice none 0 0, .slice none 0 0] 36) := ⟨_, rfl⟩
  have hBW : Below w.heap.size w W := by rw [hW]; exact ((Below.refl _ w).alloc (Nat.le_refl _) _).alloc (by simp) _
  have hb : Blk W w.heap.size 36 #[.int .i64 t.k, t.na.val t.ns.length, t.xa.val t.xs.length] := by rw [hW]; exact (Blk.new w 36 _).alloc _
  have hbr : Blk W (w.heap.size + 1) 36 #[.int .i64 0, .slice none 0 0, .slice none 0 0] := by
    rw [hW]
    have := Blk.new (w.alloc (.cells #[.int .i64 t.k, t.na.val t.ns.length, t.xa.val t.xs.length] 36)) 36 #[.int .i64 0, .slice none 0 0, .slice none 0 0]
    rw [show (w.alloc (.cells #[.int .i64 t.k, t.na.val t.ns.length, t.xa.val t.xs.length] 36)).heap.size = w.heap.size + 1 from by simp] at this
    exact this
  have hWS : W.heap.size = w.heap.size + 2 := by rw [hW]; simp
  have hcl := clone_any _ t.ns W (TNamesAt.of (ht.below hBW)) ht.ok.2.1
  obtain ⟨p4, q4, e4⟩ := ht.nslice
  obtain ⟨p5, q5, e5, hx⟩ := titems_at ht
  rw [e4, e5] at hW hb
  rw [e4] at hcl
  unfold Ty.agg
  rw [e4, e5]
  obtain ⟨A, hA⟩ : ∃ A, A = w.heap.size := ⟨_, rfl⟩
  rw [← hA] at hb hbr hWS
  obtain ⟨M, hM⟩ : ∃ M, M = t.xs.length := ⟨_, rfl⟩
  rw [← hM] at hW hb ⊢
  have hMb : M ≤ 2513169434843 := by rw [hM]; exact ht.ok.2.2.1
  have c0 := hb.cell 0; have c1 := hb.cell 1; have c2 := hb.cell 2; have f1 := hb.frozen 1
  simp at c0 c1 c2
  obtain ⟨i0, hi0, hz0, hz1, hz2⟩ := info_parts tty_facts'
  have HW := Lib.hid hW; have HBW := Lib.hid hBW; have HB := Lib.hid hb; have HBR := Lib.hid hbr; have HA := Lib.hid hA; have HX := Lib.hid hx; have HM := Lib.hid hM; have HIH := Lib.hid ih; have HOK := Lib.hid ht.ok; have HCL := Lib.hid hcl; have HWS := Lib.hid hWS
  have HMM := Lib.hid (show ∀ y, y ∈ t.xs → y.sz ≤ d from fun y hy => by have := Ty.size_mem hy; omega)
  clear hW hBW hb hbr hA hx hM ih ht hcl hd hWS e4 e5
  go_enter Tryz.func31, Tryz.ntmps31
  go_wp2_with fail
  rw [← HW.out, ← HA.out]
  refine HCL.out.mono ?_
  rintro e w3 ⟨sn, rfl, hlie, hsep, hb3⟩
  obtain ⟨p6, q6, e6⟩ := hlie.slice
  rw [e6]
  have hbA := HB.out.below hb3 HB.out.lt
  have hbR := HBR.out.below hb3 HBR.out.lt
  clear c0 c1 c2 f1
  have c1 := hbA.cell 1; have f1 := hbA.frozen 1
  simp at c1
  obtain ⟨W4, hW4⟩ : ∃ W4, W4 = w3.setCell ⟨A, 1, none⟩ (.slice p6 t.ns.length q6) := ⟨_, rfl⟩
  have hbA4 : Blk W4 A 36 #[.int .i64 t.k, .slice p6 t.ns.length q6, .slice p5 M q5] := by rw [hW4]; exact hbA.set_ 1 _
  have hbR4 : Blk W4 (A + 1) 36 #[.int .i64 0, .slice none 0 0, .slice none 0 0] := by rw [hW4]; exact hbR.far (p := ⟨A, 1, none⟩) (by simp) _
  have hB4 : Below w.heap.size w W4 := by rw [hW4]; exact (HBW.out.trans (hb3.mono HBW.out.size)).setCell (p := ⟨A, 1, none⟩) (by show w.heap.size ≤ A; have := HA.out; omega) _
  have hz4 : W4.heap.size = w3.heap.size := by rw [hW4]; simp [World.setCell]
  have hz3 := hb3.size
  have hlie4 : sn.lies W4 1 t.ns.length (fun i => [.string (t.ns.getD i ByteArray.empty)]) := by
    refine hlie.carryS hsep (fun b o hb _ => ?_) (by omega)
    rw [hW4]
    exact World.cell?_setCell_other w3 ⟨A, 1, none⟩ ⟨b, o, none⟩ _ (fun e => by injection e with e _; have := HB.out.lt; omega)
  have HW4 := Lib.hid hW4; have HA4 := Lib.hid hbA4; have HR4 := Lib.hid hbR4; have HB4 := Lib.hid hB4; have HLI := Lib.hid hlie4; have HSP := Lib.hid hsep; have E6 := Lib.hid e6
  have hW34 : W.heap.size ≤ W4.heap.size := by omega
  clear hW4 hbA4 hbR4 hB4 hlie4 hsep e6 hlie hbA hbR hb3 hz4 hz3
  go_upto_region 2 with fail
  rw [← HW4.out]
  clear c1 f1
  have c2 := HA4.out.cell 2
  simp at c2
  go_wp2_with fail
  clear c2
  go_loopw [3, 13] (fun sv iv wr => ∃ (i : Nat) (us : List Ty) (ax : Option Addr) (cx : Nat), sv = .slice ax us.length cx ∧ iv = .int .i64 (i : Int) ∧ i ≤ M ∧ Hid (us.length = i) ∧ Hid (us.map Ty.erase = (t.xs.take i).map Ty.erase) ∧
    Hid (Rowed tyE (fun _ => False) W4.heap.size 36 wr us (.slice ax us.length cx)) ∧ Hid (Below W4.heap.size W4 wr)) (fun _ iv _ => M - (intOf iv).toNat)
  case atStart => exact ⟨0, [], none, 0, rfl, rfl, by omega, Lib.hid rfl, Lib.hid rfl, Lib.hid (rowed_start _), Lib.hid (Below.refl _ _)⟩
  case round =>
    obtain ⟨i, us, ax, cx, rfl, rfl, hi, HUL, HUE, HG, HBL⟩ := hrel
    have hbw : Below w.heap.size w wr := HB4.out.trans (HBL.out.mono HB4.out.size)
    have HBW4 := Lib.hid hbw
    clear hbw
    by_cases hlt : i < M
    · have hil : i < t.xs.length := by rw [← HM.out]; exact hlt
      obtain ⟨xb, xo, rfl, hpx0, hlc⟩ := HX.out i hil
      rw [← HM.out] at hlc
      obtain ⟨x, hxx⟩ : ∃ x, x = t.xs[i]'hil := ⟨_, rfl⟩
      have htk : (t.xs.take (i + 1)).map Ty.erase = (t.xs.take i).map Ty.erase ++ [x.erase] := by rw [List.take_succ_eq_append_getElem hil, List.map_append, hxx]; rfl
      have hxs := HMM.out (t.xs[i]'hil) (by simp)
      rw [← hxx] at hpx0 hxs
      have hpx := hpx0.below HBW4.out
      have u0 := hpx.c0; have u1 := hpx.c1; have u2 := hpx.c2
      obtain ⟨k4, l4, f4⟩ := hpx.in.nslice
      obtain ⟨k5, l5, f5⟩ := hpx.in.xslice
      rw [f4] at u1; rw [f5] at u2
      obtain ⟨W5, hW5⟩ : ∃ W5, W5 = wr.alloc (.cells #[.int .i64 x.k, .slice k4 x.ns.length l4, .slice k5 x.xs.length l5] 36) := ⟨_, rfl⟩
      have hb5 : Below wr.heap.size wr W5 := by rw [hW5]; exact (Below.refl _ _).alloc (Nat.le_refl _) _
      have hbx5 : Blk W5 wr.heap.size 36 #[.int .i64 x.k, .slice k4 x.ns.length l4, .slice k5 x.xs.length l5] := by rw [hW5]; exact Blk.new wr 36 _
      have hc := HIH.out x W5 hxs (hpx.in.below hb5)
      unfold Ty.agg at hc
      rw [f4, f5] at hc
      have hk0 : (0 : Int) ≤ (i : Int) := by omega
      have hk1 : (i : Int) < (M : Int) := by omega
      have hbxl := hpx.2.1
      have HC := Lib.hid hc; have HW5 := Lib.hid hW5; have HB5 := Lib.hid hb5; have HBX := Lib.hid hbx5; have HTK := Lib.hid htk
      have hzr : W4.heap.size ≤ wr.heap.size := HBL.out.size
      clear hc hW5 hb5 hbx5 htk hpx hpx0 hxx hxs hil f4 f5
      go_upto_region 6 with fail
      rw [← HW5.out]
      clear u0 u1 u2
      have u0 := HBX.out.cell 0; have u1 := HBX.out.cell 1; have u2 := HBX.out.cell 2
      simp at u0 u1 u2
      go_wp2_with fail
      refine HC.out.mono ?_
      rintro e w6 ⟨u, rfl, hue, hui, hus, hb6⟩
      obtain ⟨a4, b4, g4⟩ := hui.nslice
      obtain ⟨a5, b5, g5⟩ := hui.xslice
      unfold Ty.agg
      rw [g4, g5]
      have hb06 := HB5.out.trans (hb6.mono HB5.out.size)
      have hz6 := hb06.size
      have hg6 := HG.out.below hb06
      have hus2 : u.Sep (fun b => False ∨ wr.heap.size ≤ b) := hus.mono (fun b hb => .inr (by have := HB5.out.size; omega))
      have hred : Reads (w6.alloc (.cells #[.int .i64 u.k, .slice a4 u.ns.length b4, .slice a5 u.xs.length b5] 36)) (w6.heap.size + 1) 3 (some ⟨w6.heap.size, 0, none⟩) 1 u.cells := by
        unfold Ty.cells; rw [g4, g5]; exact row_reads w6 _ 36
      have hown6 := hg6.items.alloc (.cells #[.int .i64 u.k, .slice a4 u.ns.length b4, .slice a5 u.xs.length b5] 36)
      have hxz : ∀ b, (Value.slice ax us.length cx).ownBlock = some b → b < wr.heap.size := fun b hb => (HG.out.items.lt b hb).2
      have HG6 := Lib.hid hg6; have HRED := Lib.hid hred; have HOWN6 := Lib.hid hown6; have HUI := Lib.hid hui; have HUS := Lib.hid hus2; have HUER := Lib.hid hue; have HXZ := Lib.hid hxz; have HBL6 := Lib.hid (HBL.out.trans (hb06.mono hzr))
      have hul : us.length ≤ M := by rw [HUL.out]; exact hi
      clear hg6 hred hown6 hui hus hus2 hue hxz hb6 hb06 g4 g5 u0 u1 u2
      go_wp2_with (at_builtin; refine wpList_append_any _ rfl _ _ 34 rfl W4.heap.size 36 i0 (.agg #[.int .i64 0, .slice none 0 0, .slice none 0 0]) 3 56 Tryz.underlying34 hi0 hz0 hz1 hz2 rfl (by decide) _ us.length (tyE.row us) rfl HOWN6.out (w6.heap.size + 1) _ 1 _ u.cells rfl HRED.out (tyE.one u) ?c1 ?c2 ?c3 ?_)
      case c1 => unfold maxLen; omega
      case c2 => omega
      case c3 => simp; omega
      intro v' w8 hown' hgrow hor
      have hg8 := Rowed.item (Rowed.below HG6.out ((Below.refl _ w6).alloc (Nat.le_refl _) (.cells #[.int .i64 u.k, .slice a4 u.ns.length b4, .slice a5 u.xs.length b5] 36))) (fun b hb => hb.elim) (by simp; omega) (HUI.out.below ((Below.refl _ w6).alloc (Nat.le_refl _) (.cells #[.int .i64 u.k, .slice a4 u.ns.length b4, .slice a5 u.xs.length b5] 36))) HUS.out hzr HXZ.out hown' hgrow (by simpa using hor)
      have hb8 := (HBL6.out.alloc HBL6.out.size (.cells #[.int .i64 u.k, .slice a4 u.ns.length b4, .slice a5 u.xs.length b5] 36)).grown hgrow (by have := HBL6.out.size; simp; omega) (fun k hk => own_ge HG6.out.items hk)
      obtain ⟨ax', cx', rfl⟩ := row_form hown'
      have HG8 := Lib.hid hg8; have HB8 := Lib.hid hb8
      clear hg8 hb8 hown' hgrow hor
      go_wp2
      go_roundw
      case rel => exact ⟨i + 1, us ++ [u], ax', cx', by simp, by go_num, by omega, Lib.hid (by simp [HUL.out]), Lib.hid (by rw [List.map_append, HUE.out, HTK.out, List.map_cons, List.map_nil, HUER.out]), by simpa using HG8, HB8⟩
      case measure => simp [intOf]; omega
    · obtain rfl : i = M := by omega
      have hA4 := HA4.out.below HBL.out HA4.out.lt
      have hR4 := HR4.out.below HBL.out HR4.out.lt
      have a0 := hA4.cell 0; have a1 := hA4.cell 1; have a2 := hA4.cell 2; have fa2 := hA4.frozen 2
      have hAs := hA4.set_ 2 (.slice ax us.length cx)
      have d0 := hAs.cell 0; have d1 := hAs.cell 1; have d2 := hAs.cell 2
      have hRs := hR4.far (p := ⟨A, 2, none⟩) (by simp) (.slice ax us.length cx)
      have r0 := hRs.cell 0; have r1 := hRs.cell 1; have r2 := hRs.cell 2
      have s0 := hRs.frozen 0; have s1 := hRs.frozen 1; have s2 := hRs.frozen 2
      simp at a0 a1 a2 d0 d1 d2 r0 r1 r2
      obtain ⟨WF, hWF⟩ : ∃ WF, WF = (((wr.setCell ⟨A, 2, none⟩ (.slice ax us.length cx)).setCell ⟨A + 1, 0, none⟩ (.int .i64 t.k)).setCell ⟨A + 1, 1, none⟩ (.slice p6 t.ns.length q6)).setCell ⟨A + 1, 2, none⟩ (.slice ax us.length cx) := ⟨_, rfl⟩
      have hF : Blk WF (A + 1) 36 #[.int .i64 t.k, .slice p6 t.ns.length q6, .slice ax us.length cx] := by rw [hWF]; exact blk3_set hRs _ _ _
      have hBF : Below w.heap.size w WF := by
        rw [hWF]
        exact below3_set (HBW4.out.setCell (p := ⟨A, 2, none⟩) (by show w.heap.size ≤ A; have := HA.out; omega) _) (by have := HA.out; omega) _ _ _
      have hg2 : Rowed tyE (fun _ => False) W4.heap.size 36 WF us (.slice ax us.length cx) := by
        rw [hWF]
        have hl := HR4.out.lt
        exact (((HG.out.set_ (p := ⟨A, 2, none⟩) (fun b hb => hb.elim) (by show A < _; omega) _).set_ (p := ⟨A + 1, 0, none⟩) (fun b hb => hb.elim) hl _).set_ (p := ⟨A + 1, 1, none⟩) (fun b hb => hb.elim) hl _).set_ (p := ⟨A + 1, 2, none⟩) (fun b hb => hb.elim) hl _
      obtain ⟨sx, hsx, hlx, hspx⟩ := trowLies_of_own hg2.items
      have hsn : sn.lies WF 1 t.ns.length (fun i => [.string (t.ns.getD i ByteArray.empty)]) := by
        have h1 : sn.lies wr 1 t.ns.length (fun i => [.string (t.ns.getD i ByteArray.empty)]) := HLI.out.carry (fun b o hlt => HBL.out.cell (p := ⟨b, o, none⟩) hlt) HBL.out.size
        refine h1.carryS HSP.out (fun b o hb _ => ?_) (by rw [hWF]; simp [World.setCell])
        have hne : ∀ (c k : Nat), c = A ∨ c = A + 1 → (⟨c, k, none⟩ : Addr) ≠ ⟨b, o, none⟩ := fun c k hc e => by injection e with e _; have := HBR.out.lt; omega
        rw [hWF, World.cell?_setCell_other _ _ _ _ (hne _ 2 (.inr rfl)), World.cell?_setCell_other _ _ _ _ (hne _ 1 (.inr rfl)), World.cell?_setCell_other _ _ _ _ (hne _ 0 (.inr rfl)), World.cell?_setCell_other _ _ _ _ (hne _ 2 (.inl rfl))]
      have hfin : Owned t w (.returned (.agg #[.int .i64 t.k, .slice p6 t.ns.length q6, .slice ax us.length cx])) WF := by
        refine ⟨.mk t.k sn t.ns sx us, ?_, ?_, ?_, ?_, hBF⟩
        · show _ = Ending.returned (.agg #[.int .i64 t.k, sn.val t.ns.length, sx.val us.length])
          rw [← hsx, E6.out]
        · rw [Ty.erase_eq, Ty.erase_eq t]
          show Ty.mk t.k .no t.ns .no (us.map Ty.erase) = _
          rw [HUE.out, HM.out, List.take_length]
        · rw [Ty.in_iff]
          exact ⟨⟨HOK.out.1, HOK.out.2.1, by show us.length ≤ _; rw [HUL.out]; omega, HOK.out.2.2.2⟩, hsn, hlx, fun y hy => (hg2.each y hy).1⟩
        · rw [Ty.sep_iff]
          have hw2 : w.heap.size ≤ W.heap.size := HBW.out.size
          exact ⟨HSP.out.mono (fun b hb => by omega), hspx.mono (fun b hb => by omega), fun y hy => (hg2.each y hy).2.mono (fun b hb => by rcases hb.1 with h | h; exact h.elim; omega)⟩
      have HWF := Lib.hid hWF; have HF := Lib.hid hF; have HFIN := Lib.hid hfin
      have t1 : decide ((i : Int) < (i : Int)) = false := by simp
      clear hWF hF hfin hBF hg2 hsx hlx hspx hsn hAs hRs hA4 hR4 hlt
      go_wp2_with fail
      rw [← HWF.out]
      clear a0 a1 a2 fa2 d0 d1 d2 r0 r1 r2 s0 s1 s2
      have f0 := HF.out.cell 0; have f1 := HF.out.cell 1; have f2 := HF.out.cell 2
      simp at f0 f1 f2
      refine bodyPost_ret (v := .agg #[.int .i64 t.k, .slice p6 t.ns.length q6, .slice ax us.length cx]) (by simp [results, Tryz.results31, go_sem, f0, f1, f2]) rfl ?_
      exact HFIN.out
theorem own_any : ∀ (d : Nat) (t : Ty) (w : World), t.sz ≤ d → t.In w → Calls Tryz.prog 31 #[t.agg] w fun e w' => Owned t w e w'
  | 0, t, w, hd, _ => by rw [Ty.sz_eq] at hd; omega
  | d + 1, t, w, hd, h => own_step d (fun t w h1 h2 => own_any d t w h1 h2) t w hd h
end Go.Proofs.YtjpdbhhjlnmacaaGreat

/- The document's floats: the text "1p0"; a float's token. -/
namespace Go.Proofs.YtjpdbhhjlnmacaaGreat
set_option linter.unusedVariables false
open Go.RowKit

set_option maxHeartbeats 4000000 in
set_option maxRecDepth 100000 in
theorem parse3_one (w : World) : Calls Tryz.prog 124 #[.string ⟨#[49, 112, 48]⟩] w fun e w' => e = .returned (.tuple #[.float .f64 4607182418800017408, .int .i64 0]) ∧ Below w.heap.size w w' := by
  have H1 := Lib.hid (fun W => num3_any ⟨#[49, 112, 48]⟩ 49 1 W (by decide) (by decide) (by decide) (.inr ⟨rfl, rfl⟩) (.inr ⟨by decide, by decide⟩))
  have H2 := Lib.hid (fun W => num3_any ((⟨#[112, 48]⟩ : ByteArray).extract 1 2) 48 0 W (by decide) (by decide) (by decide) (.inl ⟨rfl, rfl⟩) (.inl rfl))
  have HM := Lib.hid made_one
  go_enter Tryz.func124, Tryz.ntmps124
  go_wp2_with fail
  refine (H1.out _).mono ?_
  rintro e w1 ⟨rfl, hb1⟩
  rw [show (⟨#[49, 112, 48]⟩ : ByteArray).extract 1 (⟨#[49, 112, 48]⟩ : ByteArray).size = ⟨#[112, 48]⟩ from rfl]
  have HB1 := Lib.hid hb1
  clear hb1
  go_wp2_with fail
  refine (H2.out _).mono ?_
  rintro e w2 ⟨rfl, hb2⟩
  rw [show ((⟨#[112, 48]⟩ : ByteArray).extract 1 2).extract 1 ((⟨#[112, 48]⟩ : ByteArray).extract 1 2).size = ⟨#[]⟩ from rfl]
  have HB2 := Lib.hid (HB1.out.trans (hb2.mono HB1.out.size))
  clear hb2
  go_wp2_with fail
  refine (HM.out _).mono ?_
  rintro e w3 ⟨rfl, rfl⟩
  go_wp2_with fail
  refine bodyPost_ret (v := .tuple #[.float .f64 4607182418800017408, .int .i64 0]) (by simp [results, Tryz.results124, go_sem]) rfl ?_
  exact ⟨rfl, HB2.out⟩

set_option maxHeartbeats 8000000 in
set_option maxRecDepth 100000 in
theorem num_flt (s : ByteArray) (a : Nat) (w : World) (hs : s.size ≤ 2000) (ha : s.size = a + 3) (r1 : RunTo s a (a + 1)) (r2 : RunTo s (a + 2) (a + 3)) (hc1 : byteAt s (a + 1) = 112) (hc2 : byteAt s (a + 2) = 48) (hx : s.extract a (a + 3) = ⟨#[49, 112, 48]⟩) :
    Calls Tryz.prog 106 #[.string s, .agg #[.int .i64 1, .int .i64 (a : Int), .int .i64 (a : Int), .int .i64 0, .float .f64 0, .string ⟨#[]⟩]] w fun e w' => TokOut (Tok.mk 3 a ((a : Int) + 3) 0 4607182418800017408 ⟨#[]⟩) 0 w e w' := by
  obtain ⟨W, hW⟩ : ∃ W, W = (w.alloc (.cells #[.int .i64 1, .int .i64 (a : Int), .int .i64 (a : Int), .int .i64 0, .float .f64 0, .string ⟨#[]⟩] 118)).alloc (.cells #[.int .i64 0, .int .i64 0, .int .i64 0, .int .i64 0, .float .f64 0, .string ⟨#[]⟩] 118) := ⟨_, rfl⟩
  have hj : L0 w W (Tok.mk 1 a a 0 0 ⟨#[]⟩) := by rw [hW]; exact l0_start w (Tok.mk 1 a a 0 0 ⟨#[]⟩)
  obtain ⟨A, hA⟩ : ∃ A, A = w.heap.size := ⟨_, rfl⟩
  have bt := hj.bt; have br := hj.br
  rw [← hA] at bt br
  have c0 := bt.cell 0; have c1 := bt.cell 1; have c2 := bt.cell 2; have c3 := bt.cell 3; have c4 := bt.cell 4; have c5 := bt.cell 5
  have d0 := bt.frozen 0; have d1 := bt.frozen 1; have d2 := bt.frozen 2; have d3 := bt.frozen 3; have d4 := bt.frozen 4; have d5 := bt.frozen 5
  simp at c0 c1 c2 c3 c4 c5
  have hsf := run_store_flt
  have HW := Lib.hid hW; have HA := Lib.hid hA; have HBW := Lib.hid hj.below; have BT := Lib.hid bt; have BR := Lib.hid br
  clear hW hj hA bt br
  have ha0 : (0 : Int) ≤ (a : Int) := by omega
  have R1 := Lib.hid (run_any s a (a + 1) W r1 hs)
  have R2 : Hid (Calls Tryz.prog 123 #[.string s, .int .i64 ((a : Int) + 1 + 1)] W fun e w' => e = .returned (.int .i64 ((a : Int) + 3)) ∧ W = w') := Lib.hid (by
    have := run_any s (a + 2) (a + 3) W r2 hs
    rw [show ((a + 2 : Nat) : Int) = (a : Int) + 1 + 1 by omega, show ((a + 3 : Nat) : Int) = (a : Int) + 3 by omega] at this
    exact this)
  have HP := Lib.hid parse3_one
  have HBY1 : Hid (∀ h : a + 1 < s.size, (s[a + 1]'h).toNat = 112) := Lib.hid (fun h => by rw [byteAt_eq s (a + 1) h]; exact hc1)
  have HBY2 : Hid (∀ h : a + 2 < s.size, (s[a + 2]'h).toNat = 48) := Lib.hid (fun h => by rw [byteAt_eq s (a + 2) h]; exact hc2)
  have g0 : a + 1 < s.size := by omega
  have hby1 := HBY1.out g0
  have hby2 : ∀ h : a + 1 + 1 < s.size, (s[a + 1 + 1]'h).toNat = 48 := fun h => HBY2.out h
  have g1 : decide ((a : Int) + 1 < (s.size : Int)) = true := by simp; omega
  have g2 : (a : Int) + 1 < (s.size : Int) := by omega
  have g3 : decide ((a : Int) + 1 + 1 < (s.size : Int)) = true := by simp; omega
  have g4 : (a : Int) + 1 + 1 < (s.size : Int) := by omega
  have g5 : (0 : Int) ≤ (a : Int) + 1 := by omega
  have g6 : (0 : Int) ≤ (a : Int) + 1 + 1 := by omega
  have g7 : a + 1 + 1 < s.size := by omega
  have g8 := hby2 g7
  have g9 : ((a : Int) + 3 == (a : Int) + 1 + 1) = false := by simp; omega
  have g10 : (a : Int) + 3 ≤ (s.size : Int) := by omega
  have HX := Lib.hid hx; have HSZ := Lib.hid ha
  clear r1 r2 hc1 hc2 hx hby2 ha
  go_enter Tryz.func106, Tryz.ntmps106
  go_upto_region 1 with fail
  rw [← HW.out, ← HA.out]
  go_wp2_with fail
  refine R1.out.mono ?_
  rintro e w1 ⟨rfl, rfl⟩
  rw [show (((a + 1 : Nat) : Int)) = (a : Int) + 1 by omega]
  go_wp2_with fail
  refine R2.out.mono ?_
  rintro e w2 ⟨rfl, rfl⟩
  go_wp2_with fail
  obtain ⟨W6, hW6⟩ : ∃ W6, W6 = W.setCell ⟨A, 2, none⟩ (.int .i64 ((a : Int) + 3)) := ⟨_, rfl⟩
  have bt6 : Blk W6 A 118 #[.int .i64 1, .int .i64 (a : Int), .int .i64 ((a : Int) + 3), .int .i64 0, .float .f64 0, .string ⟨#[]⟩] := by rw [hW6]; exact BT.out.set_ 2 _
  have br6 : Blk W6 (A + 1) 118 #[.int .i64 0, .int .i64 0, .int .i64 0, .int .i64 0, .float .f64 0, .string ⟨#[]⟩] := by rw [hW6]; exact BR.out.far (p := ⟨A, 2, none⟩) (by simp) _
  have hb6 : Below w.heap.size w W6 := by rw [hW6]; exact HBW.out.setCell (p := ⟨A, 2, none⟩) (by show w.heap.size ≤ A; have := HA.out; omega) _
  rw [← hW6, HX.out]
  refine (HP.out _).mono ?_
  rintro e w3 ⟨rfl, hb3⟩
  have bt7 := bt6.below hb3 bt6.lt
  have br7 := br6.below hb3 br6.lt
  have hb7 : Below w.heap.size w w3 := hb6.trans (hb3.mono hb6.size)
  have BT7 := Lib.hid bt7; have BR7 := Lib.hid br7; have HB7 := Lib.hid hb7
  clear hW6 bt6 br6 hb6 hb3 bt7 br7 hb7 c0 c1 c2 c3 c4 c5 d0 d1 d2 d3 d4 d5
  have c0 := BT7.out.cell 0; have c1 := BT7.out.cell 1; have c2 := BT7.out.cell 2; have c3 := BT7.out.cell 3; have c4 := BT7.out.cell 4; have c5 := BT7.out.cell 5
  have d0 := BT7.out.frozen 0; have d1 := BT7.out.frozen 1; have d2 := BT7.out.frozen 2; have d3 := BT7.out.frozen 3; have d4 := BT7.out.frozen 4; have d5 := BT7.out.frozen 5
  have r0 := BR7.out.cell 0; have r1 := BR7.out.cell 1; have r2 := BR7.out.cell 2; have r3 := BR7.out.cell 3; have r4 := BR7.out.cell 4; have r5 := BR7.out.cell 5
  have s0 := BR7.out.frozen 0; have s1 := BR7.out.frozen 1; have s2 := BR7.out.frozen 2; have s3 := BR7.out.frozen 3; have s4 := BR7.out.frozen 4; have s5 := BR7.out.frozen 5
  simp at c0 c1 c2 c3 c4 c5 r0 r1 r2 r3 r4 r5
  obtain ⟨W1, hW1⟩ : ∃ W1, W1 = ((w3.setCell ⟨A, 0, none⟩ (.int .i64 3)).setCell ⟨A, 4, none⟩ (.float .f64 4607182418800017408)) := ⟨_, rfl⟩
  have hb1 : Below w.heap.size w W1 := by rw [hW1]; exact (HB7.out.setCell (p := ⟨A, 0, none⟩) (by show w.heap.size ≤ A; have := HA.out; omega) _).setCell (p := ⟨A, 4, none⟩) (by show w.heap.size ≤ A; have := HA.out; omega) _
  have hk1 : Blk W1 (A + 1) 118 #[.int .i64 0, .int .i64 0, .int .i64 0, .int .i64 0, .float .f64 0, .string ⟨#[]⟩] := by rw [hW1]; exact (BR7.out.far (p := ⟨A, 0, none⟩) (by simp) _).far (p := ⟨A, 4, none⟩) (by simp) _
  have hbF := below6_set hb1 (g := A + 1) (by have := HA.out; omega) (.int .i64 3) (.int .i64 (a : Int)) (.int .i64 ((a : Int) + 3)) (.int .i64 0) (.float .f64 4607182418800017408) (.string ⟨#[]⟩)
  have hkF := blk6_set hk1 (.int .i64 3) (.int .i64 (a : Int)) (.int .i64 ((a : Int) + 3)) (.int .i64 0) (.float .f64 4607182418800017408) (.string ⟨#[]⟩)
  obtain ⟨WF, hWF⟩ : ∃ WF, WF = (((((W1.setCell ⟨A + 1, 0, none⟩ (.int .i64 3)).setCell ⟨A + 1, 1, none⟩ (.int .i64 (a : Int))).setCell ⟨A + 1, 2, none⟩ (.int .i64 ((a : Int) + 3))).setCell ⟨A + 1, 3, none⟩ (.int .i64 0)).setCell ⟨A + 1, 4, none⟩ (.float .f64 4607182418800017408)).setCell ⟨A + 1, 5, none⟩ (.string ⟨#[]⟩) := ⟨_, rfl⟩
  rw [← hWF] at hbF hkF
  rw [hW1] at hWF
  have HWF := Lib.hid hWF; have HBF := Lib.hid hbF; have HKF := Lib.hid hkF
  clear hWF hbF hkF hW1 hb1 hk1
  go_wp2_with fail
  rw [← HWF.out]
  have f0 := HKF.out.cell 0; have f1 := HKF.out.cell 1; have f2 := HKF.out.cell 2; have f3 := HKF.out.cell 3; have f4 := HKF.out.cell 4; have f5 := HKF.out.cell 5
  simp at f0 f1 f2 f3 f4 f5
  refine bodyPost_ret (v := .tuple #[.agg #[.int .i64 3, .int .i64 (a : Int), .int .i64 ((a : Int) + 3), .int .i64 0, .float .f64 4607182418800017408, .string ⟨#[]⟩], .int .i64 0]) (by simp [results, Tryz.results106, go_sem, f0, f1, f2, f3, f4, f5]) rfl ?_
  exact ⟨rfl, HBF.out⟩
end Go.Proofs.YtjpdbhhjlnmacaaGreat
