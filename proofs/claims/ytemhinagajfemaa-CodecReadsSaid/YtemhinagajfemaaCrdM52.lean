/- basculeref05.ReadValue and ReadType at any bytes, from any place on (printed by wip/gen_refrdr.py). -/
import Derived.Test.YtemhinagajfemaaCrdM31
import Derived.Test.YtemhinagajfemaaCrdM33
import Derived.Test.YtemhinagajfemaaCrdM47
import Derived.Test.YtemhinagajfemaaCrdM50
import Derived.Test.YtemhinagajfemaaCrdM51
import Derived.Deep.RegionHeld3
namespace Go.Proofs.Ytemhinagajfemaa
set_option linter.unusedVariables false
open Go.RowKit

theorem errk_val {s : ByteArray} {d p m : Nat} {k : Int} (h : rdV s d p m = .error k) : readV s p = readV s p := rfl

set_option maxHeartbeats 4000000 in
set_option maxRecDepth 100000 in
theorem rreadval_any (s : ByteArray) (a : Int) (w : World) (hs : s.size ≤ 100000) : Calls Try.prog 44 #[.string s, .int .i64 a] w fun e w' => ReadVTold (readVAt s a) w e w' := by
  have hsf := run_store_flt
  obtain ⟨R, hR⟩ : ∃ R, R = w.heap.size := ⟨_, rfl⟩
  obtain ⟨W, hW⟩ : ∃ W, W = w.alloc (.cells #[.int .i64 0, .int .i64 0, .float .f64 0, .string ⟨#[]⟩, .slice none 0 0, .slice none 0 0] 46) := ⟨_, rfl⟩
  have bm : Blk W R 46 [.int .i64 0, .int .i64 0, .float .f64 0, .string ⟨#[]⟩, .slice none 0 0, .slice none 0 0].toArray := by rw [hW, hR]; exact Blk.new w 46 _
  have hB : Below w.heap.size w W := by rw [hW]; exact (Below.refl _ _).alloc (Nat.le_refl _) _
  have HW := Lib.hid hW; have HB := Lib.hid hB; have HR := Lib.hid hR; have HBM := Lib.hid bm
  clear hW bm hB hR
  by_cases hin : 0 ≤ a ∧ a ≤ s.size
  case neg =>
    have HE : Hid (readVAt s a = .error 3) := Lib.hid (by unfold readVAt; rw [if_neg hin])
    have HBG := Lib.hid (begin_out s a W hs (by omega))
    clear hin
    go_enter Try.func44, Try.ntmps44
    go_wp2_with fail
    rw [← HW.out, ← HR.out]
    refine HBG.out.mono ?_
    rintro e w1 ⟨g, hg, rfl, ha, hb⟩
    have HA : Hid (Blk w1 g 37 #[.string s, .int .i64 a, .int .i64 3, .int .i64 0]) := Lib.hid ha
    have hRlt := HBM.out.lt
    have HRS := Lib.hid (HBM.out.below hb hRlt)
    have HB1 := Lib.hid (HB.out.trans (hb.mono HB.out.size))
    have c2 := ha.cell 2
    simp only [List.getElem?_toArray, List.getElem?_cons_zero, List.getElem?_cons_succ] at c2
    have hgR : g ≠ R := by omega
    clear ha hb HBG HW
    go_wp2_with fail
    clear c2
    have hn0 := stored6' (HRS.out) (.int .i64 0) (.int .i64 0) (.float .f64 0) (.string ⟨#[]⟩) (.slice none 0 0) (.slice none 0 0)
    have ha := HA.out.drew.cell 2
    simp only [List.getElem?_toArray, List.getElem?_cons_zero, List.getElem?_cons_succ] at ha
    have hb := (Blk.grown HA.out hn0.2 (by simp; omega)).drew.cell 2
    have hn := And.intro hn0.1.drew hn0.2.drew
    simp only [List.getElem?_toArray, List.getElem?_cons_zero, List.getElem?_cons_succ] at hb
    have HA0 := Lib.hid ha; have HA1 := Lib.hid hb; have HN := Lib.hid hn
    clear ha hb hn hn0
    have r0 := HRS.out.cell 0; have f0 := HRS.out.frozen 0; have r1 := HRS.out.cell 1; have f1 := HRS.out.frozen 1; have r2 := HRS.out.cell 2; have f2 := HRS.out.frozen 2; have r3 := HRS.out.cell 3; have f3 := HRS.out.frozen 3; have r4 := HRS.out.cell 4; have f4 := HRS.out.frozen 4; have r5 := HRS.out.cell 5; have f5 := HRS.out.frozen 5
    simp only [List.getElem?_toArray, List.getElem?_cons_zero, List.getElem?_cons_succ] at r0 r1 r2 r3 r4 r5
    go_region_held3 (fun W => W.cell? ⟨g, 2, none⟩ = some (.int .i64 3)) (first | with_reducible exact HA0.out | with_reducible exact HA1.out | fail) (first | fail)
    all_goals
      go_wp2_with fail
      clear r0 f0 r1 f1 r2 f2 r3 f3 r4 f4 r5 f5
      have e0 := HN.out.1.cell 0; have e1 := HN.out.1.cell 1; have e2 := HN.out.1.cell 2; have e3 := HN.out.1.cell 3; have e4 := HN.out.1.cell 4; have e5 := HN.out.1.cell 5
      simp only [List.getElem?_toArray, List.getElem?_cons_zero, List.getElem?_cons_succ] at e0 e1 e2 e3 e4 e5
      refine bodyPost_ret (v := .tuple #[.agg #[.int .i64 0, .int .i64 0, .float .f64 0, .string ⟨#[]⟩, .slice none 0 0, .slice none 0 0], .int .i64 0, .int .i64 3]) (by simp [results, Try.results44, go_sem, e0, e1, e2, e3, e4, e5]) rfl ?_
      rw [HE.out]
      exact ⟨Go.Proofs.Ytemhinagajfemaa.Below.only HB1.out HN.out.2 (by rw [HR.out]; exact Nat.le_refl _) HB1.out.size, rfl⟩
  obtain ⟨p, rfl⟩ : ∃ p : Nat, a = (p : Int) := ⟨a.toNat, by omega⟩
  have hp : p ≤ s.size := by omega
  have hra : readVAt s (p : Int) = readV s p := by unfold readVAt; rw [if_pos hin, Int.toNat_natCast]
  rw [hra]
  have HBG := Lib.hid (begin_in s p W hs hp)
  clear hin hra
  go_enter Try.func44, Try.ntmps44
  go_wp2_with fail
  rw [← HW.out, ← HR.out]
  refine HBG.out.mono ?_
  rintro e w1 ⟨g, hg, rfl, ha, hb⟩
  have hRlt := HBM.out.lt
  have HRS := Lib.hid (HBM.out.below hb hRlt)
  have HB1 := Lib.hid (HB.out.trans (hb.mono HB.out.size))
  have c2 := ha.cell 2
  simp only [List.getElem?_toArray, List.getElem?_cons_zero, List.getElem?_cons_succ] at c2
  have hgR : g ≠ R := by omega
  have hgl := ha.lt
  have HV := Lib.hid (fvalue_any s hs 12 1 0 p 0 g w1 (by omega) hp (by omega) ha)
  have hgw : w.heap.size ≤ g := by have := HB.out.size; omega
  have HGW := Lib.hid hgw
  clear hb HBG HW ha HBM
  go_wp2_with fail
  refine HV.out.mono ?_
  rintro e w2 ⟨ho2, u, q, m, k, rfl, hui, hus, ha2, hq, hm, hfin⟩
  obtain ⟨a4, b4, k4⟩ := hui.nslice
  obtain ⟨a5, b5, k5⟩ := hui.xslice
  have hfin' : (k = 0 ∧ rdV s 12 p 0 = .ok (u.erase, q, m)) ∨ (k ≠ 0 ∧ rdV s 12 p 0 = .error k) := by
    rcases hfin with ⟨_, h1, _, h2⟩ | ⟨_, h1, h2⟩ | ⟨h, _⟩
    · exact .inl ⟨h1, h2⟩
    · exact .inr ⟨h1, h2⟩
    · exact absurd rfl h
  obtain ⟨W2, hW2⟩ : ∃ W2, W2 = w2.alloc (.cells u.cells.toArray 46) := ⟨_, rfl⟩
  obtain ⟨V, hV⟩ : ∃ V, V = w2.heap.size := ⟨_, rfl⟩
  have hbv : Blk W2 V 46 u.cells.toArray := by rw [hW2, hV]; exact Blk.new w2 46 _
  have hui2 := hui.below (w' := W2) (by rw [hW2]; exact (Below.refl _ _).alloc (Nat.le_refl _) _)
  have ha3 : RAt W2 g s q k m := by rw [hW2]; exact Blk.alloc ha2 _
  have hrs2 : Blk W2 R 46 [.int .i64 0, .int .i64 0, .float .f64 0, .string ⟨#[]⟩, .slice none 0 0, .slice none 0 0].toArray := by rw [hW2]; exact (HRS.out.grown ho2 (by simp; omega)).alloc _
  have hb2 : Below w.heap.size w W2 := by rw [hW2]; exact (Go.Proofs.Ytemhinagajfemaa.Below.only HB1.out ho2 HGW.out HB1.out.size).alloc (Go.Proofs.Ytemhinagajfemaa.Below.only HB1.out ho2 HGW.out HB1.out.size).size _
  have hrw : R < w2.heap.size := by have := ho2.size; have := HRS.out.lt; omega
  have hus2 : u.Sep (fun b => R + 1 ≤ b) := hus.mono (fun b hb => by have := HRS.out.lt; omega)
  unfold Val.cells at hW2 hbv
  unfold Val.agg
  rw [k4, k5] at hW2 hbv ⊢
  have HW2 := Lib.hid hW2; have HV2 := Lib.hid hV; have HBV := Lib.hid hbv; have HUI := Lib.hid hui2; have HUS := Lib.hid hus2; have HA := Lib.hid ha3; have HB2 := Lib.hid hb2; have HFIN := Lib.hid hfin'
  clear HRS
  have HRS := Lib.hid hrs2
  have HK4 := Lib.hid k4; have HK5 := Lib.hid k5
  have hRV : R < V := by omega
  have hgV : g < V := by rw [hV]; exact Nat.lt_of_lt_of_le hgl ho2.size
  clear c2
  clear ho2 hui hus ha2 hfin hfin' hW2 hV hbv hui2 ha3 hrs2 hb2 hrw hus2 k4 k5 HV
  go_upto_region 5 with fail
  rw [← HW2.out, ← HV2.out]
  have ce := HA.out.cell 2
  have ca := HA.out.cell 1
  simp only [List.getElem?_toArray, List.getElem?_cons_zero, List.getElem?_cons_succ] at ce ca
  have hvl := HBV.out.lt
  by_cases hk0 : k = 0
  case neg =>
    have HE : Hid (readV s p = .error k) := Lib.hid (by
      rcases HFIN.out with ⟨h, _⟩ | ⟨_, h⟩
      · exact absurd h hk0
      · unfold readV; rw [h])
    have j1 : (k == 0) = false := by simpa using hk0
    have j2 : (k != 0) = true := by simpa using hk0
    clear hk0 HFIN
    go_wp2_with fail
    clear ce ca
    have hn0 := stored6' (HRS.out) (.int .i64 0) (.int .i64 0) (.float .f64 0) (.string ⟨#[]⟩) (.slice none 0 0) (.slice none 0 0)
    have ha := HA.out.drew.cell 2
    simp only [List.getElem?_toArray, List.getElem?_cons_zero, List.getElem?_cons_succ] at ha
    have hb := (Blk.grown HA.out hn0.2 (by simp; omega)).drew.cell 2
    have hn := And.intro hn0.1.drew hn0.2.drew
    simp only [List.getElem?_toArray, List.getElem?_cons_zero, List.getElem?_cons_succ] at hb
    have HA0 := Lib.hid ha; have HA1 := Lib.hid hb; have HN := Lib.hid hn
    clear ha hb hn hn0
    have r0 := HRS.out.cell 0; have f0 := HRS.out.frozen 0; have r1 := HRS.out.cell 1; have f1 := HRS.out.frozen 1; have r2 := HRS.out.cell 2; have f2 := HRS.out.frozen 2; have r3 := HRS.out.cell 3; have f3 := HRS.out.frozen 3; have r4 := HRS.out.cell 4; have f4 := HRS.out.frozen 4; have r5 := HRS.out.cell 5; have f5 := HRS.out.frozen 5
    simp only [List.getElem?_toArray, List.getElem?_cons_zero, List.getElem?_cons_succ] at r0 r1 r2 r3 r4 r5
    go_region_held3 (fun W => W.cell? ⟨g, 2, none⟩ = some (.int .i64 k)) (first | with_reducible exact HA0.out | with_reducible exact HA1.out | fail) (first | fail)
    all_goals
      go_wp2_with fail
      clear r0 f0 r1 f1 r2 f2 r3 f3 r4 f4 r5 f5
      have e0 := HN.out.1.cell 0; have e1 := HN.out.1.cell 1; have e2 := HN.out.1.cell 2; have e3 := HN.out.1.cell 3; have e4 := HN.out.1.cell 4; have e5 := HN.out.1.cell 5
      simp only [List.getElem?_toArray, List.getElem?_cons_zero, List.getElem?_cons_succ] at e0 e1 e2 e3 e4 e5
      refine bodyPost_ret (v := .tuple #[.agg #[.int .i64 0, .int .i64 0, .float .f64 0, .string ⟨#[]⟩, .slice none 0 0, .slice none 0 0], .int .i64 0, .int .i64 k]) (by simp [results, Try.results44, go_sem, e0, e1, e2, e3, e4, e5]) rfl ?_
      rw [HE.out]
      exact ⟨Go.Proofs.Ytemhinagajfemaa.Below.only HB2.out HN.out.2 (by rw [HR.out]; exact Nat.le_refl _) HB2.out.size, rfl⟩
  subst hk0
  have hrd : rdV s 12 p 0 = .ok (u.erase, q, m) := by
    rcases HFIN.out with ⟨_, h⟩ | ⟨h, _⟩
    · exact h
    · exact absurd rfl h
  have v0 := HBV.out.cell 0; have v1 := HBV.out.cell 1; have v2 := HBV.out.cell 2; have v3 := HBV.out.cell 3; have v4 := HBV.out.cell 4; have v5 := HBV.out.cell 5
  simp only [List.getElem?_toArray, List.getElem?_cons_zero, List.getElem?_cons_succ] at v0 v1 v2 v3 v4 v5
  have hri := rrightf_any u W2 HUI.out
  unfold Val.agg at hri
  rw [HK4.out, HK5.out] at hri
  cases hR : u.RightB with
  | false =>
    rw [hR] at hri
    have HRI := Lib.hid hri
    have HE : Hid (readV s p = .error 5) := Lib.hid (by unfold readV; rw [hrd]; simp only; rw [Val.RightB_erase, hR]; rfl)
    clear hri hR hrd HFIN
    go_wp2_with fail
    refine HRI.out.mono ?_
    rintro e w3 ⟨rfl, hb3⟩
    have HA3 := Lib.hid (HA.out.below hb3 HA.out.lt)
    have HRS3 := Lib.hid (HRS.out.below hb3 HRS.out.lt)
    have HB3 := Lib.hid (HB2.out.trans (hb3.mono HB2.out.size))
    clear hb3 HRI HA HRS HB2 ce ca
    clear v0 v1 v2 v3 v4 v5
    go_wp2_with fail
    refine (ffail_any 5 s q m g _ HA3.out).mono ?_
    rintro e w4 ⟨rfl, ha4, ho4⟩
    have HA := Lib.hid ha4
    have HRS := Lib.hid (HRS3.out.grown ho4 (by simp; omega))
    have HB2 := Lib.hid (Go.Proofs.Ytemhinagajfemaa.Below.only HB3.out ho4 HGW.out HB3.out.size)
    clear ha4 ho4 HA3 HRS3 HB3
    have ce := HA.out.cell 2
    simp only [List.getElem?_toArray, List.getElem?_cons_zero, List.getElem?_cons_succ] at ce
    go_wp2_with fail
    clear ce
    have hn0 := stored6' (HRS.out) (.int .i64 0) (.int .i64 0) (.float .f64 0) (.string ⟨#[]⟩) (.slice none 0 0) (.slice none 0 0)
    have ha := HA.out.drew.cell 2
    simp only [List.getElem?_toArray, List.getElem?_cons_zero, List.getElem?_cons_succ] at ha
    have hb := (Blk.grown HA.out hn0.2 (by simp; omega)).drew.cell 2
    have hn := And.intro hn0.1.drew hn0.2.drew
    simp only [List.getElem?_toArray, List.getElem?_cons_zero, List.getElem?_cons_succ] at hb
    have HA0 := Lib.hid ha; have HA1 := Lib.hid hb; have HN := Lib.hid hn
    clear ha hb hn hn0
    have r0 := HRS.out.cell 0; have f0 := HRS.out.frozen 0; have r1 := HRS.out.cell 1; have f1 := HRS.out.frozen 1; have r2 := HRS.out.cell 2; have f2 := HRS.out.frozen 2; have r3 := HRS.out.cell 3; have f3 := HRS.out.frozen 3; have r4 := HRS.out.cell 4; have f4 := HRS.out.frozen 4; have r5 := HRS.out.cell 5; have f5 := HRS.out.frozen 5
    simp only [List.getElem?_toArray, List.getElem?_cons_zero, List.getElem?_cons_succ] at r0 r1 r2 r3 r4 r5
    go_region_held3 (fun W => W.cell? ⟨g, 2, none⟩ = some (.int .i64 5)) (first | with_reducible exact HA0.out | with_reducible exact HA1.out | fail) (first | fail)
    all_goals
      go_wp2_with fail
      clear r0 f0 r1 f1 r2 f2 r3 f3 r4 f4 r5 f5
      have e0 := HN.out.1.cell 0; have e1 := HN.out.1.cell 1; have e2 := HN.out.1.cell 2; have e3 := HN.out.1.cell 3; have e4 := HN.out.1.cell 4; have e5 := HN.out.1.cell 5
      simp only [List.getElem?_toArray, List.getElem?_cons_zero, List.getElem?_cons_succ] at e0 e1 e2 e3 e4 e5
      refine bodyPost_ret (v := .tuple #[.agg #[.int .i64 0, .int .i64 0, .float .f64 0, .string ⟨#[]⟩, .slice none 0 0, .slice none 0 0], .int .i64 0, .int .i64 5]) (by simp [results, Try.results44, go_sem, e0, e1, e2, e3, e4, e5]) rfl ?_
      rw [HE.out]
      exact ⟨Go.Proofs.Ytemhinagajfemaa.Below.only HB2.out HN.out.2 (by rw [HR.out]; exact Nat.le_refl _) HB2.out.size, rfl⟩
  | true =>
    rw [hR] at hri
    have HRI := Lib.hid hri
    have HE : Hid (readV s p = .ok (u.erase, q)) := Lib.hid (by unfold readV; rw [hrd]; simp only; rw [Val.RightB_erase, hR]; rfl)
    clear hri hR hrd HFIN
    go_wp2_with fail
    refine HRI.out.mono ?_
    rintro e w3 ⟨rfl, hb3⟩
    have HA3 := Lib.hid (HA.out.below hb3 HA.out.lt)
    have HRS3 := Lib.hid (HRS.out.below hb3 HRS.out.lt)
    have HBV3 := Lib.hid (HBV.out.below hb3 HBV.out.lt)
    have HUI3 := Lib.hid (HUI.out.below hb3)
    have HB3 := Lib.hid (HB2.out.trans (hb3.mono HB2.out.size))
    clear hb3 HRI HA HRS HB2 HBV HUI ce ca
    clear v0 v1 v2 v3 v4 v5
    have ce := HA3.out.cell 2
    simp only [List.getElem?_toArray, List.getElem?_cons_zero, List.getElem?_cons_succ] at ce
    go_wp2_with fail
    clear ce
    have hn0 := stored6' (HRS3.out) (.int .i64 u.k) (.int .i64 u.n) (.float .f64 u.f) (.string u.s) (.slice a4 u.ns.length b4) (.slice a5 u.xs.length b5)
    have hn := And.intro hn0.1.drew hn0.2.drew
    have s0 : w3.drew.cell? ⟨g, 1, none⟩ = some (.int .i64 q) ∧ w3.drew.cell? ⟨V, 0, none⟩ = some (.int .i64 u.k) ∧ w3.drew.cell? ⟨V, 1, none⟩ = some (.int .i64 u.n) ∧ w3.drew.cell? ⟨V, 2, none⟩ = some (.float .f64 u.f) ∧ w3.drew.cell? ⟨V, 3, none⟩ = some (.string u.s) ∧ w3.drew.cell? ⟨V, 4, none⟩ = some (.slice a4 u.ns.length b4) ∧ w3.drew.cell? ⟨V, 5, none⟩ = some (.slice a5 u.xs.length b5) := by
      have h1 := HA3.out.drew.cell 1
      have hv := HBV3.out.drew
      simp only [List.getElem?_toArray, List.getElem?_cons_zero, List.getElem?_cons_succ] at h1
      exact ⟨h1, hv.cell 0, hv.cell 1, hv.cell 2, hv.cell 3, hv.cell 4, hv.cell 5⟩
    have s1 : ((((((w3.setCell ⟨R, 0, none⟩ (.int .i64 u.k)).setCell ⟨R, 1, none⟩ (.int .i64 u.n)).setCell ⟨R, 2, none⟩ (.float .f64 u.f)).setCell ⟨R, 3, none⟩ (.string u.s)).setCell ⟨R, 4, none⟩ (.slice a4 u.ns.length b4)).setCell ⟨R, 5, none⟩ (.slice a5 u.xs.length b5)).drew.cell? ⟨g, 1, none⟩ = some (.int .i64 q) ∧ ((((((w3.setCell ⟨R, 0, none⟩ (.int .i64 u.k)).setCell ⟨R, 1, none⟩ (.int .i64 u.n)).setCell ⟨R, 2, none⟩ (.float .f64 u.f)).setCell ⟨R, 3, none⟩ (.string u.s)).setCell ⟨R, 4, none⟩ (.slice a4 u.ns.length b4)).setCell ⟨R, 5, none⟩ (.slice a5 u.xs.length b5)).drew.cell? ⟨V, 0, none⟩ = some (.int .i64 u.k) ∧ ((((((w3.setCell ⟨R, 0, none⟩ (.int .i64 u.k)).setCell ⟨R, 1, none⟩ (.int .i64 u.n)).setCell ⟨R, 2, none⟩ (.float .f64 u.f)).setCell ⟨R, 3, none⟩ (.string u.s)).setCell ⟨R, 4, none⟩ (.slice a4 u.ns.length b4)).setCell ⟨R, 5, none⟩ (.slice a5 u.xs.length b5)).drew.cell? ⟨V, 1, none⟩ = some (.int .i64 u.n) ∧ ((((((w3.setCell ⟨R, 0, none⟩ (.int .i64 u.k)).setCell ⟨R, 1, none⟩ (.int .i64 u.n)).setCell ⟨R, 2, none⟩ (.float .f64 u.f)).setCell ⟨R, 3, none⟩ (.string u.s)).setCell ⟨R, 4, none⟩ (.slice a4 u.ns.length b4)).setCell ⟨R, 5, none⟩ (.slice a5 u.xs.length b5)).drew.cell? ⟨V, 2, none⟩ = some (.float .f64 u.f) ∧ ((((((w3.setCell ⟨R, 0, none⟩ (.int .i64 u.k)).setCell ⟨R, 1, none⟩ (.int .i64 u.n)).setCell ⟨R, 2, none⟩ (.float .f64 u.f)).setCell ⟨R, 3, none⟩ (.string u.s)).setCell ⟨R, 4, none⟩ (.slice a4 u.ns.length b4)).setCell ⟨R, 5, none⟩ (.slice a5 u.xs.length b5)).drew.cell? ⟨V, 3, none⟩ = some (.string u.s) ∧ ((((((w3.setCell ⟨R, 0, none⟩ (.int .i64 u.k)).setCell ⟨R, 1, none⟩ (.int .i64 u.n)).setCell ⟨R, 2, none⟩ (.float .f64 u.f)).setCell ⟨R, 3, none⟩ (.string u.s)).setCell ⟨R, 4, none⟩ (.slice a4 u.ns.length b4)).setCell ⟨R, 5, none⟩ (.slice a5 u.xs.length b5)).drew.cell? ⟨V, 4, none⟩ = some (.slice a4 u.ns.length b4) ∧ ((((((w3.setCell ⟨R, 0, none⟩ (.int .i64 u.k)).setCell ⟨R, 1, none⟩ (.int .i64 u.n)).setCell ⟨R, 2, none⟩ (.float .f64 u.f)).setCell ⟨R, 3, none⟩ (.string u.s)).setCell ⟨R, 4, none⟩ (.slice a4 u.ns.length b4)).setCell ⟨R, 5, none⟩ (.slice a5 u.xs.length b5)).drew.cell? ⟨V, 5, none⟩ = some (.slice a5 u.xs.length b5) := by
      have h1 := (Blk.grown HA3.out hn0.2 (by simp; omega)).drew.cell 1
      have hv := (HBV3.out.grown hn0.2 (by simp; omega)).drew
      simp only [List.getElem?_toArray, List.getElem?_cons_zero, List.getElem?_cons_succ] at h1
      exact ⟨h1, hv.cell 0, hv.cell 1, hv.cell 2, hv.cell 3, hv.cell 4, hv.cell 5⟩
    have HS0 := Lib.hid s0; have HS1 := Lib.hid s1; have HN := Lib.hid hn
    clear s0 s1 hn hn0
    have r0 := HRS3.out.cell 0; have f0 := HRS3.out.frozen 0; have r1 := HRS3.out.cell 1; have f1 := HRS3.out.frozen 1; have r2 := HRS3.out.cell 2; have f2 := HRS3.out.frozen 2; have r3 := HRS3.out.cell 3; have f3 := HRS3.out.frozen 3; have r4 := HRS3.out.cell 4; have f4 := HRS3.out.frozen 4; have r5 := HRS3.out.cell 5; have f5 := HRS3.out.frozen 5
    simp only [List.getElem?_toArray, List.getElem?_cons_zero, List.getElem?_cons_succ] at r0 r1 r2 r3 r4 r5
    go_region_held3 (fun W => W.cell? ⟨g, 1, none⟩ = some (.int .i64 q) ∧ W.cell? ⟨V, 0, none⟩ = some (.int .i64 u.k) ∧ W.cell? ⟨V, 1, none⟩ = some (.int .i64 u.n) ∧ W.cell? ⟨V, 2, none⟩ = some (.float .f64 u.f) ∧ W.cell? ⟨V, 3, none⟩ = some (.string u.s) ∧ W.cell? ⟨V, 4, none⟩ = some (.slice a4 u.ns.length b4) ∧ W.cell? ⟨V, 5, none⟩ = some (.slice a5 u.xs.length b5)) (first | with_reducible exact HS0.out | with_reducible exact HS1.out | fail) (first | fail)
    all_goals
      go_wp2_with fail
      clear r0 f0 r1 f1 r2 f2 r3 f3 r4 f4 r5 f5
      have e0 := HN.out.1.cell 0; have e1 := HN.out.1.cell 1; have e2 := HN.out.1.cell 2; have e3 := HN.out.1.cell 3; have e4 := HN.out.1.cell 4; have e5 := HN.out.1.cell 5
      simp only [List.getElem?_toArray, List.getElem?_cons_zero, List.getElem?_cons_succ] at e0 e1 e2 e3 e4 e5
      refine bodyPost_ret (v := .tuple #[.agg #[.int .i64 u.k, .int .i64 u.n, .float .f64 u.f, .string u.s, .slice a4 u.ns.length b4, .slice a5 u.xs.length b5], .int .i64 q, .int .i64 0]) (by simp [results, Try.results44, go_sem, e0, e1, e2, e3, e4, e5]) rfl ?_
      rw [HE.out]
      refine ⟨Go.Proofs.Ytemhinagajfemaa.Below.only HB3.out HN.out.2 (by rw [HR.out]; exact Nat.le_refl _) HB3.out.size, u, ?_, rfl, ?_⟩
      · unfold Val.agg; rw [HK4.out, HK5.out]
      · exact HUI3.out.carryS HUS.out (fun b o hb hlt => only_cell HN.out.2 (by omega) hlt o) HN.out.2.size

set_option maxHeartbeats 4000000 in
set_option maxRecDepth 100000 in
theorem rreadtyp_any (s : ByteArray) (a : Int) (w : World) (hs : s.size ≤ 100000) : Calls Try.prog 46 #[.string s, .int .i64 a] w fun e w' => ReadTTold (readTAt s a) w e w' := by
  have hsf := run_store_flt
  obtain ⟨R, hR⟩ : ∃ R, R = w.heap.size := ⟨_, rfl⟩
  obtain ⟨W, hW⟩ : ∃ W, W = w.alloc (.cells #[.int .i64 0, .slice none 0 0, .slice none 0 0] 61) := ⟨_, rfl⟩
  have bm : Blk W R 61 [.int .i64 0, .slice none 0 0, .slice none 0 0].toArray := by rw [hW, hR]; exact Blk.new w 61 _
  have hB : Below w.heap.size w W := by rw [hW]; exact (Below.refl _ _).alloc (Nat.le_refl _) _
  have HW := Lib.hid hW; have HB := Lib.hid hB; have HR := Lib.hid hR; have HBM := Lib.hid bm
  clear hW bm hB hR
  by_cases hin : 0 ≤ a ∧ a ≤ s.size
  case neg =>
    have HE : Hid (readTAt s a = .error 3) := Lib.hid (by unfold readTAt; rw [if_neg hin])
    have HBG := Lib.hid (begin_out s a W hs (by omega))
    clear hin
    go_enter Try.func46, Try.ntmps46
    go_wp2_with fail
    rw [← HW.out, ← HR.out]
    refine HBG.out.mono ?_
    rintro e w1 ⟨g, hg, rfl, ha, hb⟩
    have HA : Hid (Blk w1 g 37 #[.string s, .int .i64 a, .int .i64 3, .int .i64 0]) := Lib.hid ha
    have hRlt := HBM.out.lt
    have HRS := Lib.hid (HBM.out.below hb hRlt)
    have HB1 := Lib.hid (HB.out.trans (hb.mono HB.out.size))
    have c2 := ha.cell 2
    simp only [List.getElem?_toArray, List.getElem?_cons_zero, List.getElem?_cons_succ] at c2
    have hgR : g ≠ R := by omega
    clear ha hb HBG HW
    go_wp2_with fail
    clear c2
    have hn0 := stored3 (HRS.out) (.int .i64 0) (.slice none 0 0) (.slice none 0 0)
    have ha := HA.out.drew.cell 2
    simp only [List.getElem?_toArray, List.getElem?_cons_zero, List.getElem?_cons_succ] at ha
    have hb := (Blk.grown HA.out hn0.2 (by simp; omega)).drew.cell 2
    have hn := And.intro hn0.1.drew hn0.2.drew
    simp only [List.getElem?_toArray, List.getElem?_cons_zero, List.getElem?_cons_succ] at hb
    have HA0 := Lib.hid ha; have HA1 := Lib.hid hb; have HN := Lib.hid hn
    clear ha hb hn hn0
    have r0 := HRS.out.cell 0; have f0 := HRS.out.frozen 0; have r1 := HRS.out.cell 1; have f1 := HRS.out.frozen 1; have r2 := HRS.out.cell 2; have f2 := HRS.out.frozen 2
    simp only [List.getElem?_toArray, List.getElem?_cons_zero, List.getElem?_cons_succ] at r0 r1 r2
    go_region_held3 (fun W => W.cell? ⟨g, 2, none⟩ = some (.int .i64 3)) (first | with_reducible exact HA0.out | with_reducible exact HA1.out | fail) (first | fail)
    all_goals
      go_wp2_with fail
      clear r0 f0 r1 f1 r2 f2
      have e0 := HN.out.1.cell 0; have e1 := HN.out.1.cell 1; have e2 := HN.out.1.cell 2
      simp only [List.getElem?_toArray, List.getElem?_cons_zero, List.getElem?_cons_succ] at e0 e1 e2
      refine bodyPost_ret (v := .tuple #[.agg #[.int .i64 0, .slice none 0 0, .slice none 0 0], .int .i64 0, .int .i64 3]) (by simp [results, Try.results46, go_sem, e0, e1, e2]) rfl ?_
      rw [HE.out]
      exact ⟨Go.Proofs.Ytemhinagajfemaa.Below.only HB1.out HN.out.2 (by rw [HR.out]; exact Nat.le_refl _) HB1.out.size, rfl⟩
  obtain ⟨p, rfl⟩ : ∃ p : Nat, a = (p : Int) := ⟨a.toNat, by omega⟩
  have hp : p ≤ s.size := by omega
  have hra : readTAt s (p : Int) = readT s p := by unfold readTAt; rw [if_pos hin, Int.toNat_natCast]
  rw [hra]
  have HBG := Lib.hid (begin_in s p W hs hp)
  clear hin hra
  go_enter Try.func46, Try.ntmps46
  go_wp2_with fail
  rw [← HW.out, ← HR.out]
  refine HBG.out.mono ?_
  rintro e w1 ⟨g, hg, rfl, ha, hb⟩
  have hRlt := HBM.out.lt
  have HRS := Lib.hid (HBM.out.below hb hRlt)
  have HB1 := Lib.hid (HB.out.trans (hb.mono HB.out.size))
  have c2 := ha.cell 2
  simp only [List.getElem?_toArray, List.getElem?_cons_zero, List.getElem?_cons_succ] at c2
  have hgR : g ≠ R := by omega
  have hgl := ha.lt
  have HV := Lib.hid (ftype_any s hs 12 1 0 p 0 g w1 (by omega) hp (by omega) ha)
  have hgw : w.heap.size ≤ g := by have := HB.out.size; omega
  have HGW := Lib.hid hgw
  clear hb HBG HW ha HBM
  go_wp2_with fail
  refine HV.out.mono ?_
  rintro e w2 ⟨ho2, u, q, m, k, rfl, hui, hus, ha2, hq, hm, hfin⟩
  obtain ⟨a4, b4, k4⟩ := hui.nslice
  obtain ⟨a5, b5, k5⟩ := hui.xslice
  have hfin' : (k = 0 ∧ rdT s 12 p 0 = .ok (u.erase, q, m)) ∨ (k ≠ 0 ∧ rdT s 12 p 0 = .error k) := by
    rcases hfin with ⟨_, h1, _, h2⟩ | ⟨_, h1, h2⟩ | ⟨h, _⟩
    · exact .inl ⟨h1, h2⟩
    · exact .inr ⟨h1, h2⟩
    · exact absurd rfl h
  obtain ⟨W2, hW2⟩ : ∃ W2, W2 = w2.alloc (.cells u.cells.toArray 61) := ⟨_, rfl⟩
  obtain ⟨V, hV⟩ : ∃ V, V = w2.heap.size := ⟨_, rfl⟩
  have hbv : Blk W2 V 61 u.cells.toArray := by rw [hW2, hV]; exact Blk.new w2 61 _
  have hui2 := hui.below (w' := W2) (by rw [hW2]; exact (Below.refl _ _).alloc (Nat.le_refl _) _)
  have ha3 : RAt W2 g s q k m := by rw [hW2]; exact Blk.alloc ha2 _
  have hrs2 : Blk W2 R 61 [.int .i64 0, .slice none 0 0, .slice none 0 0].toArray := by rw [hW2]; exact (HRS.out.grown ho2 (by simp; omega)).alloc _
  have hb2 : Below w.heap.size w W2 := by rw [hW2]; exact (Go.Proofs.Ytemhinagajfemaa.Below.only HB1.out ho2 HGW.out HB1.out.size).alloc (Go.Proofs.Ytemhinagajfemaa.Below.only HB1.out ho2 HGW.out HB1.out.size).size _
  have hrw : R < w2.heap.size := by have := ho2.size; have := HRS.out.lt; omega
  have hus2 : u.Sep (fun b => R + 1 ≤ b) := hus.mono (fun b hb => by have := HRS.out.lt; omega)
  unfold Ty.cells at hW2 hbv
  unfold Ty.agg
  rw [k4, k5] at hW2 hbv ⊢
  have HW2 := Lib.hid hW2; have HV2 := Lib.hid hV; have HBV := Lib.hid hbv; have HUI := Lib.hid hui2; have HUS := Lib.hid hus2; have HA := Lib.hid ha3; have HB2 := Lib.hid hb2; have HFIN := Lib.hid hfin'
  clear HRS
  have HRS := Lib.hid hrs2
  have HK4 := Lib.hid k4; have HK5 := Lib.hid k5
  have hRV : R < V := by omega
  have hgV : g < V := by rw [hV]; exact Nat.lt_of_lt_of_le hgl ho2.size
  clear c2
  clear ho2 hui hus ha2 hfin hfin' hW2 hV hbv hui2 ha3 hrs2 hb2 hrw hus2 k4 k5 HV
  go_upto_region 5 with fail
  rw [← HW2.out, ← HV2.out]
  have ce := HA.out.cell 2
  have ca := HA.out.cell 1
  simp only [List.getElem?_toArray, List.getElem?_cons_zero, List.getElem?_cons_succ] at ce ca
  have hvl := HBV.out.lt
  by_cases hk0 : k = 0
  case neg =>
    have HE : Hid (readT s p = .error k) := Lib.hid (by
      rcases HFIN.out with ⟨h, _⟩ | ⟨_, h⟩
      · exact absurd h hk0
      · unfold readT; rw [h])
    have j1 : (k == 0) = false := by simpa using hk0
    have j2 : (k != 0) = true := by simpa using hk0
    clear hk0 HFIN
    go_wp2_with fail
    clear ce ca
    have hn0 := stored3 (HRS.out) (.int .i64 0) (.slice none 0 0) (.slice none 0 0)
    have ha := HA.out.drew.cell 2
    simp only [List.getElem?_toArray, List.getElem?_cons_zero, List.getElem?_cons_succ] at ha
    have hb := (Blk.grown HA.out hn0.2 (by simp; omega)).drew.cell 2
    have hn := And.intro hn0.1.drew hn0.2.drew
    simp only [List.getElem?_toArray, List.getElem?_cons_zero, List.getElem?_cons_succ] at hb
    have HA0 := Lib.hid ha; have HA1 := Lib.hid hb; have HN := Lib.hid hn
    clear ha hb hn hn0
    have r0 := HRS.out.cell 0; have f0 := HRS.out.frozen 0; have r1 := HRS.out.cell 1; have f1 := HRS.out.frozen 1; have r2 := HRS.out.cell 2; have f2 := HRS.out.frozen 2
    simp only [List.getElem?_toArray, List.getElem?_cons_zero, List.getElem?_cons_succ] at r0 r1 r2
    go_region_held3 (fun W => W.cell? ⟨g, 2, none⟩ = some (.int .i64 k)) (first | with_reducible exact HA0.out | with_reducible exact HA1.out | fail) (first | fail)
    all_goals
      go_wp2_with fail
      clear r0 f0 r1 f1 r2 f2
      have e0 := HN.out.1.cell 0; have e1 := HN.out.1.cell 1; have e2 := HN.out.1.cell 2
      simp only [List.getElem?_toArray, List.getElem?_cons_zero, List.getElem?_cons_succ] at e0 e1 e2
      refine bodyPost_ret (v := .tuple #[.agg #[.int .i64 0, .slice none 0 0, .slice none 0 0], .int .i64 0, .int .i64 k]) (by simp [results, Try.results46, go_sem, e0, e1, e2]) rfl ?_
      rw [HE.out]
      exact ⟨Go.Proofs.Ytemhinagajfemaa.Below.only HB2.out HN.out.2 (by rw [HR.out]; exact Nat.le_refl _) HB2.out.size, rfl⟩
  subst hk0
  have hrd : rdT s 12 p 0 = .ok (u.erase, q, m) := by
    rcases HFIN.out with ⟨_, h⟩ | ⟨h, _⟩
    · exact h
    · exact absurd rfl h
  have v0 := HBV.out.cell 0; have v1 := HBV.out.cell 1; have v2 := HBV.out.cell 2
  simp only [List.getElem?_toArray, List.getElem?_cons_zero, List.getElem?_cons_succ] at v0 v1 v2
  have hri := rtrightf_any u W2 HUI.out
  unfold Ty.agg at hri
  rw [HK4.out, HK5.out] at hri
  cases hR : u.RightB with
  | false =>
    rw [hR] at hri
    have HRI := Lib.hid hri
    have HE : Hid (readT s p = .error 5) := Lib.hid (by unfold readT; rw [hrd]; simp only; rw [Ty.RightB_erase, hR]; rfl)
    clear hri hR hrd HFIN
    go_wp2_with fail
    refine HRI.out.mono ?_
    rintro e w3 ⟨rfl, hb3⟩
    have HA3 := Lib.hid (HA.out.below hb3 HA.out.lt)
    have HRS3 := Lib.hid (HRS.out.below hb3 HRS.out.lt)
    have HB3 := Lib.hid (HB2.out.trans (hb3.mono HB2.out.size))
    clear hb3 HRI HA HRS HB2 ce ca
    clear v0 v1 v2
    go_wp2_with fail
    refine (ffail_any 5 s q m g _ HA3.out).mono ?_
    rintro e w4 ⟨rfl, ha4, ho4⟩
    have HA := Lib.hid ha4
    have HRS := Lib.hid (HRS3.out.grown ho4 (by simp; omega))
    have HB2 := Lib.hid (Go.Proofs.Ytemhinagajfemaa.Below.only HB3.out ho4 HGW.out HB3.out.size)
    clear ha4 ho4 HA3 HRS3 HB3
    have ce := HA.out.cell 2
    simp only [List.getElem?_toArray, List.getElem?_cons_zero, List.getElem?_cons_succ] at ce
    go_wp2_with fail
    clear ce
    have hn0 := stored3 (HRS.out) (.int .i64 0) (.slice none 0 0) (.slice none 0 0)
    have ha := HA.out.drew.cell 2
    simp only [List.getElem?_toArray, List.getElem?_cons_zero, List.getElem?_cons_succ] at ha
    have hb := (Blk.grown HA.out hn0.2 (by simp; omega)).drew.cell 2
    have hn := And.intro hn0.1.drew hn0.2.drew
    simp only [List.getElem?_toArray, List.getElem?_cons_zero, List.getElem?_cons_succ] at hb
    have HA0 := Lib.hid ha; have HA1 := Lib.hid hb; have HN := Lib.hid hn
    clear ha hb hn hn0
    have r0 := HRS.out.cell 0; have f0 := HRS.out.frozen 0; have r1 := HRS.out.cell 1; have f1 := HRS.out.frozen 1; have r2 := HRS.out.cell 2; have f2 := HRS.out.frozen 2
    simp only [List.getElem?_toArray, List.getElem?_cons_zero, List.getElem?_cons_succ] at r0 r1 r2
    go_region_held3 (fun W => W.cell? ⟨g, 2, none⟩ = some (.int .i64 5)) (first | with_reducible exact HA0.out | with_reducible exact HA1.out | fail) (first | fail)
    all_goals
      go_wp2_with fail
      clear r0 f0 r1 f1 r2 f2
      have e0 := HN.out.1.cell 0; have e1 := HN.out.1.cell 1; have e2 := HN.out.1.cell 2
      simp only [List.getElem?_toArray, List.getElem?_cons_zero, List.getElem?_cons_succ] at e0 e1 e2
      refine bodyPost_ret (v := .tuple #[.agg #[.int .i64 0, .slice none 0 0, .slice none 0 0], .int .i64 0, .int .i64 5]) (by simp [results, Try.results46, go_sem, e0, e1, e2]) rfl ?_
      rw [HE.out]
      exact ⟨Go.Proofs.Ytemhinagajfemaa.Below.only HB2.out HN.out.2 (by rw [HR.out]; exact Nat.le_refl _) HB2.out.size, rfl⟩
  | true =>
    rw [hR] at hri
    have HRI := Lib.hid hri
    have HE : Hid (readT s p = .ok (u.erase, q)) := Lib.hid (by unfold readT; rw [hrd]; simp only; rw [Ty.RightB_erase, hR]; rfl)
    clear hri hR hrd HFIN
    go_wp2_with fail
    refine HRI.out.mono ?_
    rintro e w3 ⟨rfl, hb3⟩
    have HA3 := Lib.hid (HA.out.below hb3 HA.out.lt)
    have HRS3 := Lib.hid (HRS.out.below hb3 HRS.out.lt)
    have HBV3 := Lib.hid (HBV.out.below hb3 HBV.out.lt)
    have HUI3 := Lib.hid (HUI.out.below hb3)
    have HB3 := Lib.hid (HB2.out.trans (hb3.mono HB2.out.size))
    clear hb3 HRI HA HRS HB2 HBV HUI ce ca
    clear v0 v1 v2
    have ce := HA3.out.cell 2
    simp only [List.getElem?_toArray, List.getElem?_cons_zero, List.getElem?_cons_succ] at ce
    go_wp2_with fail
    clear ce
    have hn0 := stored3 (HRS3.out) (.int .i64 u.k) (.slice a4 u.ns.length b4) (.slice a5 u.xs.length b5)
    have hn := And.intro hn0.1.drew hn0.2.drew
    have s0 : w3.drew.cell? ⟨g, 1, none⟩ = some (.int .i64 q) ∧ w3.drew.cell? ⟨V, 0, none⟩ = some (.int .i64 u.k) ∧ w3.drew.cell? ⟨V, 1, none⟩ = some (.slice a4 u.ns.length b4) ∧ w3.drew.cell? ⟨V, 2, none⟩ = some (.slice a5 u.xs.length b5) := by
      have h1 := HA3.out.drew.cell 1
      have hv := HBV3.out.drew
      simp only [List.getElem?_toArray, List.getElem?_cons_zero, List.getElem?_cons_succ] at h1
      exact ⟨h1, hv.cell 0, hv.cell 1, hv.cell 2⟩
    have s1 : (((w3.setCell ⟨R, 0, none⟩ (.int .i64 u.k)).setCell ⟨R, 1, none⟩ (.slice a4 u.ns.length b4)).setCell ⟨R, 2, none⟩ (.slice a5 u.xs.length b5)).drew.cell? ⟨g, 1, none⟩ = some (.int .i64 q) ∧ (((w3.setCell ⟨R, 0, none⟩ (.int .i64 u.k)).setCell ⟨R, 1, none⟩ (.slice a4 u.ns.length b4)).setCell ⟨R, 2, none⟩ (.slice a5 u.xs.length b5)).drew.cell? ⟨V, 0, none⟩ = some (.int .i64 u.k) ∧ (((w3.setCell ⟨R, 0, none⟩ (.int .i64 u.k)).setCell ⟨R, 1, none⟩ (.slice a4 u.ns.length b4)).setCell ⟨R, 2, none⟩ (.slice a5 u.xs.length b5)).drew.cell? ⟨V, 1, none⟩ = some (.slice a4 u.ns.length b4) ∧ (((w3.setCell ⟨R, 0, none⟩ (.int .i64 u.k)).setCell ⟨R, 1, none⟩ (.slice a4 u.ns.length b4)).setCell ⟨R, 2, none⟩ (.slice a5 u.xs.length b5)).drew.cell? ⟨V, 2, none⟩ = some (.slice a5 u.xs.length b5) := by
      have h1 := (Blk.grown HA3.out hn0.2 (by simp; omega)).drew.cell 1
      have hv := (HBV3.out.grown hn0.2 (by simp; omega)).drew
      simp only [List.getElem?_toArray, List.getElem?_cons_zero, List.getElem?_cons_succ] at h1
      exact ⟨h1, hv.cell 0, hv.cell 1, hv.cell 2⟩
    have HS0 := Lib.hid s0; have HS1 := Lib.hid s1; have HN := Lib.hid hn
    clear s0 s1 hn hn0
    have r0 := HRS3.out.cell 0; have f0 := HRS3.out.frozen 0; have r1 := HRS3.out.cell 1; have f1 := HRS3.out.frozen 1; have r2 := HRS3.out.cell 2; have f2 := HRS3.out.frozen 2
    simp only [List.getElem?_toArray, List.getElem?_cons_zero, List.getElem?_cons_succ] at r0 r1 r2
    go_region_held3 (fun W => W.cell? ⟨g, 1, none⟩ = some (.int .i64 q) ∧ W.cell? ⟨V, 0, none⟩ = some (.int .i64 u.k) ∧ W.cell? ⟨V, 1, none⟩ = some (.slice a4 u.ns.length b4) ∧ W.cell? ⟨V, 2, none⟩ = some (.slice a5 u.xs.length b5)) (first | with_reducible exact HS0.out | with_reducible exact HS1.out | fail) (first | fail)
    all_goals
      go_wp2_with fail
      clear r0 f0 r1 f1 r2 f2
      have e0 := HN.out.1.cell 0; have e1 := HN.out.1.cell 1; have e2 := HN.out.1.cell 2
      simp only [List.getElem?_toArray, List.getElem?_cons_zero, List.getElem?_cons_succ] at e0 e1 e2
      refine bodyPost_ret (v := .tuple #[.agg #[.int .i64 u.k, .slice a4 u.ns.length b4, .slice a5 u.xs.length b5], .int .i64 q, .int .i64 0]) (by simp [results, Try.results46, go_sem, e0, e1, e2]) rfl ?_
      rw [HE.out]
      refine ⟨Go.Proofs.Ytemhinagajfemaa.Below.only HB3.out HN.out.2 (by rw [HR.out]; exact Nat.le_refl _) HB3.out.size, u, ?_, rfl, ?_⟩
      · unfold Ty.agg; rw [HK4.out, HK5.out]
      · exact HUI3.out.carryS HUS.out (fun b o hb hlt => only_cell HN.out.2 (by omega) hlt o) HN.out.2.size
end Go.Proofs.Ytemhinagajfemaa
