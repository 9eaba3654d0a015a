/- basculeref09.field of any type that may be one. -/
import Derived.Test.YtjpdbhhjlnmacaaGreatTcM7
import Derived.Test.YtjpdbhhjlnmacaaGreatTcM15
import Derived.Test.YtjpdbhhjlnmacaaGreatTcM23
import Derived.Test.YtjpdbhhjlnmacaaGreatTcM31
import Derived.Test.YtjpdbhhjlnmacaaGreatTcM47
import Derived.RegionTactic
namespace Go.Proofs.YtjpdbhhjlnmacaaGreat
set_option linter.unusedVariables false
open Go.RowKit

def fieldP (t : Ty) (s : ByteArray) : Except Int Ty := if t.k = 6 then (if nameIdx t.ns s < 0 then .error 10 else .ok (nthT t.xs (nameIdx t.ns s).toNat).erase) else .error 6
/-- Where it begins: an expression, a type, room for the result. -/
structure F0 (w W : World) (x : Exp) (t : Ty) : Prop where
  below : Below w.heap.size w W
  bx : Blk W w.heap.size 29 x.cells.toArray
  bt : Blk W (w.heap.size + 1) 36 t.cells.toArray
  br : Blk W (w.heap.size + 1 + 1) 36 #[.int .i64 0, .slice none 0 0, .slice none 0 0]
  size : W.heap.size = w.heap.size + 1 + 1 + 1
theorem f0_start (w : World) (x : Exp) (t : Ty) : F0 w (((w.alloc (.cells x.cells.toArray 29)).alloc (.cells t.cells.toArray 36)).alloc (.cells #[.int .i64 0, .slice none 0 0, .slice none 0 0] 36)) x t := by
  refine ⟨(((Below.refl _ w).alloc (Nat.le_refl _) _).alloc (by simp) _).alloc (by simp; omega) _, ((Blk.new w 29 _).alloc _).alloc _, ?_, ?_, by simp⟩
  · have := (Blk.new (w.alloc (.cells x.cells.toArray 29)) 36 t.cells.toArray).alloc (.cells #[.int .i64 0, .slice none 0 0, .slice none 0 0] 36)
    rw [show (w.alloc (.cells x.cells.toArray 29)).heap.size = w.heap.size + 1 from by simp] at this
    exact this
  · have := Blk.new ((w.alloc (.cells x.cells.toArray 29)).alloc (.cells t.cells.toArray 36)) 36 #[.int .i64 0, .slice none 0 0, .slice none 0 0]
    rw [show ((w.alloc (.cells x.cells.toArray 29)).alloc (.cells t.cells.toArray 36)).heap.size = w.heap.size + 1 + 1 from by simp] at this
    exact this
theorem names_at {w : World} {v : Value} {l : List ByteArray} (h : NamesAt w v l) : ∃ p c, v = .slice p l.length c ∧ l.length ≤ c ∧ ∀ i (hi : i < l.length), ∃ b o, p = some ⟨b, o, none⟩ ∧ w.cell? ⟨b, o + i, none⟩ = some (.string (l[i]'hi)) := by
  rcases h with ⟨pz, h1, h2⟩ | ⟨b, o, cap, h1, h2, h3, h4, h5⟩
  · exact ⟨pz, 0, by rw [h1, h2]; rfl, by rw [h2]; simp, fun i hi => by rw [h2] at hi; simp at hi⟩
  · exact ⟨_, cap, h1, h2, fun i hi => ⟨b, o, rfl, by rw [h5 i hi]; simp [hi]⟩⟩
theorem sep_item {t x : Ty} {P : Nat → Prop} (h : t.Sep P) (hx : x ∈ t.xs) : x.Sep P := by
  rw [Ty.sep_iff] at h
  exact h.2.2 x hx

set_option maxHeartbeats 4000000 in
set_option maxRecDepth 100000 in
theorem tfield_any (x : Exp) (t : Ty) (P : Nat → Prop) (w : World) (hP : ∀ b, P b → b < w.heap.size) (hx : x.In w) (ht : t.In w) (hts : t.Sep P) (hl : t.k = 6 → t.ns.length = t.xs.length) :
    Calls Tryz.prog 56 #[x.agg, t.agg] w fun e w' => RGave (fieldP t x.s) P w e w' := by
  obtain ⟨W, hW⟩ : ∃ W, W = ((w.alloc (.cells x.cells.toArray 29)).alloc (.cells t.cells.toArray 36)).alloc (.cells #[.int .i64 0, .slice none 0 0, .slice none 0 0] 36) := ⟨_, rfl⟩
  have hj : F0 w W x t := by rw [hW]; exact f0_start w x t
  have htW := ht.below hj.below
  obtain ⟨p8, q8, e8⟩ := hx.nslice
  obtain ⟨p9, q9, e9⟩ := hx.xslice
  obtain ⟨p6, q6, e6⟩ := hx.val.nslice
  obtain ⟨p7, q7, e7⟩ := hx.val.xslice
  obtain ⟨np, nc, en, hnc, hna⟩ := names_at (TNamesAt.of ht)
  obtain ⟨xp, xc, ex, hxa⟩ := titems_at ht
  have hj1 := hj.bx; have hj2 := hj.bt; have hj3 := hj.br
  obtain ⟨A, hA⟩ : ∃ A, A = w.heap.size := ⟨_, rfl⟩
  rw [← hA] at hj1 hj2 hj3
  unfold Exp.cells Ty.cells at hW
  unfold Exp.cells at hj1
  unfold Ty.cells at hj2
  unfold Exp.agg Ty.agg
  rw [e6, e7, e8, e9, en, ex] at hW ⊢
  rw [e6, e7, e8, e9] at hj1
  rw [en, ex] at hj2
  obtain ⟨R, hR⟩ : ∃ R, R = fieldP t x.s := ⟨_, rfl⟩
  rw [← hR]
  obtain ⟨n, hn⟩ : ∃ n, n = t.ns.length := ⟨_, rfl⟩
  obtain ⟨m, hm⟩ : ∃ m, m = t.xs.length := ⟨_, rfl⟩
  have hnb : n ≤ 8796093021952 := by rw [hn]; exact ht.ok.2.1
  rw [← hn, ← hm] at hj2 hW ⊢
  rw [← hn] at hnc
  have a0 := hj2.cell 0; have a1 := hj2.cell 1
  simp only [List.getElem?_toArray, List.getElem?_cons_zero, List.getElem?_cons_succ] at a0 a1
  have HW := Lib.hid hW; have HA := Lib.hid hA; have HJ := Lib.hid hj; have HX := Lib.hid hj1; have HT := Lib.hid hj2; have HRB := Lib.hid hj3; have HR := Lib.hid hR; have HN := Lib.hid hn; have HM := Lib.hid hm; have HNA := Lib.hid hna; have HXA := Lib.hid hxa; have HPP := Lib.hid hP; have HTI := Lib.hid htW; have HTS := Lib.hid hts; have HL := Lib.hid hl
  clear hW hA hj hj1 hj2 hj3 hR hn hm hna hxa hP htW hts hl e6 e7 e8 e9 en ex hx ht
  by_cases h6 : t.k = 6
  · have HNM : Hid (n = m) := Lib.hid (by rw [HN.out, HM.out]; exact HL.out h6)
    have HR2 : Hid (R = if nameIdx t.ns x.s < 0 then .error 10 else .ok (nthT t.xs (nameIdx t.ns x.s).toNat).erase) := Lib.hid (by rw [HR.out]; unfold fieldP; rw [if_pos h6])
    have i1 : (t.k == 6) = true := by simpa using h6
    have i2 : (t.k != 6) = false := by simp [h6]
    have HK6 := Lib.hid h6
    clear h6 HR
    go_enter Tryz.func56, Tryz.ntmps56
    go_wp2_with fail
    rw [← HW.out, ← HA.out]
    go_wp2_with fail
    clear a0 a1
    go_loopw [6] (fun iv wr => ∃ k : Nat, k ≤ n ∧ iv = .int .i64 k ∧ Hid (∀ j (hj : j < t.ns.length), j < k → t.ns[j] ≠ x.s) ∧ Hid (Below W.heap.size W wr)) (fun iv _ => n - (intOf iv).toNat)
    case atStart => exact ⟨0, by omega, rfl, Lib.hid (fun j _ hj => absurd hj (by omega)), Lib.hid (Below.refl _ _)⟩
    case round =>
      obtain ⟨k, hk, rfl, HNO, HB⟩ := hrel
      have hbt := HT.out.below HB.out HT.out.lt
      have hbx := HX.out.below HB.out HX.out.lt
      have a0 := hbt.cell 0; have a1 := hbt.cell 1; have a2 := hbt.cell 2; have b1 := hbx.cell 1
      simp only [List.getElem?_toArray, List.getElem?_cons_zero, List.getElem?_cons_succ] at a0 a1 a2 b1
      clear hbt hbx
      by_cases hlt2 : k < n
      · have hkl : k < t.ns.length := by rw [← HN.out]; exact hlt2
        obtain ⟨b, o, rfl, hc⟩ := HNA.out k hkl
        obtain ⟨y, hy⟩ : ∃ y, y = t.ns[k]'hkl := ⟨_, rfl⟩
        rw [← hy] at hc
        have c0 := ((HJ.out.below.trans (HB.out.mono HJ.out.below.size)).cell (p := ⟨b, o + k, none⟩) (cell_lt hc)).trans hc
        have hk0 : (0 : Int) ≤ (k : Int) := by omega
        have hk1 : (k : Int) < (n : Int) := by omega
        clear hc
        by_cases he : y = x.s
        · have hkm : k < t.xs.length := by rw [← HM.out, ← HNM.out]; exact hlt2
          obtain ⟨b2, o2, rfl, hp2⟩ := HXA.out k hkm
          obtain ⟨u, hu⟩ : ∃ u, u = t.xs[k]'hkm := ⟨_, rfl⟩
          rw [← hu] at hp2
          have hp3 := hp2.1.below (HJ.out.below.trans (HB.out.mono HJ.out.below.size))
          have d0 := hp3.c0; have d1 := hp3.c1; have d2 := hp3.c2
          obtain ⟨k4, l4, f4⟩ := hp3.in.nslice
          obtain ⟨k5, l5, f5⟩ := hp3.in.xslice
          rw [f4] at d1
          rw [f5] at d2
          have hk2 : (k : Int) < (m : Int) := by rw [← HNM.out]; exact hk1
          have hidx : nameIdx t.ns x.s = (k : Int) := nameIdx_hit hkl (by rw [← hy]; exact he) HNO.out
          have hR3 : R = .ok u.erase := by
            rw [HR2.out, hidx, if_neg (by omega), hu]
            simp [nthT, List.getD_eq_getElem?_getD, hkm]
          have hbr := HRB.out.below HB.out HRB.out.lt
          have r0 := hbr.cell 0; have r1 := hbr.cell 1; have r2 := hbr.cell 2
          have s0 := hbr.frozen 0; have s1 := hbr.frozen 1; have s2 := hbr.frozen 2
          simp at r0 r1 r2
          obtain ⟨WF, hWF⟩ : ∃ WF, WF = ((wr.setCell ⟨A + 1 + 1, 0, none⟩ (.int .i64 u.k)).setCell ⟨A + 1 + 1, 1, none⟩ (.slice k4 u.ns.length l4)).setCell ⟨A + 1 + 1, 2, none⟩ (.slice k5 u.xs.length l5) := ⟨_, rfl⟩
          have hus : u.Sep P := sep_item HTS.out (by rw [hu]; exact List.getElem_mem hkm)
          have hres := res_storedR (w := w) (P := P) (by rw [← HA.out]; omega) HPP.out (HJ.out.below.trans (HB.out.mono HJ.out.below.size)) hbr hp3.in (hus.mono fun b hb => .inl hb) f4 f5 hWF
          have j1 : (y.toList == x.s.toList) = true := by rw [he]; simp
          have HRES := Lib.hid hres; have HWF := Lib.hid hWF; have HR3 := Lib.hid hR3
          clear hres hWF hbr hR3 hus hp2 hp3 hu f4 f5 hidx hy he
          go_wp2_with fail
          go_region
          all_goals (go_wp2_with fail)
          all_goals (rw [← HWF.out]; obtain ⟨hF, hJ⟩ := HRES.out)
          all_goals (have hF := hF.drew; have hJ := hJ.drew; have f0 := hF.cell 0; have f1 := hF.cell 1; have f2 := hF.cell 2; simp at f0 f1 f2)
          all_goals (refine bodyPost_ret (v := .tuple #[.agg #[.int .i64 u.k, .slice k4 u.ns.length l4, .slice k5 u.xs.length l5], .int .i64 0]) (by simp [results, Tryz.results56, go_sem, f0, f1, f2]) rfl ?_; rw [HR3.out]; exact hJ)
        · have HNO2 : Hid (∀ j (hj : j < t.ns.length), j < k + 1 → t.ns[j] ≠ x.s) := Lib.hid (fun j hj hjk => by
            by_cases e : j = k
            · subst e; rw [← hy]; exact he
            · exact HNO.out j hj (by omega))
          have j1 := str_ne he
          have HB2 := Lib.hid HB.out.drew
          clear he hy hkl
          go_wp2_with fail
          go_region
          all_goals go_wp2
          all_goals go_roundw
          case rel => exact ⟨k + 1, by omega, by go_num, HNO2, HB2⟩
          case measure => simp [intOf]; omega
      · have hidx : nameIdx t.ns x.s = -1 := nameIdx_miss (fun j hj => HNO.out j hj (by have := HN.out; omega))
        have HR3 : Hid (R = .error 10) := Lib.hid (by rw [HR2.out, hidx, if_pos (by omega)])
        have hbr := HRB.out.below HB.out HRB.out.lt
        have r0 := hbr.cell 0; have r1 := hbr.cell 1; have r2 := hbr.cell 2
        have s0 := hbr.frozen 0; have s1 := hbr.frozen 1; have s2 := hbr.frozen 2
        simp at r0 r1 r2
        obtain ⟨WF, hWF⟩ : ∃ WF, WF = ((wr.setCell ⟨A + 1 + 1, 0, none⟩ (.int .i64 0)).setCell ⟨A + 1 + 1, 1, none⟩ (.slice none 0 0)).setCell ⟨A + 1 + 1, 2, none⟩ (.slice none 0 0) := ⟨_, rfl⟩
        have hres := err_storedR (w := w) (P := P) (k := 10) (by rw [← HA.out]; omega) (HJ.out.below.trans (HB.out.mono HJ.out.below.size)) hbr hWF
        have HRES := Lib.hid hres; have HWF := Lib.hid hWF
        clear hres hWF hbr hidx
        go_wp2_with fail
        rw [← HWF.out]
        obtain ⟨hF, hJ⟩ := HRES.out
        have f0 := hF.cell 0; have f1 := hF.cell 1; have f2 := hF.cell 2
        simp at f0 f1 f2
        refine bodyPost_ret (v := .tuple #[.agg #[.int .i64 0, .slice none 0 0, .slice none 0 0], .int .i64 10]) (by simp [results, Tryz.results56, go_sem, f0, f1, f2]) rfl ?_
        rw [HR3.out]
        exact hJ
  · have HR2 : Hid (R = .error 6) := Lib.hid (by rw [HR.out]; unfold fieldP; rw [if_neg h6])
    have i1 : (t.k == 6) = false := by simpa using h6
    have i2 : (t.k != 6) = true := by simp [h6]
    have hbr := HRB.out
    have r0 := hbr.cell 0; have r1 := hbr.cell 1; have r2 := hbr.cell 2
    have s0 := hbr.frozen 0; have s1 := hbr.frozen 1; have s2 := hbr.frozen 2
    simp at r0 r1 r2
    clear hbr h6 HR r0 r1 r2 s0 s1 s2
    go_enter Tryz.func56, Tryz.ntmps56
    go_wp2_with fail
    rw [← HW.out, ← HA.out]
    have hF := HRB.out
    have f0 := hF.cell 0; have f1 := hF.cell 1; have f2 := hF.cell 2
    simp at f0 f1 f2
    refine bodyPost_ret (v := .tuple #[.agg #[.int .i64 0, .slice none 0 0, .slice none 0 0], .int .i64 6]) (by simp [results, Tryz.results56, go_sem, f0, f1, f2]) rfl ?_
    rw [HR2.out]
    exact ⟨HJ.out.below, rfl⟩
end Go.Proofs.YtjpdbhhjlnmacaaGreat

/- Expressions, and variables, that came in, opened (printed by wip/gen_expopen.py). -/
namespace Go.Proofs.YtjpdbhhjlnmacaaGreat
set_option linter.unusedVariables false
open Go.RowKit Go.ChangeShapes Go.WideShapes Go.Deep

section
variable {H : Type} {enc : TypeId × Value → H} {W : World}
theorem str_ok {s : ByteArray} {d : DataW H × List MemPlace} (hd : d = (.lit (.string s.data.toList), [])) (hw : Fits 9 d.1) : strok s := by
  have : s.data.toList.length ≤ 140737488351232 := hw _ (by rw [hd]; simp [DataW.weights])
  unfold strok
  have e : s.size = s.data.toList.length := Array.length_toList.symm
  omega
set_option maxRecDepth 100000 in
set_option maxHeartbeats 2000000 in
theorem exp_open : ∀ (fuel : Nat) (cs : List Value) (x : DataW H × List MemPlace), DataW.trod enc Tryz.prog W 0 (fun _ => true) true fuel 29 cs = some x → Fits 29 x.1 → ∃ v : Exp, cs = v.cells ∧ v.In W
  | 0, cs, x, h, _ => by simp [DataW.trod] at h
  | fuel + 1, cs, x, h, hw => by
    obtain ⟨ys, n, hn, rfl, hl, hyl, hfs⟩ := DataW.trod_struct Tryz.underlying29 h
    have hnf : n = fuel := by omega
    rw [hnf] at hfs
    rw [show Tryz.prog.cellsOf 29 = 10 from by kernel_rfl] at hl
    obtain ⟨c0, c1, c2, c3, c4, c5, c6, c7, c8, c9, rfl⟩ : ∃ c0 c1 c2 c3 c4 c5 c6 c7 c8 c9, cs = [c0, c1, c2, c3, c4, c5, c6, c7, c8, c9] := by
      match cs, hl with
      | [c0, c1, c2, c3, c4, c5, c6, c7, c8, c9], _ => exact ⟨c0, c1, c2, c3, c4, c5, c6, c7, c8, c9, rfl⟩
    have hget : ∀ i, i < 5 → ∃ y, ys[i]? = some y := fun i hi => ⟨ys[i]'(by rw [hyl]; exact hi), List.getElem?_eq_getElem _⟩
    obtain ⟨y0, g0⟩ := hget 0 (by omega); obtain ⟨y1, g1⟩ := hget 1 (by omega); obtain ⟨y2, g2⟩ := hget 2 (by omega)
    obtain ⟨y3, g3⟩ := hget 3 (by omega); obtain ⟨y4, g4⟩ := hget 4 (by omega)
    have t0 : DataW.trod enc Tryz.prog W 0 (fun _ => true) true fuel 3 (([c0, c1, c2, c3, c4, c5, c6, c7, c8, c9].drop 0).take (Tryz.prog.cellsOf 3)) = some y0 := (hfs 0 _ rfl).trans g0
    have t1 : DataW.trod enc Tryz.prog W 0 (fun _ => true) true fuel 9 (([c0, c1, c2, c3, c4, c5, c6, c7, c8, c9].drop 1).take (Tryz.prog.cellsOf 9)) = some y1 := (hfs 1 _ rfl).trans g1
    have t2 : DataW.trod enc Tryz.prog W 0 (fun _ => true) true fuel 26 (([c0, c1, c2, c3, c4, c5, c6, c7, c8, c9].drop 2).take (Tryz.prog.cellsOf 26)) = some y2 := (hfs 2 _ rfl).trans g2
    have t3 : DataW.trod enc Tryz.prog W 0 (fun _ => true) true fuel 23 (([c0, c1, c2, c3, c4, c5, c6, c7, c8, c9].drop 8).take (Tryz.prog.cellsOf 23)) = some y3 := (hfs 3 _ rfl).trans g3
    have t4 : DataW.trod enc Tryz.prog W 0 (fun _ => true) true fuel 27 (([c0, c1, c2, c3, c4, c5, c6, c7, c8, c9].drop 9).take (Tryz.prog.cellsOf 27)) = some y4 := (hfs 4 _ rfl).trans g4
    have hp : ∀ (j : Nat) (u : TypeId) (y : DataW H × List MemPlace), _ → ys[j]? = some y → Fits u y.1 := fun j u y h1 h2 => parts_mem Tryz.underlying29 (j := j) h1 (by rw [List.getElem?_map, h2]; rfl) hw
    have w1 : Fits 9 y1.1 := hp 1 9 y1 rfl g1
    have w2 : Fits 26 y2.1 := hp 2 26 y2 rfl g2
    have w3 : Fits 23 y3.1 := hp 3 23 y3 rfl g3
    have w5 : Fits 27 y4.1 := hp 4 27 y4 rfl g4
    simp only [show Tryz.prog.cellsOf 3 = 1 from by kernel_rfl, List.drop_zero, List.take_succ_cons, List.take_zero] at t0
    simp only [show Tryz.prog.cellsOf 9 = 1 from by kernel_rfl, List.drop_succ_cons, List.drop_zero, List.take_succ_cons, List.take_zero] at t1
    simp only [show Tryz.prog.cellsOf 26 = 6 from by kernel_rfl, List.drop_succ_cons, List.drop_zero, List.take_succ_cons, List.take_zero] at t2
    simp only [show Tryz.prog.cellsOf 23 = 1 from by kernel_rfl, List.drop_succ_cons, List.drop_zero, List.take_succ_cons, List.take_zero] at t3
    simp only [show Tryz.prog.cellsOf 27 = 1 from by kernel_rfl, List.drop_succ_cons, List.drop_zero, List.take_succ_cons, List.take_zero] at t4
    obtain ⟨x0, e0, _, r0⟩ := DataW.trod_int Tryz.underlying3 t0
    obtain ⟨x1, e1, d1, _⟩ := DataW.trod_string Tryz.underlying9 t1
    obtain ⟨v, e2, hv⟩ := val_open fuel _ y2 t2 w2
    obtain ⟨na, ns, e3, q1, q2, q3⟩ := names_open t3 w3
    have hs1 : strok x1 := str_ok d1 w1
    unfold Val.cells at e2
    injection e0 with e0 _; injection e1 with e1 _; injection e3 with e3 _
    injection e2 with f0 e2; injection e2 with f1 e2; injection e2 with f2 e2; injection e2 with f3 e2; injection e2 with f4 e2; injection e2 with f5 e2
    subst e0 e1 f0 f1 f2 f3 f4 f5 e3
    have hin : ∀ (xa : Sl) (xs : List Exp), c9 = xa.val xs.length → xs.length ≤ 879609302195 → xa.lies W 10 xs.length (fun i => (xs.getD i Exp.zero).cells) → (∀ y, y ∈ xs → y.In W) →
        ∃ u : Exp, [.int .i64 x0, .string x1, .int .i64 v.k, .int .i64 v.n, .float .f64 v.f, .string v.s, v.na.val v.ns.length, v.xa.val v.xs.length, na.val ns.length, c9] = u.cells ∧ u.In W := fun xa xs h1 h2 h3 h4 =>
      ⟨.mk x0 x1 v na ns xa xs, by rw [h1]; rfl, (Exp.in_iff W _).2 ⟨⟨i64_wf r0, hs1, q1, h2, q2⟩, hv, q3, h3, h4⟩⟩
    rcases DataW.trod_slice Tryz.underlying27 t4 with ⟨e5, _⟩ | ⟨a, len, cap, elems, rest, n', hn', e5, hx5, hb5, hlc, hcm, hel, hi, hsp, _⟩
    · injection e5 with e5 _
      exact hin .no [] e5 (by simp) rfl (fun y hy => by simp at hy)
    · injection e5 with e5 _
      obtain ⟨hrl, hrj⟩ := hsp rfl
      have hbytes : cap * 160 ≤ 140737488351232 := by
        refine w5 _ ?_
        rw [hx5]
        have hbo : Tryz.prog.bytesOf 29 = 160 := by kernel_rfl
        simp only [DataW.weights, Tryz.underlying27, List.length_map, hbo, List.mem_cons]
        left
        rw [hel, hrl]
        omega
      have hcell : ∀ i, i < cap → ∃ cs', W.cells? 0 (a.add (i * 10)) 10 = some cs' := fun i hic => by
        rcases Nat.lt_or_ge i len with h' | h'
        · have := hi i h'
          rw [List.getElem?_eq_getElem (by omega)] at this
          obtain ⟨cs', h1, h2⟩ := Option.bind_eq_some_iff.1 this
          rw [show Tryz.prog.cellsOf 29 = 10 from by kernel_rfl] at h1
          exact ⟨cs', h1⟩
        · have := hrj (i - len) (by omega)
          rw [List.getElem?_eq_getElem (by omega)] at this
          obtain ⟨cs', h1, h2⟩ := Option.bind_eq_some_iff.1 this
          rw [show Tryz.prog.cellsOf 29 = 10 from by kernel_rfl, show len + (i - len) = i by omega] at h1
          exact ⟨cs', h1⟩
      have hv' : ∀ i, i < len → ∃ v : Exp, W.cells? 0 (a.add (i * 10)) 10 = some v.cells ∧ v.In W := fun i hil => by
        have := hi i hil
        rw [List.getElem?_eq_getElem (by omega)] at this
        obtain ⟨cs', h1, h2⟩ := Option.bind_eq_some_iff.1 this
        rw [show Tryz.prog.cellsOf 29 = 10 from by kernel_rfl] at h1
        obtain ⟨v, rfl, hvi⟩ := exp_open fuel cs' (elems[i]'(by omega)) (DataW.trod_le (by omega) h2) (fun y hy => w5 y (by
          rw [hx5]
          simp only [DataW.weights, Tryz.underlying27, List.mem_cons, List.mem_append]
          right; left
          exact weightsAll_mem (List.mem_map.2 ⟨_, List.getElem_mem _, rfl⟩) hy))
        exact ⟨v, h1, hvi⟩
      obtain ⟨xs, hxl, hxs⟩ := exists_list len hv'
      rcases Nat.eq_zero_or_pos cap with h0 | h0
      · obtain rfl : cap = 0 := h0
        obtain rfl : len = 0 := by omega
        exact hin (.odd a) [] e5 (by simp) rfl (fun y hy => by simp at hy)
      · obtain ⟨cs', hc'⟩ := hcell 0 h0
        obtain ⟨_, hcl, hat⟩ := World.cells?_some hc'
        have h00 := hat 0 (by omega)
        rw [List.getElem?_eq_getElem (by omega)] at h00
        have ha0 : (a.add (0 * 10)).add 0 = a := by simp [Addr.add]
        rw [ha0] at h00
        have hspot := cell_spot h00
        have hlt := cell_lt h00
        refine hin (.at_ a.block a.off cap) xs (by rw [e5, hxl]; show Value.slice (some a) len cap = _; rw [Sl.val, ← hspot]) (by omega) ⟨by omega, by unfold maxLen at hcm; exact hcm, fun i hi' j hj => ⟨?_, hlt⟩⟩ (fun y hy => ?_)
        · obtain ⟨_, _, hat⟩ := World.cells?_some (hxs i hi').1
          have := hat j hj
          rw [Go.Deep.add_add, hspot, Addr.add_lit] at this
          rw [this]
          simp [hi']
        · obtain ⟨i, hi', rfl⟩ := List.getElem_of_mem hy
          exact (hxs i hi').2
theorem arg_exp {v : Value} {cs : Array Value} (e : v = .agg cs) {d : DataW H} {p : List MemPlace} (h : DataW.Trod enc Tryz.prog W 0 (fun _ => true) true 29 v d p)
    {ts : List TypeId} {ds : List (DataW H)} (j : Nat) (hsz : (DataW.weightsEach Tryz.prog ts ds).all (· ≤ reachBytes) = true) (ht : ts[j]? = some 29) (hd : ds[j]? = some d) :
    ∃ u : Exp, v = u.agg ∧ u.In W := by
  subst e
  obtain ⟨fuel, hf⟩ := h
  obtain ⟨u, he, hu⟩ := exp_open fuel _ _ hf (fun y hy => by
    have := List.all_eq_true.1 hsz y (weightsEach_mem ht hd hy)
    exact of_decide_eq_true this)
  refine ⟨u, ?_, hu⟩
  simp only [Value.cells] at he
  show Value.agg cs = .agg _
  congr 1
  exact Array.ext' he
set_option maxRecDepth 100000 in
set_option maxHeartbeats 2000000 in
theorem var_open (fuel : Nat) (cs : List Value) (x : DataW H × List MemPlace) (h : DataW.trod enc Tryz.prog W 0 (fun _ => true) true fuel 56 cs = some x) (hw : Fits 56 x.1) : ∃ v : Var, cs = v.cells ∧ v.In W := by
  cases fuel with
  | zero => simp [DataW.trod] at h
  | succ fuel =>
    obtain ⟨ys, n, hn, rfl, hl, hyl, hfs⟩ := DataW.trod_struct Tryz.underlying56 h
    have hnf : n = fuel := by omega
    rw [hnf] at hfs
    rw [show Tryz.prog.cellsOf 56 = 11 from by kernel_rfl] at hl
    obtain ⟨c0, c1, c2, c3, c4, c5, c6, c7, c8, c9, ca, rfl⟩ : ∃ c0 c1 c2 c3 c4 c5 c6 c7 c8 c9 ca, cs = [c0, c1, c2, c3, c4, c5, c6, c7, c8, c9, ca] := by
      match cs, hl with
      | [c0, c1, c2, c3, c4, c5, c6, c7, c8, c9, ca], _ => exact ⟨c0, c1, c2, c3, c4, c5, c6, c7, c8, c9, ca, rfl⟩
    have hget : ∀ i, i < 4 → ∃ y, ys[i]? = some y := fun i hi => ⟨ys[i]'(by rw [hyl]; exact hi), List.getElem?_eq_getElem _⟩
    obtain ⟨y0, g0⟩ := hget 0 (by omega); obtain ⟨y1, g1⟩ := hget 1 (by omega); obtain ⟨y2, g2⟩ := hget 2 (by omega); obtain ⟨y3, g3⟩ := hget 3 (by omega)
    have t0 : DataW.trod enc Tryz.prog W 0 (fun _ => true) true fuel 9 (([c0, c1, c2, c3, c4, c5, c6, c7, c8, c9, ca].drop 0).take (Tryz.prog.cellsOf 9)) = some y0 := (hfs 0 _ rfl).trans g0
    have t1 : DataW.trod enc Tryz.prog W 0 (fun _ => true) true fuel 3 (([c0, c1, c2, c3, c4, c5, c6, c7, c8, c9, ca].drop 1).take (Tryz.prog.cellsOf 3)) = some y1 := (hfs 1 _ rfl).trans g1
    have t2 : DataW.trod enc Tryz.prog W 0 (fun _ => true) true fuel 36 (([c0, c1, c2, c3, c4, c5, c6, c7, c8, c9, ca].drop 2).take (Tryz.prog.cellsOf 36)) = some y2 := (hfs 2 _ rfl).trans g2
    have t3 : DataW.trod enc Tryz.prog W 0 (fun _ => true) true fuel 26 (([c0, c1, c2, c3, c4, c5, c6, c7, c8, c9, ca].drop 5).take (Tryz.prog.cellsOf 26)) = some y3 := (hfs 3 _ rfl).trans g3
    have hp : ∀ (j : Nat) (u : TypeId) (y : DataW H × List MemPlace), _ → ys[j]? = some y → Fits u y.1 := fun j u y h1 h2 => parts_mem Tryz.underlying56 (j := j) h1 (by rw [List.getElem?_map, h2]; rfl) hw
    have w0 : Fits 9 y0.1 := hp 0 9 y0 rfl g0
    have w2 : Fits 36 y2.1 := hp 2 36 y2 rfl g2
    have w3 : Fits 26 y3.1 := hp 3 26 y3 rfl g3
    simp only [show Tryz.prog.cellsOf 9 = 1 from by kernel_rfl, List.drop_succ_cons, List.drop_zero, List.take_succ_cons, List.take_zero] at t0
    simp only [show Tryz.prog.cellsOf 3 = 1 from by kernel_rfl, List.drop_succ_cons, List.drop_zero, List.take_succ_cons, List.take_zero] at t1
    simp only [show Tryz.prog.cellsOf 36 = 3 from by kernel_rfl, List.drop_succ_cons, List.drop_zero, List.take_succ_cons, List.take_zero] at t2
    simp only [show Tryz.prog.cellsOf 26 = 6 from by kernel_rfl, List.drop_succ_cons, List.drop_zero, List.take_succ_cons, List.take_zero] at t3
    obtain ⟨x0, e0, d0, _⟩ := DataW.trod_string Tryz.underlying9 t0
    obtain ⟨x1, e1, _, r1⟩ := DataW.trod_int Tryz.underlying3 t1
    obtain ⟨t, e2, ht⟩ := ty_open fuel _ y2 t2 w2
    obtain ⟨v, e3, hv⟩ := val_open fuel _ y3 t3 w3
    have hs0 : strok x0 := str_ok d0 w0
    unfold Val.cells at e3
    unfold Ty.cells at e2
    injection e0 with e0 _; injection e1 with e1 _
    injection e2 with h0 e2; injection e2 with h1 e2; injection e2 with h2 e2
    injection e3 with f0 e3; injection e3 with f1 e3; injection e3 with f2 e3; injection e3 with f3 e3; injection e3 with f4 e3; injection e3 with f5 e3
    subst e0 e1 h0 h1 h2 f0 f1 f2 f3 f4 f5
    exact ⟨⟨x0, x1, t, v⟩, rfl, hs0, i64_wf r1, ht, hv⟩
set_option maxRecDepth 100000 in
set_option maxHeartbeats 2000000 in
theorem vars_open {fuel : Nat} {cs : List Value} {x : DataW H × List MemPlace} (h : DataW.trod enc Tryz.prog W 0 (fun _ => true) true fuel 30 cs = some x) (hw : Fits 30 x.1) :
    ∃ (vs : List Var) (p : Option Addr) (c : Nat), cs = [.slice p vs.length c] ∧ VarsIn W p c vs := by
  rcases DataW.trod_slice Tryz.underlying30 h with ⟨e5, _⟩ | ⟨a, len, cap, elems, rest, n', hn', e5, hx5, hb5, hlc, hcm, hel, hi, hsp, _⟩
  · exact ⟨[], none, 0, by rw [e5]; rfl, ⟨by simp, by simp, fun i hi => by simp at hi⟩⟩
  · rw [e5]
    obtain ⟨hrl, hrj⟩ := hsp rfl
    have hbytes : cap * 168 ≤ 140737488351232 := by
      refine hw _ ?_
      rw [hx5]
      have hbo : Tryz.prog.bytesOf 56 = 168 := by kernel_rfl
      simp only [DataW.weights, Tryz.underlying30, List.length_map, hbo, List.mem_cons]
      left
      rw [hel, hrl]
      omega
    have hcell : ∀ i, i < cap → ∃ cs', W.cells? 0 (a.add (i * 11)) 11 = some cs' := fun i hic => by
      rcases Nat.lt_or_ge i len with h' | h'
      · have := hi i h'
        rw [List.getElem?_eq_getElem (by omega)] at this
        obtain ⟨cs', h1, h2⟩ := Option.bind_eq_some_iff.1 this
        rw [show Tryz.prog.cellsOf 56 = 11 from by kernel_rfl] at h1
        exact ⟨cs', h1⟩
      · have := hrj (i - len) (by omega)
        rw [List.getElem?_eq_getElem (by omega)] at this
        obtain ⟨cs', h1, h2⟩ := Option.bind_eq_some_iff.1 this
        rw [show Tryz.prog.cellsOf 56 = 11 from by kernel_rfl, show len + (i - len) = i by omega] at h1
        exact ⟨cs', h1⟩
    have hv' : ∀ i, i < len → ∃ v : Var, W.cells? 0 (a.add (i * 11)) 11 = some v.cells ∧ v.In W := fun i hil => by
      have := hi i hil
      rw [List.getElem?_eq_getElem (by omega)] at this
      obtain ⟨cs', h1, h2⟩ := Option.bind_eq_some_iff.1 this
      rw [show Tryz.prog.cellsOf 56 = 11 from by kernel_rfl] at h1
      obtain ⟨v, rfl, hvi⟩ := var_open n' cs' (elems[i]'(by omega)) (h2) (fun y hy => hw y (by
        rw [hx5]
        simp only [DataW.weights, Tryz.underlying30, List.mem_cons, List.mem_append]
        right; left
        exact weightsAll_mem (List.mem_map.2 ⟨_, List.getElem_mem _, rfl⟩) hy))
      exact ⟨v, h1, hvi⟩
    obtain ⟨xs, hxl, hxs⟩ := exists_list len hv'
    refine ⟨xs, some a, cap, by rw [hxl], ⟨by omega, by omega, fun i hi' => ?_⟩⟩
    obtain ⟨cs', hc'⟩ := hcell i (by omega)
    have h00 := (World.cells?_some (hxs 0 (by omega)).1).2.2 0 (by omega)
    have ha0 : (a.add (0 * 11)).add 0 = a := by simp [Addr.add]
    rw [ha0] at h00
    have h01 : W.cell? a = some (.string (xs[0]'(by omega)).n) := h00
    have hspot := cell_spot h01
    have hlt := cell_lt h01
    refine ⟨a.block, a.off, by rw [← hspot], fun j hj => ?_, hlt, (hxs i hi').2⟩
    obtain ⟨_, _, hat⟩ := World.cells?_some (hxs i hi').1
    have := hat j hj
    rw [Go.Deep.add_add, hspot, Addr.add_lit] at this
    rw [Nat.add_assoc]
    exact this
set_option maxRecDepth 100000 in
theorem arg_vars {v : Value} {base : Nat} (hk : Value.okWide Tryz.prog W .any base 30 v) {d : DataW H} {p : List MemPlace} (h : DataW.Trod enc Tryz.prog W 0 (fun _ => true) true 30 v d p)
    {ts : List TypeId} {ds : List (DataW H)} (j : Nat) (hsz : (DataW.weightsEach Tryz.prog ts ds).all (· ≤ reachBytes) = true) (ht : ts[j]? = some 30) (hd : ds[j]? = some d) :
    ∃ (vs : List Var) (p : Option Addr) (c : Nat), v = .slice p vs.length c ∧ VarsIn W p c vs := by
  obtain ⟨o, l, c, rfl⟩ := okWide_slice Tryz.underlying30 hk
  obtain ⟨fuel, hf⟩ := h
  obtain ⟨vs, p, c', he, hu⟩ := vars_open hf (fun y hy => by
    have := List.all_eq_true.1 hsz y (weightsEach_mem ht hd hy)
    exact of_decide_eq_true this)
  simp only [Value.cells] at he
  injection he with he _
  exact ⟨vs, p, c', he, hu⟩
end
end Go.Proofs.YtjpdbhhjlnmacaaGreat
