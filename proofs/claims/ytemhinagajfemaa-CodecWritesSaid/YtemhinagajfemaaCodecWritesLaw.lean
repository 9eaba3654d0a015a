/- Numbers, strings, values and types have the bytes that the document says. No conditions (printed by wip/gen_codecwrites.py). -/
import Derived.Test.YtemhinagajfemaaRefWrTy
import Derived.Test.YtemhinagajfemaaTyEncW
import Derived.Test.YtemhinagajfemaaTyOpen
import Derived.Test.YtemhinagajfemaaRefRight
import Derived.Test.YtemhinagajfemaaCodecAwake
import Derived.Test.YtemhinagajfemaaRow
import Derived.Deep.DeepCutAuto
namespace Go.Proofs.Ytemhinagajfemaa.codecWrites
set_option linter.unusedVariables false
open Go.RowKit Go.ChangeShapes Go.WideShapes Go.Deep
open Go.ChangeMaps (open_string shut_string)

theorem w64 (x : Int) : -9223372036854775808 ≤ wrap64 x ∧ wrap64 x ≤ 9223372036854775807 := by unfold wrap64; omega
def Tested (W : World) (n : Nat) (s : Value) (wx : World) : Prop := Below W.heap.size W wx ∧ (s = .bool true ∨ (s = .bool false ∧ n ≤ 500))
theorem enc1 (v : Val) {w : World} (h : v.In w) (hr : v.RightB = true) : v.rightB 1 = true ∧ v.enc.length + 20 ≤ 140737488355328 := by
  have hb := Val.enc_bound v hr h
  unfold Val.RightB at hr
  rw [Bool.and_eq_true] at hr
  exact ⟨hr.2, by omega⟩
theorem enc2 (v : Ty) {w : World} (h : v.In w) (hr : v.RightB = true) : v.rightB 1 = true ∧ v.enc.length + 20 ≤ 140737488355328 := by
  have hb := Ty.enc_bound v hr h
  unfold Ty.RightB at hr
  rw [Bool.and_eq_true] at hr
  exact ⟨hr.2, by omega⟩

set_option maxHeartbeats 16000000 in
set_option maxRecDepth 100000 in
theorem law_any (n : Nat) (s : ByteArray) (v : Val) (t : Ty) (w : World) (hn : n < 18446744073709551616) (hs : s.size ≤ 9223372036854775807) (hv : v.In w) (ht : t.In w) :
    Calls Try.prog 8 #[.int .u64 n, .string s, v.agg, t.agg] w fun e w' => TrueBelow w e w' := by
  obtain ⟨W, hW⟩ : ∃ W, W = (w.alloc (.cells v.cells.toArray 46)).alloc (.cells t.cells.toArray 61) := ⟨_, rfl⟩
  have hbW : Below w.heap.size w W := by rw [hW]; exact ((Below.refl _ _).alloc (Nat.le_refl _) _).alloc (by simp) _
  have hpv : Blk W w.heap.size 46 v.cells.toArray := by rw [hW]; exact (Blk.new w 46 _).alloc _
  have hpt : Blk W (w.heap.size + 1) 61 t.cells.toArray := by
    rw [hW]
    have := Blk.new (w.alloc (.cells v.cells.toArray 46)) 61 t.cells.toArray
    rw [show (w.alloc (.cells v.cells.toArray 46)).heap.size = w.heap.size + 1 from by simp] at this
    exact this
  have hvW := hv.below hbW
  have htW := ht.below hbW
  obtain ⟨p4, q4, e4⟩ := hv.nslice
  obtain ⟨p5, q5, e5⟩ := hv.xslice
  obtain ⟨r4, t4, f4⟩ := ht.nslice
  obtain ⟨r5, t5, f5⟩ := ht.xslice
  have hsm := fun (W' : World) (hb : Below W.heap.size W W') => small_any v W' (hvW.below hb)
  have hts := fun (W' : World) (hb : Below W.heap.size W W') => tsmall_any t W' (htW.below hb)
  have hva := fun (W' : World) (hb : Below W.heap.size W W') => value_any v W' (hvW.below hb)
  have hta := fun (W' : World) (hb : Below W.heap.size W W') => type_any t W' (htW.below hb)
  have hrv := fun (W' : World) (hb : Below W.heap.size W W') => rrightf_any v W' (hvW.below hb)
  have hrt := fun (W' : World) (hb : Below W.heap.size W W') => rtrightf_any t W' (htW.below hb)
  have hwv := fun (hr : v.RightB = true) (W' : World) (hb : Below W.heap.size W W') => rwvalue_any v.sz v 1 W' (Nat.le_refl _) (hvW.below hb) (enc1 v hvW hr).1 (enc1 v hvW hr).2
  have hwt := fun (hr : t.RightB = true) (W' : World) (hb : Below W.heap.size W W') => rwtype_any t.sz t 1 W' (Nat.le_refl _) (htW.below hb) (enc2 t htW hr).1 (enc2 t htW hr).2
  unfold Val.cells at hW hpv
  unfold Ty.cells at hW hpt
  simp only [Val.agg, Ty.agg, e4, e5, f4, f5] at hsm hts hva hta hrv hrt hwv hwt ⊢
  rw [e4, e5, f4, f5] at hW
  rw [e4, e5] at hpv
  rw [f4, f5] at hpt
  obtain ⟨SV, hSV⟩ : ∃ SV, SV = v.smallB := ⟨_, rfl⟩
  obtain ⟨ST, hST⟩ : ∃ ST, ST = t.smallB := ⟨_, rfl⟩
  rw [← hSV] at hsm
  rw [← hST] at hts
  clear hSV hST
  have HSM := Lib.hid hsm; have HTS := Lib.hid hts; have HVA := Lib.hid hva; have HTA := Lib.hid hta; have HRV := Lib.hid hrv; have HRT := Lib.hid hrt; have HWV := Lib.hid hwv; have HWT := Lib.hid hwt
  have HW := Lib.hid hW; have HBW := Lib.hid hbW; have HPV := Lib.hid hpv; have HPT := Lib.hid hpt
  have HN := Lib.hid hn
  have a0 := hpv.cell 0; have a1 := hpv.cell 1; have a2 := hpv.cell 2; have a3 := hpv.cell 3; have a4 := hpv.cell 4; have a5 := hpv.cell 5
  have b0 := hpt.cell 0; have b1 := hpt.cell 1; have b2 := hpt.cell 2
  simp only [List.getElem?_toArray, List.getElem?_cons_zero, List.getElem?_cons_succ] at a0 a1 a2 a3 a4 a5 b0 b1 b2
  clear hsm hts hva hta hrv hrt hwv hwt hW hbW hpv hpt hvW htW e4 e5 f4 f5 hv ht hn
  go_enter Try.func8, Try.ntmps8
  try simp only [lapp_cons, lapp_nil]
  go_upto_region 1 with fail
  rw [← HW.out]
  go_cut [29] (fun s29 wx => Tested W s.size s29 wx)
  case first =>
    go_wp2_with fail
    refine (awake05_any _).mono ?_
    rintro e w1 ⟨rfl, hl⟩
    have B1 := Lib.hid hl
    clear a0 a1 a2 a3 a4 a5 b0 b1 b2
    have qa := HPV.out.below B1.out HPV.out.lt
    have qb := HPT.out.below B1.out HPT.out.lt
    have a0 := qa.cell 0; have a1 := qa.cell 1; have a2 := qa.cell 2; have a3 := qa.cell 3; have a4 := qa.cell 4; have a5 := qa.cell 5
    have b0 := qb.cell 0; have b1 := qb.cell 1; have b2 := qb.cell 2
    simp only [List.getElem?_toArray, List.getElem?_cons_zero, List.getElem?_cons_succ] at a0 a1 a2 a3 a4 a5 b0 b1 b2
    clear qa qb
    clear hl
    by_cases h5 : s.size ≤ 500
    case neg =>
      have t1 : decide ((500 : Int) < (s.size : Int)) = true := by simp; omega
      go_wp2_with fail
      go_meet
      exact ⟨B1.out, .inl rfl⟩
    have t1 : decide ((500 : Int) < (s.size : Int)) = false := by simp; omega
    go_wp2_with fail
    refine (HSM.out _ B1.out).mono ?_
    rintro e w2 ⟨rfl, hl⟩
    have B2 := Lib.hid (B1.out.trans (hl.mono B1.out.size))
    clear a0 a1 a2 a3 a4 a5 b0 b1 b2
    have qa := HPV.out.below B2.out HPV.out.lt
    have qb := HPT.out.below B2.out HPT.out.lt
    have a0 := qa.cell 0; have a1 := qa.cell 1; have a2 := qa.cell 2; have a3 := qa.cell 3; have a4 := qa.cell 4; have a5 := qa.cell 5
    have b0 := qb.cell 0; have b1 := qb.cell 1; have b2 := qb.cell 2
    simp only [List.getElem?_toArray, List.getElem?_cons_zero, List.getElem?_cons_succ] at a0 a1 a2 a3 a4 a5 b0 b1 b2
    clear qa qb
    clear hl
    cases SV with
    | false =>
      go_wp2_with fail
      go_meet
      exact ⟨B2.out, .inl rfl⟩
    | true =>
      go_wp2_with fail
      refine (HTS.out _ B2.out).mono ?_
      rintro e w3 ⟨rfl, hl⟩
      have B3 := Lib.hid (B2.out.trans (hl.mono B2.out.size))
      clear hl
      cases ST with
      | false =>
        go_wp2_with fail
        go_meet
        exact ⟨B3.out, .inl rfl⟩
      | true =>
        go_wp2_with fail
        go_meet
        exact ⟨B3.out, .inr ⟨rfl, by omega⟩⟩
  case rest =>
  obtain ⟨B0, rfl | ⟨rfl, h5⟩⟩ := hcut
  · have HB0 := Lib.hid B0
    clear B0
    go_wp2_with fail
    refine (awake05_any _).mono ?_
    rintro e w1 ⟨rfl, hl⟩
    have B1 := Lib.hid (HB0.out.trans (hl.mono HB0.out.size))
    clear hl
    go_wp2
    go_ret
    exact ⟨rfl, HBW.out.trans (B1.out.mono HBW.out.size)⟩
  have HB0 := Lib.hid B0
  clear B0
  clear a0 a1 a2 a3 a4 a5 b0 b1 b2
  have qa := HPV.out.below HB0.out HPV.out.lt
  have qb := HPT.out.below HB0.out HPT.out.lt
  have a0 := qa.cell 0; have a1 := qa.cell 1; have a2 := qa.cell 2; have a3 := qa.cell 3; have a4 := qa.cell 4; have a5 := qa.cell 5
  have b0 := qb.cell 0; have b1 := qb.cell 1; have b2 := qb.cell 2
  simp only [List.getElem?_toArray, List.getElem?_cons_zero, List.getElem?_cons_succ] at a0 a1 a2 a3 a4 a5 b0 b1 b2
  clear qa qb
  obtain ⟨R, hR⟩ : ∃ R, R = v.RightB := ⟨_, rfl⟩
  obtain ⟨Q, hQ⟩ : ∃ Q, Q = t.RightB := ⟨_, rfl⟩
  rw [← hR] at HVA HRV HWV
  rw [← hQ] at HTA HRT HWT
  have hsE := strB_size v.enc
  have hsT := strB_size t.enc
  have HSE := Lib.hid hsE; have HST := Lib.hid hsT
  clear hR hQ hsE hsT HSM HTS
  obtain ⟨EV, hEV⟩ : ∃ EV, EV = strB v.enc := ⟨_, rfl⟩
  obtain ⟨ET, hET⟩ : ∃ ET, ET = strB t.enc := ⟨_, rfl⟩
  have hevd : (⟨v.enc.toArray⟩ : ByteArray) = EV := by rw [hEV]; rfl
  have hetd : (⟨t.enc.toArray⟩ : ByteArray) = ET := by rw [hET]; rfl
  simp only [ValuedOr, hevd] at HVA
  simp only [ValuedOr, hetd] at HTA
  rw [← hEV] at HWV
  rw [← hET] at HWT
  clear hevd hetd hEV hET HSE HST
  cases R with
  | true =>
    cases Q with
    | true =>
      simp only [cond_true, cond_false] at HVA HTA
      go_wp2_with fail
      refine (HVA.out _ HB0.out).mono ?_
      rintro e w1 ⟨rfl, hl⟩
      have C1 := Lib.hid (HB0.out.trans (hl.mono HB0.out.size))
      clear hl
      clear a0 a1 a2 a3 a4 a5 b0 b1 b2
      have qa := HPV.out.below C1.out HPV.out.lt
      have qb := HPT.out.below C1.out HPT.out.lt
      have a0 := qa.cell 0; have a1 := qa.cell 1; have a2 := qa.cell 2; have a3 := qa.cell 3; have a4 := qa.cell 4; have a5 := qa.cell 5
      have b0 := qb.cell 0; have b1 := qb.cell 1; have b2 := qb.cell 2
      simp only [List.getElem?_toArray, List.getElem?_cons_zero, List.getElem?_cons_succ] at a0 a1 a2 a3 a4 a5 b0 b1 b2
      clear qa qb
      go_wp2_with fail
      refine (HTA.out _ C1.out).mono ?_
      rintro e w2 ⟨rfl, hl⟩
      have C2 := Lib.hid (C1.out.trans (hl.mono C1.out.size))
      clear hl
      clear a0 a1 a2 a3 a4 a5 b0 b1 b2
      have qa := HPV.out.below C2.out HPV.out.lt
      have qb := HPT.out.below C2.out HPT.out.lt
      have a0 := qa.cell 0; have a1 := qa.cell 1; have a2 := qa.cell 2; have a3 := qa.cell 3; have a4 := qa.cell 4; have a5 := qa.cell 5
      have b0 := qb.cell 0; have b1 := qb.cell 1; have b2 := qb.cell 2
      simp only [List.getElem?_toArray, List.getElem?_cons_zero, List.getElem?_cons_succ] at a0 a1 a2 a3 a4 a5 b0 b1 b2
      clear qa qb
      go_wp2_with fail
      refine (HRV.out _ C2.out).mono ?_
      rintro e w3 ⟨rfl, hl⟩
      have C3 := Lib.hid (C2.out.trans (hl.mono C2.out.size))
      clear hl
      clear a0 a1 a2 a3 a4 a5 b0 b1 b2
      have qa := HPV.out.below C3.out HPV.out.lt
      have qb := HPT.out.below C3.out HPT.out.lt
      have a0 := qa.cell 0; have a1 := qa.cell 1; have a2 := qa.cell 2; have a3 := qa.cell 3; have a4 := qa.cell 4; have a5 := qa.cell 5
      have b0 := qb.cell 0; have b1 := qb.cell 1; have b2 := qb.cell 2
      simp only [List.getElem?_toArray, List.getElem?_cons_zero, List.getElem?_cons_succ] at a0 a1 a2 a3 a4 a5 b0 b1 b2
      clear qa qb
      go_wp2_with fail
      refine (HRT.out _ C3.out).mono ?_
      rintro e w4 ⟨rfl, hl⟩
      have C4 := Lib.hid (C3.out.trans (hl.mono C3.out.size))
      clear hl
      clear a0 a1 a2 a3 a4 a5 b0 b1 b2
      have qa := HPV.out.below C4.out HPV.out.lt
      have qb := HPT.out.below C4.out HPT.out.lt
      have a0 := qa.cell 0; have a1 := qa.cell 1; have a2 := qa.cell 2; have a3 := qa.cell 3; have a4 := qa.cell 4; have a5 := qa.cell 5
      have b0 := qb.cell 0; have b1 := qb.cell 1; have b2 := qb.cell 2
      simp only [List.getElem?_toArray, List.getElem?_cons_zero, List.getElem?_cons_succ] at a0 a1 a2 a3 a4 a5 b0 b1 b2
      clear qa qb
      go_wp2_with fail
      refine (HWV.out trivial _ C4.out).mono ?_
      rintro e w5 ⟨rfl, hl⟩
      have C5 := Lib.hid (C4.out.trans (hl.mono C4.out.size))
      clear hl
      clear a0 a1 a2 a3 a4 a5 b0 b1 b2
      have qa := HPV.out.below C5.out HPV.out.lt
      have qb := HPT.out.below C5.out HPT.out.lt
      have a0 := qa.cell 0; have a1 := qa.cell 1; have a2 := qa.cell 2; have a3 := qa.cell 3; have a4 := qa.cell 4; have a5 := qa.cell 5
      have b0 := qb.cell 0; have b1 := qb.cell 1; have b2 := qb.cell 2
      simp only [List.getElem?_toArray, List.getElem?_cons_zero, List.getElem?_cons_succ] at a0 a1 a2 a3 a4 a5 b0 b1 b2
      clear qa qb
      go_wp2_with fail
      refine (HWT.out trivial _ C5.out).mono ?_
      rintro e w6 ⟨rfl, hl⟩
      have C6 := Lib.hid (C5.out.trans (hl.mono C5.out.size))
      clear hl
      clear a0 a1 a2 a3 a4 a5 b0 b1 b2
      have qa := HPV.out.below C6.out HPV.out.lt
      have qb := HPT.out.below C6.out HPT.out.lt
      have a0 := qa.cell 0; have a1 := qa.cell 1; have a2 := qa.cell 2; have a3 := qa.cell 3; have a4 := qa.cell 4; have a5 := qa.cell 5
      have b0 := qb.cell 0; have b1 := qb.cell 1; have b2 := qb.cell 2
      simp only [List.getElem?_toArray, List.getElem?_cons_zero, List.getElem?_cons_succ] at a0 a1 a2 a3 a4 a5 b0 b1 b2
      clear qa qb
      clear a0 a1 a2 a3 a4 a5 b0 b1 b2
      go_wp2_with fail
      refine (uint_any n _ HN.out).mono ?_
      rintro e x0 ⟨rfl, hl⟩
      have D0 := Lib.hid (C6.out.trans (hl.mono C6.out.size))
      clear hl
      go_wp2_with fail
      refine (wuint5_any n _ HN.out).mono ?_
      rintro e x1 ⟨rfl, hl⟩
      have D1 := Lib.hid (D0.out.trans (hl.mono D0.out.size))
      clear hl
      go_wp2_with fail
      refine (int_any _ _ (w64 _).1 (w64 _).2).mono ?_
      rintro e x2 ⟨rfl, hl⟩
      have D2 := Lib.hid (D1.out.trans (hl.mono D1.out.size))
      clear hl
      go_wp2_with fail
      refine (wint5_any _ _ (w64 _).1 (w64 _).2).mono ?_
      rintro e x3 ⟨rfl, hl⟩
      have D3 := Lib.hid (D2.out.trans (hl.mono D2.out.size))
      clear hl
      go_wp2_with fail
      refine (str_any s _ (by omega)).mono ?_
      rintro e x4 ⟨rfl, hl⟩
      have D4 := Lib.hid (D3.out.trans (hl.mono D3.out.size))
      clear hl
      go_wp2_with fail
      refine (wstr5_any s _ (by omega)).mono ?_
      rintro e x5 ⟨rfl, hl⟩
      have D5 := Lib.hid (D4.out.trans (hl.mono D4.out.size))
      clear hl
      go_wp2
      go_ret
      exact ⟨by simp, HBW.out.trans (D5.out.mono HBW.out.size)⟩
    | false =>
      simp only [cond_true, cond_false] at HVA HTA
      go_wp2_with fail
      refine (HVA.out _ HB0.out).mono ?_
      rintro e w1 ⟨rfl, hl⟩
      have C1 := Lib.hid (HB0.out.trans (hl.mono HB0.out.size))
      clear hl
      clear a0 a1 a2 a3 a4 a5 b0 b1 b2
      have qa := HPV.out.below C1.out HPV.out.lt
      have qb := HPT.out.below C1.out HPT.out.lt
      have a0 := qa.cell 0; have a1 := qa.cell 1; have a2 := qa.cell 2; have a3 := qa.cell 3; have a4 := qa.cell 4; have a5 := qa.cell 5
      have b0 := qb.cell 0; have b1 := qb.cell 1; have b2 := qb.cell 2
      simp only [List.getElem?_toArray, List.getElem?_cons_zero, List.getElem?_cons_succ] at a0 a1 a2 a3 a4 a5 b0 b1 b2
      clear qa qb
      go_wp2_with fail
      refine (HTA.out _ C1.out).mono ?_
      rintro e w2 ⟨rfl, hl⟩
      have C2 := Lib.hid (C1.out.trans (hl.mono C1.out.size))
      clear hl
      clear a0 a1 a2 a3 a4 a5 b0 b1 b2
      have qa := HPV.out.below C2.out HPV.out.lt
      have qb := HPT.out.below C2.out HPT.out.lt
      have a0 := qa.cell 0; have a1 := qa.cell 1; have a2 := qa.cell 2; have a3 := qa.cell 3; have a4 := qa.cell 4; have a5 := qa.cell 5
      have b0 := qb.cell 0; have b1 := qb.cell 1; have b2 := qb.cell 2
      simp only [List.getElem?_toArray, List.getElem?_cons_zero, List.getElem?_cons_succ] at a0 a1 a2 a3 a4 a5 b0 b1 b2
      clear qa qb
      go_wp2_with fail
      refine (HRV.out _ C2.out).mono ?_
      rintro e w3 ⟨rfl, hl⟩
      have C3 := Lib.hid (C2.out.trans (hl.mono C2.out.size))
      clear hl
      clear a0 a1 a2 a3 a4 a5 b0 b1 b2
      have qa := HPV.out.below C3.out HPV.out.lt
      have qb := HPT.out.below C3.out HPT.out.lt
      have a0 := qa.cell 0; have a1 := qa.cell 1; have a2 := qa.cell 2; have a3 := qa.cell 3; have a4 := qa.cell 4; have a5 := qa.cell 5
      have b0 := qb.cell 0; have b1 := qb.cell 1; have b2 := qb.cell 2
      simp only [List.getElem?_toArray, List.getElem?_cons_zero, List.getElem?_cons_succ] at a0 a1 a2 a3 a4 a5 b0 b1 b2
      clear qa qb
      go_wp2_with fail
      refine (HRT.out _ C3.out).mono ?_
      rintro e w4 ⟨rfl, hl⟩
      have C4 := Lib.hid (C3.out.trans (hl.mono C3.out.size))
      clear hl
      clear a0 a1 a2 a3 a4 a5 b0 b1 b2
      have qa := HPV.out.below C4.out HPV.out.lt
      have qb := HPT.out.below C4.out HPT.out.lt
      have a0 := qa.cell 0; have a1 := qa.cell 1; have a2 := qa.cell 2; have a3 := qa.cell 3; have a4 := qa.cell 4; have a5 := qa.cell 5
      have b0 := qb.cell 0; have b1 := qb.cell 1; have b2 := qb.cell 2
      simp only [List.getElem?_toArray, List.getElem?_cons_zero, List.getElem?_cons_succ] at a0 a1 a2 a3 a4 a5 b0 b1 b2
      clear qa qb
      go_wp2_with fail
      refine (HWV.out trivial _ C4.out).mono ?_
      rintro e w5 ⟨rfl, hl⟩
      have C5 := Lib.hid (C4.out.trans (hl.mono C4.out.size))
      clear hl
      clear a0 a1 a2 a3 a4 a5 b0 b1 b2
      have qa := HPV.out.below C5.out HPV.out.lt
      have qb := HPT.out.below C5.out HPT.out.lt
      have a0 := qa.cell 0; have a1 := qa.cell 1; have a2 := qa.cell 2; have a3 := qa.cell 3; have a4 := qa.cell 4; have a5 := qa.cell 5
      have b0 := qb.cell 0; have b1 := qb.cell 1; have b2 := qb.cell 2
      simp only [List.getElem?_toArray, List.getElem?_cons_zero, List.getElem?_cons_succ] at a0 a1 a2 a3 a4 a5 b0 b1 b2
      clear qa qb
      clear a0 a1 a2 a3 a4 a5 b0 b1 b2
      go_wp2_with fail
      refine (uint_any n _ HN.out).mono ?_
      rintro e x0 ⟨rfl, hl⟩
      have D0 := Lib.hid (C5.out.trans (hl.mono C5.out.size))
      clear hl
      go_wp2_with fail
      refine (wuint5_any n _ HN.out).mono ?_
      rintro e x1 ⟨rfl, hl⟩
      have D1 := Lib.hid (D0.out.trans (hl.mono D0.out.size))
      clear hl
      go_wp2_with fail
      refine (int_any _ _ (w64 _).1 (w64 _).2).mono ?_
      rintro e x2 ⟨rfl, hl⟩
      have D2 := Lib.hid (D1.out.trans (hl.mono D1.out.size))
      clear hl
      go_wp2_with fail
      refine (wint5_any _ _ (w64 _).1 (w64 _).2).mono ?_
      rintro e x3 ⟨rfl, hl⟩
      have D3 := Lib.hid (D2.out.trans (hl.mono D2.out.size))
      clear hl
      go_wp2_with fail
      refine (str_any s _ (by omega)).mono ?_
      rintro e x4 ⟨rfl, hl⟩
      have D4 := Lib.hid (D3.out.trans (hl.mono D3.out.size))
      clear hl
      go_wp2_with fail
      refine (wstr5_any s _ (by omega)).mono ?_
      rintro e x5 ⟨rfl, hl⟩
      have D5 := Lib.hid (D4.out.trans (hl.mono D4.out.size))
      clear hl
      go_wp2
      go_ret
      exact ⟨by simp, HBW.out.trans (D5.out.mono HBW.out.size)⟩
  | false =>
    cases Q with
    | true =>
      simp only [cond_true, cond_false] at HVA HTA
      go_wp2_with fail
      refine (HVA.out _ HB0.out).mono ?_
      rintro e w1 ⟨rfl, hl⟩
      have C1 := Lib.hid (HB0.out.trans (hl.mono HB0.out.size))
      clear hl
      clear a0 a1 a2 a3 a4 a5 b0 b1 b2
      have qa := HPV.out.below C1.out HPV.out.lt
      have qb := HPT.out.below C1.out HPT.out.lt
      have a0 := qa.cell 0; have a1 := qa.cell 1; have a2 := qa.cell 2; have a3 := qa.cell 3; have a4 := qa.cell 4; have a5 := qa.cell 5
      have b0 := qb.cell 0; have b1 := qb.cell 1; have b2 := qb.cell 2
      simp only [List.getElem?_toArray, List.getElem?_cons_zero, List.getElem?_cons_succ] at a0 a1 a2 a3 a4 a5 b0 b1 b2
      clear qa qb
      go_wp2_with fail
      refine (HTA.out _ C1.out).mono ?_
      rintro e w2 ⟨rfl, hl⟩
      have C2 := Lib.hid (C1.out.trans (hl.mono C1.out.size))
      clear hl
      clear a0 a1 a2 a3 a4 a5 b0 b1 b2
      have qa := HPV.out.below C2.out HPV.out.lt
      have qb := HPT.out.below C2.out HPT.out.lt
      have a0 := qa.cell 0; have a1 := qa.cell 1; have a2 := qa.cell 2; have a3 := qa.cell 3; have a4 := qa.cell 4; have a5 := qa.cell 5
      have b0 := qb.cell 0; have b1 := qb.cell 1; have b2 := qb.cell 2
      simp only [List.getElem?_toArray, List.getElem?_cons_zero, List.getElem?_cons_succ] at a0 a1 a2 a3 a4 a5 b0 b1 b2
      clear qa qb
      go_wp2_with fail
      refine (HRV.out _ C2.out).mono ?_
      rintro e w3 ⟨rfl, hl⟩
      have C3 := Lib.hid (C2.out.trans (hl.mono C2.out.size))
      clear hl
      clear a0 a1 a2 a3 a4 a5 b0 b1 b2
      have qa := HPV.out.below C3.out HPV.out.lt
      have qb := HPT.out.below C3.out HPT.out.lt
      have a0 := qa.cell 0; have a1 := qa.cell 1; have a2 := qa.cell 2; have a3 := qa.cell 3; have a4 := qa.cell 4; have a5 := qa.cell 5
      have b0 := qb.cell 0; have b1 := qb.cell 1; have b2 := qb.cell 2
      simp only [List.getElem?_toArray, List.getElem?_cons_zero, List.getElem?_cons_succ] at a0 a1 a2 a3 a4 a5 b0 b1 b2
      clear qa qb
      go_wp2_with fail
      refine (HRT.out _ C3.out).mono ?_
      rintro e w4 ⟨rfl, hl⟩
      have C4 := Lib.hid (C3.out.trans (hl.mono C3.out.size))
      clear hl
      clear a0 a1 a2 a3 a4 a5 b0 b1 b2
      have qa := HPV.out.below C4.out HPV.out.lt
      have qb := HPT.out.below C4.out HPT.out.lt
      have a0 := qa.cell 0; have a1 := qa.cell 1; have a2 := qa.cell 2; have a3 := qa.cell 3; have a4 := qa.cell 4; have a5 := qa.cell 5
      have b0 := qb.cell 0; have b1 := qb.cell 1; have b2 := qb.cell 2
      simp only [List.getElem?_toArray, List.getElem?_cons_zero, List.getElem?_cons_succ] at a0 a1 a2 a3 a4 a5 b0 b1 b2
      clear qa qb
      go_wp2_with fail
      refine (HWT.out trivial _ C4.out).mono ?_
      rintro e w6 ⟨rfl, hl⟩
      have C6 := Lib.hid (C4.out.trans (hl.mono C4.out.size))
      clear hl
      clear a0 a1 a2 a3 a4 a5 b0 b1 b2
      have qa := HPV.out.below C6.out HPV.out.lt
      have qb := HPT.out.below C6.out HPT.out.lt
      have a0 := qa.cell 0; have a1 := qa.cell 1; have a2 := qa.cell 2; have a3 := qa.cell 3; have a4 := qa.cell 4; have a5 := qa.cell 5
      have b0 := qb.cell 0; have b1 := qb.cell 1; have b2 := qb.cell 2
      simp only [List.getElem?_toArray, List.getElem?_cons_zero, List.getElem?_cons_succ] at a0 a1 a2 a3 a4 a5 b0 b1 b2
      clear qa qb
      clear a0 a1 a2 a3 a4 a5 b0 b1 b2
      go_wp2_with fail
      refine (uint_any n _ HN.out).mono ?_
      rintro e x0 ⟨rfl, hl⟩
      have D0 := Lib.hid (C6.out.trans (hl.mono C6.out.size))
      clear hl
      go_wp2_with fail
      refine (wuint5_any n _ HN.out).mono ?_
      rintro e x1 ⟨rfl, hl⟩
      have D1 := Lib.hid (D0.out.trans (hl.mono D0.out.size))
      clear hl
      go_wp2_with fail
      refine (int_any _ _ (w64 _).1 (w64 _).2).mono ?_
      rintro e x2 ⟨rfl, hl⟩
      have D2 := Lib.hid (D1.out.trans (hl.mono D1.out.size))
      clear hl
      go_wp2_with fail
      refine (wint5_any _ _ (w64 _).1 (w64 _).2).mono ?_
      rintro e x3 ⟨rfl, hl⟩
      have D3 := Lib.hid (D2.out.trans (hl.mono D2.out.size))
      clear hl
      go_wp2_with fail
      refine (str_any s _ (by omega)).mono ?_
      rintro e x4 ⟨rfl, hl⟩
      have D4 := Lib.hid (D3.out.trans (hl.mono D3.out.size))
      clear hl
      go_wp2_with fail
      refine (wstr5_any s _ (by omega)).mono ?_
      rintro e x5 ⟨rfl, hl⟩
      have D5 := Lib.hid (D4.out.trans (hl.mono D4.out.size))
      clear hl
      go_wp2
      go_ret
      exact ⟨by simp, HBW.out.trans (D5.out.mono HBW.out.size)⟩
    | false =>
      simp only [cond_true, cond_false] at HVA HTA
      go_wp2_with fail
      refine (HVA.out _ HB0.out).mono ?_
      rintro e w1 ⟨rfl, hl⟩
      have C1 := Lib.hid (HB0.out.trans (hl.mono HB0.out.size))
      clear hl
      clear a0 a1 a2 a3 a4 a5 b0 b1 b2
      have qa := HPV.out.below C1.out HPV.out.lt
      have qb := HPT.out.below C1.out HPT.out.lt
      have a0 := qa.cell 0; have a1 := qa.cell 1; have a2 := qa.cell 2; have a3 := qa.cell 3; have a4 := qa.cell 4; have a5 := qa.cell 5
      have b0 := qb.cell 0; have b1 := qb.cell 1; have b2 := qb.cell 2
      simp only [List.getElem?_toArray, List.getElem?_cons_zero, List.getElem?_cons_succ] at a0 a1 a2 a3 a4 a5 b0 b1 b2
      clear qa qb
      go_wp2_with fail
      refine (HTA.out _ C1.out).mono ?_
      rintro e w2 ⟨rfl, hl⟩
      have C2 := Lib.hid (C1.out.trans (hl.mono C1.out.size))
      clear hl
      clear a0 a1 a2 a3 a4 a5 b0 b1 b2
      have qa := HPV.out.below C2.out HPV.out.lt
      have qb := HPT.out.below C2.out HPT.out.lt
      have a0 := qa.cell 0; have a1 := qa.cell 1; have a2 := qa.cell 2; have a3 := qa.cell 3; have a4 := qa.cell 4; have a5 := qa.cell 5
      have b0 := qb.cell 0; have b1 := qb.cell 1; have b2 := qb.cell 2
      simp only [List.getElem?_toArray, List.getElem?_cons_zero, List.getElem?_cons_succ] at a0 a1 a2 a3 a4 a5 b0 b1 b2
      clear qa qb
      go_wp2_with fail
      refine (HRV.out _ C2.out).mono ?_
      rintro e w3 ⟨rfl, hl⟩
      have C3 := Lib.hid (C2.out.trans (hl.mono C2.out.size))
      clear hl
      clear a0 a1 a2 a3 a4 a5 b0 b1 b2
      have qa := HPV.out.below C3.out HPV.out.lt
      have qb := HPT.out.below C3.out HPT.out.lt
      have a0 := qa.cell 0; have a1 := qa.cell 1; have a2 := qa.cell 2; have a3 := qa.cell 3; have a4 := qa.cell 4; have a5 := qa.cell 5
      have b0 := qb.cell 0; have b1 := qb.cell 1; have b2 := qb.cell 2
      simp only [List.getElem?_toArray, List.getElem?_cons_zero, List.getElem?_cons_succ] at a0 a1 a2 a3 a4 a5 b0 b1 b2
      clear qa qb
      go_wp2_with fail
      refine (HRT.out _ C3.out).mono ?_
      rintro e w4 ⟨rfl, hl⟩
      have C4 := Lib.hid (C3.out.trans (hl.mono C3.out.size))
      clear hl
      clear a0 a1 a2 a3 a4 a5 b0 b1 b2
      have qa := HPV.out.below C4.out HPV.out.lt
      have qb := HPT.out.below C4.out HPT.out.lt
      have a0 := qa.cell 0; have a1 := qa.cell 1; have a2 := qa.cell 2; have a3 := qa.cell 3; have a4 := qa.cell 4; have a5 := qa.cell 5
      have b0 := qb.cell 0; have b1 := qb.cell 1; have b2 := qb.cell 2
      simp only [List.getElem?_toArray, List.getElem?_cons_zero, List.getElem?_cons_succ] at a0 a1 a2 a3 a4 a5 b0 b1 b2
      clear qa qb
      clear a0 a1 a2 a3 a4 a5 b0 b1 b2
      go_wp2_with fail
      refine (uint_any n _ HN.out).mono ?_
      rintro e x0 ⟨rfl, hl⟩
      have D0 := Lib.hid (C4.out.trans (hl.mono C4.out.size))
      clear hl
      go_wp2_with fail
      refine (wuint5_any n _ HN.out).mono ?_
      rintro e x1 ⟨rfl, hl⟩
      have D1 := Lib.hid (D0.out.trans (hl.mono D0.out.size))
      clear hl
      go_wp2_with fail
      refine (int_any _ _ (w64 _).1 (w64 _).2).mono ?_
      rintro e x2 ⟨rfl, hl⟩
      have D2 := Lib.hid (D1.out.trans (hl.mono D1.out.size))
      clear hl
      go_wp2_with fail
      refine (wint5_any _ _ (w64 _).1 (w64 _).2).mono ?_
      rintro e x3 ⟨rfl, hl⟩
      have D3 := Lib.hid (D2.out.trans (hl.mono D2.out.size))
      clear hl
      go_wp2_with fail
      refine (str_any s _ (by omega)).mono ?_
      rintro e x4 ⟨rfl, hl⟩
      have D4 := Lib.hid (D3.out.trans (hl.mono D3.out.size))
      clear hl
      go_wp2_with fail
      refine (wstr5_any s _ (by omega)).mono ?_
      rintro e x5 ⟨rfl, hl⟩
      have D5 := Lib.hid (D4.out.trans (hl.mono D4.out.size))
      clear hl
      go_wp2
      go_ret
      exact ⟨by simp, HBW.out.trans (D5.out.mono HBW.out.size)⟩

set_option maxRecDepth 100000 in
theorem walk {H : Type} {enc : TypeId × Value → H} {W : World} {base : Nat} {args : Array Value} {ds : List (DataW H)} {ps : List MemPlace}
    (h : Handed enc Try.prog W base Try.f8.params.toList args ds ps) : Calls Try.prog 8 args W fun e w' => TrueBelow W e w' := by
  rw [Try.params8] at h
  have hval := h.val
  obtain ⟨v0, vs0, d0, ds0, p0, q0, hargs, rfl, rfl, h0, r0⟩ := trodAll_cons h.trod
  obtain ⟨v1, vs1, d1, ds1, p1, q1, rfl, rfl, rfl, h1, r1⟩ := trodAll_cons r0
  obtain ⟨v2, vs2, d2, ds2, p2, q2, rfl, rfl, rfl, h2, r2⟩ := trodAll_cons r1
  obtain ⟨v3, vs3, d3, ds3, p3, q3, rfl, rfl, rfl, h3, r3⟩ := trodAll_cons r2
  obtain ⟨rfl, rfl, rfl⟩ := trodAll_nil r3
  obtain rfl : args = #[v0, v1, v2, v3] := by cases args; simp_all
  obtain ⟨n, rfl, e0, _, wn⟩ := open_int Try.underlying22 (hval 0 22 v0 rfl rfl) h0
  obtain ⟨s, rfl, rfl, rfl, ws⟩ := open_string Try.underlying9 (hval 1 9 v1 rfl rfl) h1
  have hv2 := hval 2 46 v2 rfl rfl
  unfold Value.okWide at hv2
  rw [Try.underlying46] at hv2
  obtain ⟨cs2, he2, _⟩ := hv2
  have hv3 := hval 3 61 v3 rfl rfl
  unfold Value.okWide at hv3
  rw [Try.underlying61] at hv3
  obtain ⟨cs3, he3, _⟩ := hv3
  obtain ⟨v, rfl, hv⟩ := arg_val he2 h2 2 h.fits rfl rfl
  obtain ⟨t, rfl, ht⟩ := arg_ty he3 h3 3 h.fits rfl rfl
  have hn : 0 ≤ n ∧ n ≤ 18446744073709551615 := by
    simp only [Lit.wf, Bool.and_eq_true, decide_eq_true_eq] at wn
    have e1 : IntKind.u64.min = 0 := by decide
    have e2 : IntKind.u64.max = 18446744073709551615 := by decide
    rw [e1, e2] at wn
    omega
  obtain ⟨k, rfl⟩ : ∃ k : Nat, n = (k : Int) := ⟨n.toNat, by omega⟩
  exact law_any k s v t W (by omega) (by unfold maxLen at ws; omega) hv ht


set_option maxRecDepth 100000 in
theorem lifted (os : Os) (started : os.Started) (H : Type) (enc : TypeId × Value → H) :
    ReturnsInHanded {} Try.checked os 8 .any (Rows.codecWritesSpec.pre6 enc Try.prog Try.f8 Rows.codecWritesRow.domain false) (Rows.codecWritesSpec.post enc Try.prog Try.f8 false true false false) := by
  refine returnsInHanded_of_change_sized (C := Try.checked) own started (by kernel_rfl) Try.func8
    (ChangeSpec.witness6 (enc := enc) (C := Try.checked) false ⟨#[], #[.int .u64 0, .string ByteArray.empty, .agg #[.int .i64 0, .int .i64 0, .float .f64 0, .string ByteArray.empty, .slice none 0 0, .slice none 0 0], .agg #[.int .i64 0, .slice none 0 0, .slice none 0 0]], []⟩ 8 (by kernel_rfl) (by kernel_rfl) (by kernel_rfl) (by kernel_rfl)) ?_
  intro W base args ds gs before hval hW _ hsz _
  refine (walk (handed_of hval hW rfl rfl hsz)).mono fun e W' ⟨he, hb⟩ => ?_
  subst he
  exact ⟨_, rfl, law_post hW rfl laidOut (by kernel_rfl) rfl Try.underlying4 (fun ds' h => by match ds', h with | [_, _, _, _], _ => rfl) hb⟩

theorem over : Rows.codecWritesRow.holds Try.pinned (OpenSpec.ofChange Rows.codecWritesSpec) :=
  OpenClaim.holds_of_wide 8 Try.f8 rfl rfl rfl rfl rfl rfl rfl ⟨rfl, rfl, rfl, rfl, rfl⟩ rfl rfl rfl rfl rfl (by kernel_rfl) Try.func8 (by kernel_rfl)
    (of_decide_eq_true (by kernel_rfl)) (by unfold Func.isWrapper; first | (rw [if_pos (by decide +kernel)]; kernel_rfl) | (rw [if_neg (by decide +kernel)]; exact ⟨rfl, rfl⟩))
    (fun os started H enc _ => lifted os started H enc)

theorem proved : Rows.CodecWritesSaid :=
  over
#print axioms proved
end Go.Proofs.Ytemhinagajfemaa.codecWrites
