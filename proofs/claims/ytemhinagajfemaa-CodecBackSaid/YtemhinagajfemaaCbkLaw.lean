/- What is written is read as it was, whatever stands ahead and behind; cut off anywhere it is none. No conditions (printed by wip/gen_codecback.py). -/
import Derived.Test.YtemhinagajfemaaCbkM11
import Derived.Test.YtemhinagajfemaaCbkM46
import Derived.Test.YtemhinagajfemaaCbkM48
import Derived.Test.YtemhinagajfemaaCbkM43
import Derived.Test.YtemhinagajfemaaCbkM49
import Derived.Test.YtemhinagajfemaaCbkM52
import Derived.Test.YtemhinagajfemaaCbkM39
import Derived.Test.YtemhinagajfemaaCbkM45
import Derived.Test.YtemhinagajfemaaCbkM53
import Derived.Test.YtemhinagajfemaaCbkM6
import Derived.Deep.DeepCutAuto
namespace Go.Proofs.Ytemhinagajfemaa.codecBack
set_option linter.unusedVariables false
open Go.RowKit Go.ChangeShapes Go.WideShapes
open Go.ChangeMaps (open_string shut_string)

theorem from_join (a b c : ByteArray) : from_ (a ++ b ++ c) a.size = b.data.toList ++ c.data.toList := by
  unfold from_
  rw [ByteArray.data_append, ByteArray.data_append, Array.toList_append, Array.toList_append, List.append_assoc, ← size_list a, List.drop_left]
theorem from_take (b : ByteArray) (k : Nat) : from_ (b.extract 0 k) 0 = b.data.toList.take k := by
  unfold from_
  rw [ByteArray.data_extract, Array.toList_extract, List.extract_eq_take_drop]
  simp
theorem back_val {v : Val} {w : World} (h : v.In w) (hr : v.RightB = true) (a b c : ByteArray) (hb : b.data.toList = v.enc) :
    ∃ u : Val, readVAt (a ++ b ++ c) (a.size : Int) = .ok (u, a.size + b.size) ∧ u.nf = v.nf ∧ u.Kinds := by
  obtain ⟨h1, h2⟩ := right_sz hr
  have hf := from_join a b c
  rw [hb] at hf
  obtain ⟨u, h3, h4, h5⟩ := Val.back (w := w) 12 v 1 a.size 0 _ (by omega) h2 h (by omega) hf
  have hl : v.enc.length = b.size := by rw [← hb, size_list]
  injection h4 with h6 h7
  refine ⟨u, ?_, h6, Val.kinds_of_right u.sz u 1 (Nat.le_refl _) h5⟩
  unfold readVAt
  rw [if_pos (by simp only [ByteArray.size_append]; omega), Int.toNat_natCast]
  unfold readV
  rw [h3]
  simp only
  rw [right_of (by omega) h5, hl]
  rfl
theorem cut_val {v : Val} {w : World} (h : v.In w) (hr : v.RightB = true) (b : ByteArray) (hb : b.data.toList = v.enc) (k : Nat) (hk : k < b.size) : readVAt (b.extract 0 k) 0 = .error 14 := by
  obtain ⟨h1, h2⟩ := right_sz hr
  have hf := from_take b k
  rw [hb] at hf
  have hc := Val.cut (s := b.extract 0 k) (w := w) 12 v 1 0 0 (v.enc.drop k) (by omega) h2 h (by omega) (by rw [hf, List.take_append_drop]) (by
    intro e
    have := congrArg List.length e
    rw [List.length_drop, ← hb, size_list] at this
    simp at this
    omega)
  unfold readVAt
  rw [if_pos (by omega)]
  show readV (b.extract 0 k) 0 = _
  unfold readV
  rw [hc]
theorem back_ty {v : Ty} (hr : v.RightB = true) (a b c : ByteArray) (hb : b.data.toList = v.enc) : readTAt (a ++ b ++ c) (a.size : Int) = .ok (v.erase, a.size + b.size) := by
  obtain ⟨h1, h2⟩ := tright_sz hr
  have hf := from_join a b c
  rw [hb] at hf
  obtain ⟨u, h3, rfl, _⟩ := Ty.back 12 v 1 a.size 0 _ (by omega) h2 (by omega) hf
  have hl : v.enc.length = b.size := by rw [← hb, size_list]
  unfold readTAt
  rw [if_pos (by simp only [ByteArray.size_append]; omega), Int.toNat_natCast]
  unfold readT
  rw [h3]
  simp only
  rw [Ty.RightB_erase, hr, hl]
  rfl
theorem cut_ty {v : Ty} (hr : v.RightB = true) (b : ByteArray) (hb : b.data.toList = v.enc) (k : Nat) (hk : k < b.size) : readTAt (b.extract 0 k) 0 = .error 14 := by
  obtain ⟨h1, h2⟩ := tright_sz hr
  have hf := from_take b k
  rw [hb] at hf
  have hc := Ty.cut (s := b.extract 0 k) 12 v 1 0 0 (v.enc.drop k) (by omega) h2 (by omega) (by rw [hf, List.take_append_drop]) (by
    intro e
    have := congrArg List.length e
    rw [List.length_drop, ← hb, size_list] at this
    simp at this
    omega)
  unfold readTAt
  rw [if_pos (by omega)]
  show readT (b.extract 0 k) 0 = _
  unfold readT
  rw [hc]
theorem same_back {x v : Val} {u : Val} (h1 : x.erase = u) (h2 : u.nf = v.nf) (h3 : u.Kinds) : x.rsame v = true := by
  have hk : x.Kinds := by
    have := Val.kinds_erase x.sz x (Nat.le_refl _)
    rw [h1] at this
    exact this.1 h3
  unfold Val.rsame
  rw [(Val.rord_nf x.sz x v (Nat.le_refl _) hk).2 (by rw [← Val.nf_erase x.sz x (Nat.le_refl _), h1, h2])]
  rfl
theorem cut_at (c : Int) (m : Nat) (h0 : m ≠ 0) (hm : m ≤ 100000) : ∃ k : Nat, wrap64 ((IntKind.u64.wrap c).tmod (m : Int)) = (k : Int) ∧ k < m := by
  have hu : IntKind.u64.wrap c = c % 18446744073709551616 := by simp [IntKind.wrap, IntKind.signed, IntKind.bits]
  have h2 : 0 ≤ c % 18446744073709551616 := Int.emod_nonneg _ (by omega)
  refine ⟨((c % 18446744073709551616) % (m : Int)).toNat, ?_, ?_⟩
  · rw [hu, Int.tmod_eq_emod_of_nonneg h2]
    have h3 := Int.emod_nonneg (c % 18446744073709551616) (show ((m : Nat) : Int) ≠ 0 by omega)
    have h4 := Int.emod_lt_of_pos (c % 18446744073709551616) (show (0 : Int) < ((m : Nat) : Int) by omega)
    rw [Int.toNat_of_nonneg h3]
    exact IntWalk.wrap64_in _ (by omega)
  · have h3 := Int.emod_nonneg (c % 18446744073709551616) (show ((m : Nat) : Int) ≠ 0 by omega)
    have h4 := Int.emod_lt_of_pos (c % 18446744073709551616) (show (0 : Int) < ((m : Nat) : Int) by omega)
    omega
def Tested (W : World) (n m : Nat) (s : Value) (wx : World) : Prop := Below W.heap.size W wx ∧ (s = .bool true ∨ (s = .bool false ∧ n ≤ 200 ∧ m ≤ 200))

set_option maxHeartbeats 16000000 in
set_option maxRecDepth 100000 in
theorem law_any (v : Val) (t : Ty) (ah be : ByteArray) (cut : Int) (w : World) (hv : v.In w) (ht : t.In w) (ha : ah.size ≤ 9223372036854775807) (hbe : be.size ≤ 9223372036854775807) (hcu : i64r cut) :
    Calls Try.prog 10 #[v.agg, t.agg, .string ah, .string be, .int .i64 cut] w fun e w' => TrueBelow w e w' := by
  have hsf := run_store_flt
  obtain ⟨W, hW⟩ : ∃ W, W = (w.alloc (.cells v.cells.toArray 46)).alloc (.cells t.cells.toArray 61) := ⟨_, rfl⟩
  have hbW : Below w.heap.size w W := by rw [hW]; exact ((Below.refl _ _).alloc (Nat.le_refl _) _).alloc (by simp) _
  have hpv : Blk W w.heap.size 46 v.cells.toArray := by rw [hW]; exact (Blk.new w 46 _).alloc _
  have hpt : Blk W (w.heap.size + 1) 61 t.cells.toArray := by
    rw [hW]
    have := Blk.new (w.alloc (.cells v.cells.toArray 46)) 61 t.cells.toArray
    rw [show (w.alloc (.cells v.cells.toArray 46)).heap.size = w.heap.size + 1 from by simp] at this
    exact this
  have hvW := hv.below hbW
  have htW := ht.below hbW
  obtain ⟨p4, q4, e4⟩ := hv.nslice
  obtain ⟨p5, q5, e5⟩ := hv.xslice
  obtain ⟨r4, t4, f4⟩ := ht.nslice
  obtain ⟨r5, t5, f5⟩ := ht.xslice
  have hsm := fun (W' : World) (hb : Below W.heap.size W W') => small_any v W' (hvW.below hb)
  have hts := fun (W' : World) (hb : Below W.heap.size W W') => tsmall_any t W' (htW.below hb)
  have hva := fun (W' : World) (hb : Below W.heap.size W W') => value_any v W' (hvW.below hb)
  have hta := fun (W' : World) (hb : Below W.heap.size W W') => type_any t W' (htW.below hb)
  have hsv := fun (x : Val) (W' : World) (hb : Below W.heap.size W W') (hx : x.In W') => rsamev_any x v W' hx (hvW.below hb)
  have hst := fun (x : Ty) (W' : World) (hb : Below W.heap.size W W') (hx : x.In W') => samet_any x.sz x t W' (Nat.le_refl _) hx (htW.below hb)
  have hbv := fun (h : v.RightB = true) => Val.enc_bound v h hvW
  have hbt := fun (h : t.RightB = true) => Ty.enc_bound t h htW
  have hbk := fun (h : v.RightB = true) => back_val hvW h
  have hck := fun (h : v.RightB = true) => cut_val hvW h
  unfold Val.cells at hW hpv
  unfold Ty.cells at hW hpt
  have hav : v.agg = .agg #[.int .i64 v.k, .int .i64 v.n, .float .f64 v.f, .string v.s, .slice p4 v.ns.length q4, .slice p5 v.xs.length q5] := by unfold Val.agg; rw [e4, e5]
  have hat_ : t.agg = .agg #[.int .i64 t.k, .slice r4 t.ns.length t4, .slice r5 t.xs.length t5] := by unfold Ty.agg; rw [f4, f5]
  rw [hav] at hsm hva hsv
  rw [hat_] at hts hta hst
  rw [hav, hat_]
  rw [e4, e5, f4, f5] at hW
  rw [e4, e5] at hpv
  rw [f4, f5] at hpt
  obtain ⟨SV, hSV⟩ : ∃ SV, SV = v.smallB := ⟨_, rfl⟩
  obtain ⟨ST, hST⟩ : ∃ ST, ST = t.smallB := ⟨_, rfl⟩
  rw [← hSV] at hsm
  rw [← hST] at hts
  clear hSV hST
  have HSM := Lib.hid hsm; have HTS := Lib.hid hts; have HVA := Lib.hid hva; have HTA := Lib.hid hta; have HSV := Lib.hid hsv; have HST := Lib.hid hst; have HBV := Lib.hid hbv; have HBT := Lib.hid hbt; have HBK := Lib.hid hbk; have HCK := Lib.hid hck
  have HW := Lib.hid hW; have HBW := Lib.hid hbW; have HPV := Lib.hid hpv; have HPT := Lib.hid hpt
  have a0 := hpv.cell 0; have a1 := hpv.cell 1; have a2 := hpv.cell 2; have a3 := hpv.cell 3; have a4 := hpv.cell 4; have a5 := hpv.cell 5
  have b0 := hpt.cell 0; have b1 := hpt.cell 1; have b2 := hpt.cell 2
  simp only [List.getElem?_toArray, List.getElem?_cons_zero, List.getElem?_cons_succ] at a0 a1 a2 a3 a4 a5 b0 b1 b2
  have HCU := Lib.hid hcu
  clear hsm hts hva hta hsv hst hbv hbt hbk hck hW hbW hpv hpt hvW htW e4 e5 f4 f5 hv ht hav hat_ hcu
  go_enter Try.func10, Try.ntmps10
  try simp only [lapp_cons, lapp_nil]
  go_upto_region 1 with fail
  rw [← HW.out]
  go_cut [47] (fun s47 wx => Tested W ah.size be.size s47 wx)
  case first =>
    go_wp2_with fail
    refine (awake05_any _).mono ?_
    rintro e w1 ⟨rfl, hl⟩
    have B1 := Lib.hid hl
    clear hl
    clear a0 a1 a2 a3 a4 a5 b0 b1 b2
    have qa := HPV.out.below B1.out HPV.out.lt
    have qb := HPT.out.below B1.out HPT.out.lt
    have a0 := qa.cell 0; have a1 := qa.cell 1; have a2 := qa.cell 2; have a3 := qa.cell 3; have a4 := qa.cell 4; have a5 := qa.cell 5
    have b0 := qb.cell 0; have b1 := qb.cell 1; have b2 := qb.cell 2
    simp only [List.getElem?_toArray, List.getElem?_cons_zero, List.getElem?_cons_succ] at a0 a1 a2 a3 a4 a5 b0 b1 b2
    clear qa qb
    go_wp2_with fail
    refine (HSM.out _ B1.out).mono ?_
    rintro e w2 ⟨rfl, hl⟩
    have B2 := Lib.hid (B1.out.trans (hl.mono B1.out.size))
    clear hl
    clear a0 a1 a2 a3 a4 a5 b0 b1 b2
    have qa := HPV.out.below B2.out HPV.out.lt
    have qb := HPT.out.below B2.out HPT.out.lt
    have a0 := qa.cell 0; have a1 := qa.cell 1; have a2 := qa.cell 2; have a3 := qa.cell 3; have a4 := qa.cell 4; have a5 := qa.cell 5
    have b0 := qb.cell 0; have b1 := qb.cell 1; have b2 := qb.cell 2
    simp only [List.getElem?_toArray, List.getElem?_cons_zero, List.getElem?_cons_succ] at a0 a1 a2 a3 a4 a5 b0 b1 b2
    clear qa qb
    cases SV with
    | false =>
      go_wp2_with fail
      go_meet
      exact ⟨B2.out, .inl rfl⟩
    | true =>
      go_wp2_with fail
      refine (HTS.out _ B2.out).mono ?_
      rintro e w3 ⟨rfl, hl⟩
      have B3 := Lib.hid (B2.out.trans (hl.mono B2.out.size))
      clear hl
      cases ST with
      | false =>
        go_wp2_with fail
        go_meet
        exact ⟨B3.out, .inl rfl⟩
      | true =>
        by_cases h5 : ah.size ≤ 200
        case neg =>
          have t1 : decide ((200 : Int) < (ah.size : Int)) = true := by simp; omega
          go_wp2_with fail
          go_meet
          exact ⟨B3.out, .inl rfl⟩
        have t1 : decide ((200 : Int) < (ah.size : Int)) = false := by simp; omega
        by_cases h6 : be.size ≤ 200
        case neg =>
          have t2 : decide ((200 : Int) < (be.size : Int)) = true := by simp; omega
          go_wp2_with fail
          go_meet
          exact ⟨B3.out, .inl rfl⟩
        have t2 : decide ((200 : Int) < (be.size : Int)) = false := by simp; omega
        go_wp2_with fail
        go_meet
        exact ⟨B3.out, .inr ⟨rfl, h5, h6⟩⟩
  case rest =>
  obtain ⟨B0, rfl | ⟨rfl, h5, h6⟩⟩ := hcut
  · have HB0 := Lib.hid B0
    clear B0
    go_wp2_with fail
    refine (awake05_any _).mono ?_
    rintro e w1 ⟨rfl, hl⟩
    have B1 := Lib.hid (HB0.out.trans (hl.mono HB0.out.size))
    clear hl
    go_wp2
    go_ret
    exact ⟨rfl, HBW.out.trans (B1.out.mono HBW.out.size)⟩
  have HB0 := Lib.hid B0
  clear B0
  clear a0 a1 a2 a3 a4 a5 b0 b1 b2
  have qa := HPV.out.below HB0.out HPV.out.lt
  have qb := HPT.out.below HB0.out HPT.out.lt
  have a0 := qa.cell 0; have a1 := qa.cell 1; have a2 := qa.cell 2; have a3 := qa.cell 3; have a4 := qa.cell 4; have a5 := qa.cell 5
  have b0 := qb.cell 0; have b1 := qb.cell 1; have b2 := qb.cell 2
  simp only [List.getElem?_toArray, List.getElem?_cons_zero, List.getElem?_cons_succ] at a0 a1 a2 a3 a4 a5 b0 b1 b2
  clear qa qb
  clear HSM HTS
  obtain ⟨R, hR⟩ : ∃ R, R = v.RightB := ⟨_, rfl⟩
  obtain ⟨Q, hQ⟩ : ∃ Q, Q = t.RightB := ⟨_, rfl⟩
  obtain ⟨EV, hEV⟩ : ∃ EV : ByteArray, EV = ⟨v.enc.toArray⟩ := ⟨_, rfl⟩
  obtain ⟨ET, hET⟩ : ∃ ET : ByteArray, ET = ⟨t.enc.toArray⟩ := ⟨_, rfl⟩
  have hevl : EV.data.toList = v.enc := by rw [hEV]
  have hetl : ET.data.toList = t.enc := by rw [hET]
  have hevn : EV.size ≠ 0 := by
    rw [← size_list, hevl]
    intro h
    exact Val.enc_ne v (List.eq_nil_of_length_eq_zero h)
  have hetn : ET.size ≠ 0 := by
    rw [← size_list, hetl]
    intro h
    exact Ty.enc_ne t (List.eq_nil_of_length_eq_zero h)
  rw [← hR] at HVA HBV HBK HCK
  rw [← hQ] at HTA HBT
  simp only [ValuedOr, ← hEV] at HVA
  simp only [ValuedOr, ← hET] at HTA
  have HEV := Lib.hid hevl; have HET := Lib.hid hetl; have HQ := Lib.hid hQ
  clear hEV hET hR hQ hevl hetl
  go_wp2_with fail
  refine (HVA.out _ HB0.out).mono ?_
  rintro e w1 ⟨rfl, hl⟩
  have C1 := Lib.hid (HB0.out.trans (hl.mono HB0.out.size))
  clear hl
  clear a0 a1 a2 a3 a4 a5 b0 b1 b2
  have qa := HPV.out.below C1.out HPV.out.lt
  have qb := HPT.out.below C1.out HPT.out.lt
  have a0 := qa.cell 0; have a1 := qa.cell 1; have a2 := qa.cell 2; have a3 := qa.cell 3; have a4 := qa.cell 4; have a5 := qa.cell 5
  have b0 := qb.cell 0; have b1 := qb.cell 1; have b2 := qb.cell 2
  simp only [List.getElem?_toArray, List.getElem?_cons_zero, List.getElem?_cons_succ] at a0 a1 a2 a3 a4 a5 b0 b1 b2
  clear qa qb
  cases R with
  | false =>
    simp only [cond_false]
    go_upto_region 11 with fail
    go_wp2_with fail
    refine (HTA.out _ C1.out).mono ?_
    rintro e x1 ⟨rfl, hl⟩
    have D1 := Lib.hid (C1.out.trans (hl.mono C1.out.size))
    clear hl
    clear a0 a1 a2 a3 a4 a5 b0 b1 b2
    have qa := HPV.out.below D1.out HPV.out.lt
    have qb := HPT.out.below D1.out HPT.out.lt
    have a0 := qa.cell 0; have a1 := qa.cell 1; have a2 := qa.cell 2; have a3 := qa.cell 3; have a4 := qa.cell 4; have a5 := qa.cell 5
    have b0 := qb.cell 0; have b1 := qb.cell 1; have b2 := qb.cell 2
    simp only [List.getElem?_toArray, List.getElem?_cons_zero, List.getElem?_cons_succ] at a0 a1 a2 a3 a4 a5 b0 b1 b2
    clear qa qb
    cases Q with
    | false =>
      simp only [cond_false]
      go_wp2
      go_ret
      exact ⟨rfl, HBW.out.trans (D1.out.mono HBW.out.size)⟩
    | true =>
      simp only [cond_true]
      have hn := HBT.out rfl
      have hqt : t.RightB = true := HQ.out.symm
      have HCL := Lib.hid (cut_ty hqt)
      have hne : ET.size ≤ 60000 := by rw [← size_list, HET.out]; exact hn
      have HRD := Lib.hid (fun W => readtyp_any (ah ++ ET ++ be) (ah.size : Int) W (by simp only [ByteArray.size_append]; omega))
      rw [back_ty hqt ah ET be HET.out] at HRD
      have HN := Lib.hid hne
      have hj2 : (ah ++ ET).size = ah.size + ET.size := ByteArray.size_append
      clear hn hqt
      go_wp2_with fail
      refine (HRD.out _).mono ?_
      rintro e x2 ⟨hl, y, rfl, hxe, hxi⟩
      have D2 := Lib.hid (D1.out.trans (hl.mono D1.out.size))
      clear hl
      obtain ⟨py4, qy4, y4⟩ := hxi.nslice
      obtain ⟨py5, qy5, y5⟩ := hxi.xslice
      obtain ⟨X2, hX2⟩ : ∃ X2, X2 = x2.alloc (.cells y.cells.toArray 61) := ⟨_, rfl⟩
      have hx2 : Below x2.heap.size x2 X2 := by rw [hX2]; exact (Below.refl _ _).alloc (Nat.le_refl _) _
      have hblk : Blk X2 x2.heap.size 61 y.cells.toArray := by rw [hX2]; exact Blk.new x2 61 _
      have hsx := fun (W' : World) (hb : Below W.heap.size W W') (hb2 : Below x2.heap.size x2 W') => HST.out y W' hb (hxi.below hb2)
      rw [Ty.sameB_of hxe] at hsx
      unfold Ty.cells at hX2 hblk
      unfold Ty.agg at hsx ⊢
      rw [y4, y5] at hsx hX2 hblk ⊢
      have HSX := Lib.hid hsx; have HX2 := Lib.hid hX2; have Hhx2 := Lib.hid hx2; have HBX := Lib.hid hblk
      have D3 := Lib.hid (D2.out.trans (hx2.mono D2.out.size))
      have HXL := Lib.hid (show x2.heap.size < X2.heap.size from hblk.lt)
      clear hsx hX2 hx2 hblk y4 y5 hxi hxe HRD
      clear a0 a1 a2 a3 a4 a5 b0 b1 b2
      have qa := HPV.out.below D3.out HPV.out.lt
      have qb := HPT.out.below D3.out HPT.out.lt
      have a0 := qa.cell 0; have a1 := qa.cell 1; have a2 := qa.cell 2; have a3 := qa.cell 3; have a4 := qa.cell 4; have a5 := qa.cell 5
      have b0 := qb.cell 0; have b1 := qb.cell 1; have b2 := qb.cell 2
      simp only [List.getElem?_toArray, List.getElem?_cons_zero, List.getElem?_cons_succ] at a0 a1 a2 a3 a4 a5 b0 b1 b2
      clear qa qb
      go_upto_region 15 with fail
      rw [← HX2.out]
      obtain ⟨j, hkj, hklj⟩ := cut_at cut ET.size (by omega) (by omega)
      have hlj : (0 : Int) ≤ ((j : Nat) : Int) ∧ ((j : Nat) : Int) ≤ ((ET.size : Nat) : Int) := by omega
      have HRD := Lib.hid (fun W => readtyp_any (ET.extract 0 j) 0 W (by simp only [ByteArray.size_extract]; have := HN.out; omega))
      rw [HCL.out ET HET.out j hklj] at HRD
      go_wp2_with fail
      refine (HRD.out _).mono ?_
      rintro e x4 ⟨hl, rfl⟩
      rw [show Ty.zero.agg = .agg #[.int .i64 0, .slice none 0 0, .slice none 0 0] from rfl]
      obtain ⟨X4, hX4⟩ : ∃ X4, X4 = x4.alloc (.cells #[.int .i64 0, .slice none 0 0, .slice none 0 0] 61) := ⟨_, rfl⟩
      have hl4 : Below X2.heap.size X2 X4 := by rw [hX4]; exact hl.alloc hl.size _
      have D4 := Lib.hid (D3.out.trans (hl4.mono D3.out.size))
      have hx4 := Hhx2.out.trans (hl4.mono Hhx2.out.size)
      have hbk := HBX.out.below hl4 HXL.out
      have v0 := hbk.cell 0; have v1 := hbk.cell 1; have v2 := hbk.cell 2
      simp only [List.getElem?_toArray, List.getElem?_cons_zero, List.getElem?_cons_succ] at v0 v1 v2
      have HX4 := Lib.hid hX4; have Hx4 := Lib.hid hx4
      clear hl hX4 hl4 hx4 hbk hkj hklj hlj HRD HCL
      clear a0 a1 a2 a3 a4 a5 b0 b1 b2
      have qa := HPV.out.below D4.out HPV.out.lt
      have qb := HPT.out.below D4.out HPT.out.lt
      have a0 := qa.cell 0; have a1 := qa.cell 1; have a2 := qa.cell 2; have a3 := qa.cell 3; have a4 := qa.cell 4; have a5 := qa.cell 5
      have b0 := qb.cell 0; have b1 := qb.cell 1; have b2 := qb.cell 2
      simp only [List.getElem?_toArray, List.getElem?_cons_zero, List.getElem?_cons_succ] at a0 a1 a2 a3 a4 a5 b0 b1 b2
      clear qa qb
      go_upto_region 16 with fail
      rw [← HX4.out]
      go_wp2_with fail
      refine (HSX.out _ D4.out Hx4.out).mono ?_
      rintro e x5 ⟨rfl, hl⟩
      have D5 := Lib.hid (D4.out.trans (hl.mono D4.out.size))
      clear hl v0 v1 v2
      go_wp2
      go_ret
      exact ⟨rfl, HBW.out.trans (D5.out.mono HBW.out.size)⟩
  | true =>
    simp only [cond_true]
    have hn := HBV.out rfl
    have HCL := Lib.hid (HCK.out rfl)
    have hne : EV.size ≤ 60000 := by rw [← size_list, HEV.out]; exact hn
    obtain ⟨u, hu1, hu2, hu3⟩ := HBK.out rfl ah EV be HEV.out
    have HRD := Lib.hid (fun W => readval_any (ah ++ EV ++ be) (ah.size : Int) W (by simp only [ByteArray.size_append]; omega))
    rw [hu1] at HRD
    have HN := Lib.hid hne
    have HU := Lib.hid (And.intro hu2 hu3)
    have hj1 : (ah ++ EV).size = ah.size + EV.size := ByteArray.size_append
    clear hn hu1 hu2 hu3 HBV HBK HCK
    go_wp2_with fail
    refine (HRD.out _).mono ?_
    rintro e w2 ⟨hl, x, rfl, hxe, hxi⟩
    have C2 := Lib.hid (C1.out.trans (hl.mono C1.out.size))
    clear hl
    obtain ⟨px4, qx4, x4⟩ := hxi.nslice
    obtain ⟨px5, qx5, x5⟩ := hxi.xslice
    obtain ⟨W2, hW2⟩ : ∃ W2, W2 = w2.alloc (.cells x.cells.toArray 46) := ⟨_, rfl⟩
    have hb2 : Below w2.heap.size w2 W2 := by rw [hW2]; exact (Below.refl _ _).alloc (Nat.le_refl _) _
    have hblk : Blk W2 w2.heap.size 46 x.cells.toArray := by rw [hW2]; exact Blk.new w2 46 _
    have hsx := fun (W' : World) (hb : Below W.heap.size W W') (hb2 : Below w2.heap.size w2 W') => HSV.out x W' hb (hxi.below hb2)
    rw [same_back hxe HU.out.1 HU.out.2] at hsx
    unfold Val.cells at hW2 hblk
    unfold Val.agg at hsx ⊢
    rw [x4, x5] at hsx hW2 hblk ⊢
    have HSX := Lib.hid hsx; have HW2 := Lib.hid hW2; have Hhb2 := Lib.hid hb2; have HBX := Lib.hid hblk
    have v0 := hblk.cell 0; have v1 := hblk.cell 1; have v2 := hblk.cell 2; have v3 := hblk.cell 3; have v4 := hblk.cell 4; have v5 := hblk.cell 5
    simp only [List.getElem?_toArray, List.getElem?_cons_zero, List.getElem?_cons_succ] at v0 v1 v2 v3 v4 v5
    have C3 := Lib.hid (C2.out.trans (hb2.mono C2.out.size))
    clear hsx hW2 hb2 hblk x4 x5 hxi hxe HRD HU
    clear a0 a1 a2 a3 a4 a5 b0 b1 b2
    have qa := HPV.out.below C3.out HPV.out.lt
    have qb := HPT.out.below C3.out HPT.out.lt
    have a0 := qa.cell 0; have a1 := qa.cell 1; have a2 := qa.cell 2; have a3 := qa.cell 3; have a4 := qa.cell 4; have a5 := qa.cell 5
    have b0 := qb.cell 0; have b1 := qb.cell 1; have b2 := qb.cell 2
    simp only [List.getElem?_toArray, List.getElem?_cons_zero, List.getElem?_cons_succ] at a0 a1 a2 a3 a4 a5 b0 b1 b2
    clear qa qb
    go_upto_region 6 with fail
    rw [← HW2.out]
    go_wp2_with fail
    refine (HSX.out _ C3.out Hhb2.out).mono ?_
    rintro e w3 ⟨rfl, hl⟩
    have C4 := Lib.hid (C3.out.trans (hl.mono C3.out.size))
    clear hl v0 v1 v2 v3 v4 v5 HSX HBX Hhb2 HW2
    clear a0 a1 a2 a3 a4 a5 b0 b1 b2
    have qa := HPV.out.below C4.out HPV.out.lt
    have qb := HPT.out.below C4.out HPT.out.lt
    have a0 := qa.cell 0; have a1 := qa.cell 1; have a2 := qa.cell 2; have a3 := qa.cell 3; have a4 := qa.cell 4; have a5 := qa.cell 5
    have b0 := qb.cell 0; have b1 := qb.cell 1; have b2 := qb.cell 2
    simp only [List.getElem?_toArray, List.getElem?_cons_zero, List.getElem?_cons_succ] at a0 a1 a2 a3 a4 a5 b0 b1 b2
    clear qa qb
    go_upto_region 8 with fail
    obtain ⟨k, hkk, hklk⟩ := cut_at cut EV.size (by omega) (by omega)
    have hlk : (0 : Int) ≤ ((k : Nat) : Int) ∧ ((k : Nat) : Int) ≤ ((EV.size : Nat) : Int) := by omega
    have HRD := Lib.hid (fun W => readval_any (EV.extract 0 k) 0 W (by simp only [ByteArray.size_extract]; have := HN.out; omega))
    rw [HCL.out EV HEV.out k hklk] at HRD
    go_wp2_with fail
    refine (HRD.out _).mono ?_
    rintro e w4 ⟨hl, rfl⟩
    have C5 := Lib.hid (C4.out.trans (hl.mono C4.out.size))
    rw [show Val.zero.agg = .agg #[.int .i64 0, .int .i64 0, .float .f64 0, .string ByteArray.empty, .slice none 0 0, .slice none 0 0] from rfl]
    obtain ⟨W4, hW4⟩ : ∃ W4, W4 = w4.alloc (.cells #[.int .i64 0, .int .i64 0, .float .f64 0, .string ByteArray.empty, .slice none 0 0, .slice none 0 0] 46) := ⟨_, rfl⟩
    have C6 := Lib.hid (show Below W.heap.size W W4 by rw [hW4]; exact C5.out.alloc C5.out.size _)
    have HW4 := Lib.hid hW4
    clear hl hW4 hkk hklk hlk HRD HCL
    clear a0 a1 a2 a3 a4 a5 b0 b1 b2
    have qa := HPV.out.below C6.out HPV.out.lt
    have qb := HPT.out.below C6.out HPT.out.lt
    have a0 := qa.cell 0; have a1 := qa.cell 1; have a2 := qa.cell 2; have a3 := qa.cell 3; have a4 := qa.cell 4; have a5 := qa.cell 5
    have b0 := qb.cell 0; have b1 := qb.cell 1; have b2 := qb.cell 2
    simp only [List.getElem?_toArray, List.getElem?_cons_zero, List.getElem?_cons_succ] at a0 a1 a2 a3 a4 a5 b0 b1 b2
    clear qa qb
    go_upto_region 11 with fail
    rw [← HW4.out]
    clear HW4 C1 C2 C3 C4 C5
    go_wp2_with fail
    refine (HTA.out _ C6.out).mono ?_
    rintro e x1 ⟨rfl, hl⟩
    have D1 := Lib.hid (C6.out.trans (hl.mono C6.out.size))
    clear hl
    clear a0 a1 a2 a3 a4 a5 b0 b1 b2
    have qa := HPV.out.below D1.out HPV.out.lt
    have qb := HPT.out.below D1.out HPT.out.lt
    have a0 := qa.cell 0; have a1 := qa.cell 1; have a2 := qa.cell 2; have a3 := qa.cell 3; have a4 := qa.cell 4; have a5 := qa.cell 5
    have b0 := qb.cell 0; have b1 := qb.cell 1; have b2 := qb.cell 2
    simp only [List.getElem?_toArray, List.getElem?_cons_zero, List.getElem?_cons_succ] at a0 a1 a2 a3 a4 a5 b0 b1 b2
    clear qa qb
    cases Q with
    | false =>
      simp only [cond_false]
      go_wp2
      go_ret
      exact ⟨rfl, HBW.out.trans (D1.out.mono HBW.out.size)⟩
    | true =>
      simp only [cond_true]
      have hn := HBT.out rfl
      have hqt : t.RightB = true := HQ.out.symm
      have HCL := Lib.hid (cut_ty hqt)
      have hne : ET.size ≤ 60000 := by rw [← size_list, HET.out]; exact hn
      have HRD := Lib.hid (fun W => readtyp_any (ah ++ ET ++ be) (ah.size : Int) W (by simp only [ByteArray.size_append]; omega))
      rw [back_ty hqt ah ET be HET.out] at HRD
      have HN := Lib.hid hne
      have hj2 : (ah ++ ET).size = ah.size + ET.size := ByteArray.size_append
      clear hn hqt
      go_wp2_with fail
      refine (HRD.out _).mono ?_
      rintro e x2 ⟨hl, y, rfl, hxe, hxi⟩
      have D2 := Lib.hid (D1.out.trans (hl.mono D1.out.size))
      clear hl
      obtain ⟨py4, qy4, y4⟩ := hxi.nslice
      obtain ⟨py5, qy5, y5⟩ := hxi.xslice
      obtain ⟨X2, hX2⟩ : ∃ X2, X2 = x2.alloc (.cells y.cells.toArray 61) := ⟨_, rfl⟩
      have hx2 : Below x2.heap.size x2 X2 := by rw [hX2]; exact (Below.refl _ _).alloc (Nat.le_refl _) _
      have hblk : Blk X2 x2.heap.size 61 y.cells.toArray := by rw [hX2]; exact Blk.new x2 61 _
      have hsx := fun (W' : World) (hb : Below W.heap.size W W') (hb2 : Below x2.heap.size x2 W') => HST.out y W' hb (hxi.below hb2)
      rw [Ty.sameB_of hxe] at hsx
      unfold Ty.cells at hX2 hblk
      unfold Ty.agg at hsx ⊢
      rw [y4, y5] at hsx hX2 hblk ⊢
      have HSX := Lib.hid hsx; have HX2 := Lib.hid hX2; have Hhx2 := Lib.hid hx2; have HBX := Lib.hid hblk
      have D3 := Lib.hid (D2.out.trans (hx2.mono D2.out.size))
      have HXL := Lib.hid (show x2.heap.size < X2.heap.size from hblk.lt)
      clear hsx hX2 hx2 hblk y4 y5 hxi hxe HRD
      clear a0 a1 a2 a3 a4 a5 b0 b1 b2
      have qa := HPV.out.below D3.out HPV.out.lt
      have qb := HPT.out.below D3.out HPT.out.lt
      have a0 := qa.cell 0; have a1 := qa.cell 1; have a2 := qa.cell 2; have a3 := qa.cell 3; have a4 := qa.cell 4; have a5 := qa.cell 5
      have b0 := qb.cell 0; have b1 := qb.cell 1; have b2 := qb.cell 2
      simp only [List.getElem?_toArray, List.getElem?_cons_zero, List.getElem?_cons_succ] at a0 a1 a2 a3 a4 a5 b0 b1 b2
      clear qa qb
      go_upto_region 15 with fail
      rw [← HX2.out]
      obtain ⟨j, hkj, hklj⟩ := cut_at cut ET.size (by omega) (by omega)
      have hlj : (0 : Int) ≤ ((j : Nat) : Int) ∧ ((j : Nat) : Int) ≤ ((ET.size : Nat) : Int) := by omega
      have HRD := Lib.hid (fun W => readtyp_any (ET.extract 0 j) 0 W (by simp only [ByteArray.size_extract]; have := HN.out; omega))
      rw [HCL.out ET HET.out j hklj] at HRD
      go_wp2_with fail
      refine (HRD.out _).mono ?_
      rintro e x4 ⟨hl, rfl⟩
      rw [show Ty.zero.agg = .agg #[.int .i64 0, .slice none 0 0, .slice none 0 0] from rfl]
      obtain ⟨X4, hX4⟩ : ∃ X4, X4 = x4.alloc (.cells #[.int .i64 0, .slice none 0 0, .slice none 0 0] 61) := ⟨_, rfl⟩
      have hl4 : Below X2.heap.size X2 X4 := by rw [hX4]; exact hl.alloc hl.size _
      have D4 := Lib.hid (D3.out.trans (hl4.mono D3.out.size))
      have hx4 := Hhx2.out.trans (hl4.mono Hhx2.out.size)
      have hbk := HBX.out.below hl4 HXL.out
      have v0 := hbk.cell 0; have v1 := hbk.cell 1; have v2 := hbk.cell 2
      simp only [List.getElem?_toArray, List.getElem?_cons_zero, List.getElem?_cons_succ] at v0 v1 v2
      have HX4 := Lib.hid hX4; have Hx4 := Lib.hid hx4
      clear hl hX4 hl4 hx4 hbk hkj hklj hlj HRD HCL
      clear a0 a1 a2 a3 a4 a5 b0 b1 b2
      have qa := HPV.out.below D4.out HPV.out.lt
      have qb := HPT.out.below D4.out HPT.out.lt
      have a0 := qa.cell 0; have a1 := qa.cell 1; have a2 := qa.cell 2; have a3 := qa.cell 3; have a4 := qa.cell 4; have a5 := qa.cell 5
      have b0 := qb.cell 0; have b1 := qb.cell 1; have b2 := qb.cell 2
      simp only [List.getElem?_toArray, List.getElem?_cons_zero, List.getElem?_cons_succ] at a0 a1 a2 a3 a4 a5 b0 b1 b2
      clear qa qb
      go_upto_region 16 with fail
      rw [← HX4.out]
      go_wp2_with fail
      refine (HSX.out _ D4.out Hx4.out).mono ?_
      rintro e x5 ⟨rfl, hl⟩
      have D5 := Lib.hid (D4.out.trans (hl.mono D4.out.size))
      clear hl v0 v1 v2
      go_wp2
      go_ret
      exact ⟨rfl, HBW.out.trans (D5.out.mono HBW.out.size)⟩

set_option maxRecDepth 100000 in
theorem walk {H : Type} {enc : TypeId × Value → H} {W : World} {base : Nat} {args : Array Value} {ds : List (DataW H)} {ps : List MemPlace}
    (h : Handed enc Try.prog W base Try.f10.params.toList args ds ps) : Calls Try.prog 10 args W fun e w' => TrueBelow W e w' := by
  rw [Try.params10] at h
  have hval := h.val
  obtain ⟨v0, vs0, d0, ds0, p0, q0, hargs, rfl, rfl, h0, r0⟩ := trodAll_cons h.trod
  obtain ⟨v1, vs1, d1, ds1, p1, q1, rfl, rfl, rfl, h1, r1⟩ := trodAll_cons r0
  obtain ⟨v2, vs2, d2, ds2, p2, q2, rfl, rfl, rfl, h2, r2⟩ := trodAll_cons r1
  obtain ⟨v3, vs3, d3, ds3, p3, q3, rfl, rfl, rfl, h3, r3⟩ := trodAll_cons r2
  obtain ⟨v4, vs4, d4, ds4, p4, q4, rfl, rfl, rfl, h4, r4⟩ := trodAll_cons r3
  obtain ⟨rfl, rfl, rfl⟩ := trodAll_nil r4
  obtain rfl : args = #[v0, v1, v2, v3, v4] := by cases args; simp_all
  have hv0 := hval 0 46 v0 rfl rfl
  unfold Value.okWide at hv0
  rw [Try.underlying46] at hv0
  obtain ⟨cs0, he0, _⟩ := hv0
  have hv1 := hval 1 61 v1 rfl rfl
  unfold Value.okWide at hv1
  rw [Try.underlying61] at hv1
  obtain ⟨cs1, he1, _⟩ := hv1
  obtain ⟨v, rfl, hv⟩ := arg_val he0 h0 0 h.fits rfl rfl
  obtain ⟨t, rfl, ht⟩ := arg_ty he1 h1 1 h.fits rfl rfl
  obtain ⟨a, rfl, rfl, rfl, wa⟩ := open_string Try.underlying9 (hval 2 9 v2 rfl rfl) h2
  obtain ⟨b, rfl, rfl, rfl, wb⟩ := open_string Try.underlying9 (hval 3 9 v3 rfl rfl) h3
  obtain ⟨c, rfl, rfl, rfl, wc⟩ := open_int Try.underlying3 (hval 4 3 v4 rfl rfl) h4
  have hc : i64r c := by
    simp only [Lit.wf, Bool.and_eq_true, decide_eq_true_eq] at wc
    have e1 : IntKind.i64.min = -9223372036854775808 := by decide
    have e2 : IntKind.i64.max = 9223372036854775807 := by decide
    rw [e1, e2] at wc
    exact ⟨wc.1, wc.2⟩
  exact law_any v t a b c W hv ht (by unfold maxLen at wa; omega) (by unfold maxLen at wb; omega) hc


set_option maxRecDepth 100000 in
theorem lifted (os : Os) (started : os.Started) (H : Type) (enc : TypeId × Value → H) :
    ReturnsInHanded {} Try.checked os 10 .any (Rows.codecBackSpec.pre6 enc Try.prog Try.f10 Rows.codecBackRow.domain false) (Rows.codecBackSpec.post enc Try.prog Try.f10 false true false false) := by
  refine returnsInHanded_of_change_sized (C := Try.checked) own started (by kernel_rfl) Try.func10
    (ChangeSpec.witness6 (enc := enc) (C := Try.checked) false ⟨#[], #[.agg #[.int .i64 0, .int .i64 0, .float .f64 0, .string ByteArray.empty, .slice none 0 0, .slice none 0 0], .agg #[.int .i64 0, .slice none 0 0, .slice none 0 0], .string ByteArray.empty, .string ByteArray.empty, .int .i64 0], []⟩ 8 (by kernel_rfl) (by kernel_rfl) (by kernel_rfl) (by kernel_rfl)) ?_
  intro W base args ds gs before hval hW _ hsz _
  refine (walk (handed_of hval hW rfl rfl hsz)).mono fun e W' ⟨he, hb⟩ => ?_
  subst he
  exact ⟨_, rfl, law_post hW rfl laidOut (by kernel_rfl) rfl Try.underlying4 (fun ds' h => by match ds', h with | [_, _, _, _, _], _ => rfl) hb⟩

theorem over : Rows.codecBackRow.holds Try.pinned (OpenSpec.ofChange Rows.codecBackSpec) :=
  OpenClaim.holds_of_wide 10 Try.f10 rfl rfl rfl rfl rfl rfl rfl ⟨rfl, rfl, rfl, rfl, rfl⟩ rfl rfl rfl rfl rfl (by kernel_rfl) Try.func10 (by kernel_rfl)
    (of_decide_eq_true (by kernel_rfl)) (by unfold Func.isWrapper; first | (rw [if_pos (by decide +kernel)]; kernel_rfl) | (rw [if_neg (by decide +kernel)]; exact ⟨rfl, rfl⟩))
    (fun os started H enc _ => lifted os started H enc)

theorem proved : Rows.CodecBackSaid :=
  over
#print axioms proved
end Go.Proofs.Ytemhinagajfemaa.codecBack
