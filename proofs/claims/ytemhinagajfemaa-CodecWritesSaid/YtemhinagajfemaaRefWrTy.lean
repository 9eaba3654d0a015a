/- The reference's writer of types (printed by wip/gen_refwrty.py). -/
import Derived.Test.YtemhinagajfemaaRefWrVal
import Derived.Test.YtemhinagajfemaaTyEnc
namespace Go.Proofs.Ytemhinagajfemaa
set_option linter.unusedVariables false
open Go.RowKit

set_option maxHeartbeats 8000000 in
set_option maxRecDepth 100000 in
theorem rwt_plain (v : Ty) (deep : Nat) (w : World) (hv : v.In w) (hr : v.rightB deep = true) (hlen : v.enc.length + 20 ≤ 140737488355328) (hk : v.k ≠ 6)
    (hih : ∀ (x : Ty) (w : World), x ∈ v.xs → x.In w → x.rightB (deep + 1) = true → x.enc.length + 20 ≤ 140737488355328 → Calls Try.prog 37 #[x.agg] w fun e w' => Told (strB x.enc) w.heap.size w e w') :
    Calls Try.prog 37 #[v.agg] w fun e w' => Told (strB v.enc) w.heap.size w e w' := by
  obtain ⟨W, hW⟩ : ∃ W, W = w.alloc (.cells v.cells.toArray 61) := ⟨_, rfl⟩
  have hbW : Below w.heap.size w W := by rw [hW]; exact (Below.refl _ _).alloc (Nat.le_refl _) _
  have hpv : Blk W w.heap.size 61 v.cells.toArray := by rw [hW]; exact Blk.new w 61 _
  have henc := Ty.enc_eq v
  have hlt := hpv.lt
  have hok := hv.ok
  have HIH := Lib.hid hih
  obtain ⟨p4, q4, e4, n4⟩ := names_in (TNamesAt.of (hv.below hbW))
  obtain ⟨p5, q5, e5, x5⟩ := titems_at (hv.below hbW)
  have hrr := Ty.right_parts hr
  have hkk := Ty.right_kinds hr
  obtain ⟨kn, hkz⟩ : ∃ kn : Nat, v.k = (kn : Int) := ⟨v.k.toNat, by omega⟩
  have k6 : (((kn : Nat) : Int) == 6) = false := by simp; omega
  have k6' : (kn == 6) = false := by simp; omega
  have hw8 : IntKind.u8.wrap (kn : Int) = kn := by rw [IntKind.wrap_u8]; omega
  unfold Ty.cells at hW hpv
  unfold Ty.agg
  rw [hkz, e4, e5] at hW hpv ⊢
  have a0 := hpv.cell 0; have a4 := hpv.cell 1; have a5 := hpv.cell 2
  simp only [List.getElem?_toArray, List.getElem?_cons_zero, List.getElem?_cons_succ] at a0 a4 a5
  have hzW : W.heap.size = w.heap.size + 1 := by rw [hW]; simp
  have HW := Lib.hid hW; have HB := Lib.hid hbW; have HPV := Lib.hid hpv
  have hc1 := conv1 W (w.heap.size + 1) (kn : Int) 1 (by rw [hzW])
  rw [show Int.toNat ((kn : Nat) : Int) = kn from rfl] at hc1
  change _ = Result.ok (Value.string (strB [UInt8.ofNat kn])) _ at hc1
  obtain ⟨m0, hm0⟩ : ∃ m0, m0 = [UInt8.ofNat kn] := ⟨_, rfl⟩
  rw [← hm0] at hc1
  obtain ⟨T, hT⟩ : ∃ T, T = v.enc := ⟨_, rfl⟩
  have hTe : T = m0 ++ Ty.encAll false v.ns v.xs := by rw [hT, henc, if_neg hk, decide_eq_false hk, hkz, hm0]; rfl
  obtain ⟨L, hL⟩ : ∃ L, L = v.xs.length := ⟨_, rfl⟩
  have hxl := hok.2.2.1
  rw [← hT] at hlen ⊢
  rw [← hL] at hxl HW a5 ⊢
  have HT := Lib.hid hTe; have HRR := Lib.hid hrr; have HX5 := Lib.hid x5; have HN4 := Lib.hid n4; have HL := Lib.hid hL; have HLEN := Lib.hid hlen; have HKZ := Lib.hid hkz
  clear hr hW hbW hpv e4 e5 hv hok henc hlen hih hrr x5 n4 hL hT hTe hk hkk hkz hm0
  go_enter Try.func37, Try.ntmps37
  go_wp2_with fail
  rw [← HW.out, hc1]
  have HB2 := Lib.hid ((Below.refl W.heap.size W).alloc (Nat.le_refl _) (.cells #[.int .u8 (kn : Int)] 5))
  go_wp2_with fail
  go_loopw [3, 4] (fun sv iv wr => ∃ (i : Nat) (m : List UInt8), sv = .string (strB m) ∧ iv = .int .i64 (i : Int) ∧ i ≤ L ∧ Hid (m ++ Ty.encAll false (v.ns.drop i) (v.xs.drop i) = T) ∧ Hid (Below W.heap.size W wr)) (fun _ iv _ => L - (intOf iv).toNat)
  case atStart => exact ⟨0, m0, rfl, rfl, by omega, Lib.hid (by rw [HT.out]; rfl), HB2⟩
  case round =>
    obtain ⟨i, m, rfl, rfl, hi, HR, HBR⟩ := hrel
    clear a0 a4 a5 HB2 HT
    have q := HPV.out.below HBR.out HPV.out.lt
    have a0 := q.cell 0; have a4 := q.cell 1; have a5 := q.cell 2
    simp only [List.getElem?_toArray, List.getElem?_cons_zero, List.getElem?_cons_succ] at a0 a4 a5
    rw [← HL.out] at a5
    try rw [← HL.out] at a4
    by_cases hlt2 : i < L
    · have hil : i < v.xs.length := by rw [← HL.out]; exact hlt2
      obtain ⟨xb, xo, rfl, hpx, hlc⟩ := HX5.out i hil
      rw [← HL.out] at hlc
      have hst := tencAll_step (b := false) (ns := v.ns) hil
      obtain ⟨x, hxx⟩ : ∃ x, x = v.xs[i]'hil := ⟨_, rfl⟩
      have hxm : x ∈ v.xs := by rw [hxx]; exact List.getElem_mem hil
      have hR := HR.out
      rw [hst] at hR
      rw [← hxx] at hR hpx
      simp only [cond_false, cond_true, List.nil_append] at hR
      have hk0 : (0 : Int) ≤ (i : Int) := by omega
      have hk1 : (i : Int) < (L : Int) := by omega
      have hpx := hpx.below HBR.out
      have x0 := hpx.c0; have x4 := hpx.c1; have x5 := hpx.c2
      obtain ⟨s4, z4, g4⟩ := hpx.in.nslice
      obtain ⟨s5, z5, g5⟩ := hpx.in.xslice
      rw [g4] at x4
      rw [g5] at x5
      have hll := HLEN.out
      rw [← hR] at hll
      simp only [List.length_append] at hll
      have HC2 := Lib.hid (HIH.out x wr hxm hpx.in (HRR.out.1 x hxm) (by omega))
      unfold Ty.agg at HC2
      rw [g4, g5] at HC2
      have HR2 := Lib.hid hR
      have hm1 : (strB m).size + 20 ≤ 140737488355328 := by rw [strB_size]; omega
      have hm2 : (strB x.enc).size + 20 ≤ 140737488355328 := by rw [strB_size]; omega
      have hm3 : (strB m).size + (strB x.enc).size + 20 ≤ 140737488355328 := by rw [strB_size, strB_size]; omega
      have HJ2 := Lib.hid (strB_append m x.enc)
      clear q hst hR hpx g4 g5 hll hxx hil HR
      go_wp2_with fail
      refine HC2.out.mono ?_
      rintro e w3 ⟨rfl, hb⟩
      have HB3 := Lib.hid (HBR.out.trans (hb.mono HBR.out.size))
      clear hb HC2 a0 a4 a5 x0 x4 x5
      go_wp2_with fail
      go_roundw
      case rel => exact ⟨i + 1, _, by rw [HJ2.out], by go_num, by omega, Lib.hid (by rw [← HR2.out, List.append_assoc]), HB3⟩
      case measure => simp [intOf]; omega
    · have t1 : decide ((i : Int) < (L : Int)) = false := by simp; omega
      have t1' : decide (i < L) = false := by simp; omega
      have hmT : m = T := by
        have hR := HR.out
        rw [show v.xs.drop i = [] from List.drop_eq_nil_of_le (by rw [← HL.out]; omega)] at hR
        simpa [Ty.encAll] using hR
      subst hmT
      clear q HR hlt2 hi
      go_wp2_with fail
      go_ret
      exact ⟨rfl, HB.out.trans (HBR.out.mono HB.out.size)⟩

set_option maxHeartbeats 8000000 in
set_option maxRecDepth 100000 in
theorem rwt_rec (v : Ty) (deep : Nat) (w : World) (hv : v.In w) (hr : v.rightB deep = true) (hlen : v.enc.length + 20 ≤ 140737488355328) (hk : v.k = 6)
    (hih : ∀ (x : Ty) (w : World), x ∈ v.xs → x.In w → x.rightB (deep + 1) = true → x.enc.length + 20 ≤ 140737488355328 → Calls Try.prog 37 #[x.agg] w fun e w' => Told (strB x.enc) w.heap.size w e w') :
    Calls Try.prog 37 #[v.agg] w fun e w' => Told (strB v.enc) w.heap.size w e w' := by
  obtain ⟨W, hW⟩ : ∃ W, W = w.alloc (.cells v.cells.toArray 61) := ⟨_, rfl⟩
  have hbW : Below w.heap.size w W := by rw [hW]; exact (Below.refl _ _).alloc (Nat.le_refl _) _
  have hpv : Blk W w.heap.size 61 v.cells.toArray := by rw [hW]; exact Blk.new w 61 _
  have henc := Ty.enc_eq v
  have hlt := hpv.lt
  have hok := hv.ok
  have HIH := Lib.hid hih
  obtain ⟨p4, q4, e4, n4⟩ := names_in (TNamesAt.of (hv.below hbW))
  obtain ⟨p5, q5, e5, x5⟩ := titems_at (hv.below hbW)
  have hrr := Ty.right_parts hr
  have hkk := Ty.right_kinds hr
  have e4 : v.na.val v.ns.length = .slice p4 v.xs.length q4 := by rw [e4, (hrr.2 hk).1]
  have hkz := hk
  unfold Ty.cells at hW hpv
  unfold Ty.agg
  rw [hkz, e4, e5] at hW hpv ⊢
  have a0 := hpv.cell 0; have a4 := hpv.cell 1; have a5 := hpv.cell 2
  simp only [List.getElem?_toArray, List.getElem?_cons_zero, List.getElem?_cons_succ] at a0 a4 a5
  have hzW : W.heap.size = w.heap.size + 1 := by rw [hW]; simp
  have HW := Lib.hid hW; have HB := Lib.hid hbW; have HPV := Lib.hid hpv
  have hc1 := conv1 W (w.heap.size + 1) 6 1 (by rw [hzW])
  simp only [show UInt8.ofNat (Int.toNat 6) = 6 from rfl] at hc1
  change _ = Result.ok (Value.string (strB [6])) _ at hc1
  have hs1 := strB_size [6]
  obtain ⟨T, hT⟩ : ∃ T, T = v.enc := ⟨_, rfl⟩
  have hTe : T = [6] ++ ub v.xs.length ++ Ty.encAll true v.ns v.xs := by rw [hT, henc, hk]; rfl
  obtain ⟨L, hL⟩ : ∃ L, L = v.xs.length := ⟨_, rfl⟩
  have hxl := hok.2.2.1
  rw [← hT] at hlen ⊢
  rw [← hL] at hxl hTe HW a5 a4 ⊢
  have hul := ub_len64 (n := L) (by omega)
  have hs2 : (uintS L).size ≤ 10 := by show (ub L).toArray.size ≤ 10; rw [List.size_toArray]; exact hul
  have hwr : IntKind.u64.wrap (L : Int) = L := by rw [IntKind.wrap_u64]; omega
  have HC := Lib.hid (fun W => wuint5_any L W (by omega))
  clear hul
  have HT := Lib.hid hTe; have HRR := Lib.hid hrr; have HX5 := Lib.hid x5; have HN4 := Lib.hid n4; have HL := Lib.hid hL; have HLEN := Lib.hid hlen; have HKZ := Lib.hid hkz
  clear hr hW hbW hpv e4 e5 hv hok henc hlen hih hrr x5 n4 hL hT hTe hk hkk hkz
  go_enter Try.func37, Try.ntmps37
  go_wp2_with fail
  rw [← HW.out, hc1]
  go_wp2_with fail
  refine (HC.out _).mono ?_
  rintro e w2 ⟨rfl, hb⟩
  have HB2 := Lib.hid (((Below.refl W.heap.size W).alloc (Nat.le_refl _) (.cells #[.int .u8 6] 5)).trans (hb.mono (by simp)))
  have hj : strB [6] ++ uintS L = strB ([6] ++ ub L) := strB_append _ (ub L)
  obtain ⟨m0, hm0⟩ : ∃ m0, m0 = [6] ++ ub L := ⟨_, rfl⟩
  rw [← hm0] at hj
  have HM0 := Lib.hid hm0
  have HJ := Lib.hid hj
  have hb2 := HPV.out.below HB2.out HPV.out.lt
  clear hb HC hj hm0 a0 a4 a5
  have a0 := hb2.cell 0; have a4 := hb2.cell 1; have a5 := hb2.cell 2
  simp only [List.getElem?_toArray, List.getElem?_cons_zero, List.getElem?_cons_succ] at a0 a4 a5
  rw [← HL.out] at a4 a5
  clear hb2
  go_wp2_with fail
  rw [HJ.out]
  go_loopw [3, 4] (fun sv iv wr => ∃ (i : Nat) (m : List UInt8), sv = .string (strB m) ∧ iv = .int .i64 (i : Int) ∧ i ≤ L ∧ Hid (m ++ Ty.encAll true (v.ns.drop i) (v.xs.drop i) = T) ∧ Hid (Below W.heap.size W wr)) (fun _ iv _ => L - (intOf iv).toNat)
  case atStart => exact ⟨0, m0, rfl, rfl, by omega, Lib.hid (by rw [HT.out, HM0.out]; rfl), HB2⟩
  case round =>
    obtain ⟨i, m, rfl, rfl, hi, HR, HBR⟩ := hrel
    clear a0 a4 a5 HB2 HT
    have q := HPV.out.below HBR.out HPV.out.lt
    have a0 := q.cell 0; have a4 := q.cell 1; have a5 := q.cell 2
    simp only [List.getElem?_toArray, List.getElem?_cons_zero, List.getElem?_cons_succ] at a0 a4 a5
    rw [← HL.out] at a5
    try rw [← HL.out] at a4
    by_cases hlt2 : i < L
    · have hil : i < v.xs.length := by rw [← HL.out]; exact hlt2
      obtain ⟨xb, xo, rfl, hpx, hlc⟩ := HX5.out i hil
      rw [← HL.out] at hlc
      have hst := tencAll_step (b := true) (ns := v.ns) hil
      obtain ⟨x, hxx⟩ : ∃ x, x = v.xs[i]'hil := ⟨_, rfl⟩
      have hxm : x ∈ v.xs := by rw [hxx]; exact List.getElem_mem hil
      have hR := HR.out
      rw [hst] at hR
      rw [← hxx] at hR hpx
      simp only [cond_false, cond_true, List.nil_append] at hR
      have hk0 : (0 : Int) ≤ (i : Int) := by omega
      have hk1 : (i : Int) < (L : Int) := by omega
      have hpx := hpx.below HBR.out
      have x0 := hpx.c0; have x4 := hpx.c1; have x5 := hpx.c2
      obtain ⟨s4, z4, g4⟩ := hpx.in.nslice
      obtain ⟨s5, z5, g5⟩ := hpx.in.xslice
      rw [g4] at x4
      rw [g5] at x5
      have hll := HLEN.out
      rw [← hR] at hll
      simp only [List.length_append] at hll
      have hns := (HRR.out.2 HKZ.out).1
      obtain ⟨nb, no, rfl, hnb, hnc, hncl⟩ := HN4.out i (by rw [hns]; exact hil)
      have hnl : v.ns.length = L := by rw [hns, ← HL.out]
      obtain ⟨s, hs⟩ : ∃ s, s = v.ns.getD i ByteArray.empty := ⟨_, rfl⟩
      rw [← hs] at hnc hR hll
      rw [hnl] at hncl
      have hnw : wr.cell? ⟨nb, no + i, none⟩ = some (.string s) := (HBR.out.cell (p := ⟨nb, no + i, none⟩) hnb).trans hnc
      have hssz : s.size + 10 ≤ 140737488355328 := by
        have h6 : s.data.toList.length = s.size := Array.length_toList
        simp only [strE, List.length_append] at hll
        omega
      have HCS := Lib.hid (wstr5_any s wr hssz)
      have HC2 := Lib.hid (fun (w' : World) (hb : Below wr.heap.size wr w') => HIH.out x w' hxm (hpx.in.below hb) (HRR.out.1 x hxm) (by omega))
      unfold Ty.agg at HC2
      rw [g4, g5] at HC2
      have HPX := Lib.hid hpx
      have HR2 := Lib.hid hR
      have hm1 : (strB m).size + 20 ≤ 140737488355328 := by rw [strB_size]; omega
      have hm2 : (strB x.enc).size + 20 ≤ 140737488355328 := by rw [strB_size]; omega
      have hes : strS s = strB (strE s) := rfl
      have hm4 : (strS s).size + (strB m).size + 20 ≤ 140737488355328 := by rw [hes, strB_size, strB_size]; omega
      have hm3 : (strB (m ++ strE s)).size + (strB x.enc).size + 20 ≤ 140737488355328 := by rw [strB_size, strB_size, List.length_append]; omega
      have HJ1 := Lib.hid (show strB m ++ strS s = strB (m ++ strE s) from strB_append m (strE s))
      have HJ2 := Lib.hid (strB_append (m ++ strE s) x.enc)
      have HG4 := Lib.hid g4; have HG5 := Lib.hid g5; have HQ := Lib.hid q
      clear q hst hR hpx g4 g5 hll hxx hil HR hs hns hnl hnc hes x0 x4 x5
      go_wp2_with fail
      refine HCS.out.mono ?_
      rintro e w3 ⟨rfl, hb⟩
      have HC3 := Lib.hid (HC2.out w3 hb)
      have hpx := HPX.out.below hb
      have hq := HQ.out.below hb HQ.out.lt
      have HB3 := Lib.hid (HBR.out.trans (hb.mono HBR.out.size))
      have a5 := hq.cell 2
      simp only [List.getElem?_toArray, List.getElem?_cons_zero, List.getElem?_cons_succ] at a5
      rw [← HL.out] at a5
      have x0 := hpx.c0; have x4 := hpx.c1; have x5 := hpx.c2
      rw [HG4.out] at x4
      rw [HG5.out] at x5
      clear hb HC2 HCS a0 a4 hnw hpx hq HPX
      go_wp2_with (rw [HJ1.out])
      refine HC3.out.mono ?_
      rintro e w4 ⟨rfl, hb⟩
      have HB4 := Lib.hid (HB3.out.trans (hb.mono HB3.out.size))
      clear hb HC3 a5 x0 x4 x5
      go_wp2_with fail
      go_roundw
      case rel => exact ⟨i + 1, _, by rw [HJ2.out], by go_num, by omega, Lib.hid (by rw [← HR2.out]; simp only [List.append_assoc]), HB4⟩
      case measure => simp [intOf]; omega
    · have t1 : decide ((i : Int) < (L : Int)) = false := by simp; omega
      have t1' : decide (i < L) = false := by simp; omega
      have hmT : m = T := by
        have hR := HR.out
        rw [show v.xs.drop i = [] from List.drop_eq_nil_of_le (by rw [← HL.out]; omega)] at hR
        simpa [Ty.encAll] using hR
      subst hmT
      clear q HR hlt2 hi
      go_wp2_with fail
      go_ret
      exact ⟨rfl, HB.out.trans (HBR.out.mono HB.out.size)⟩

theorem rwtype_any (d : Nat) : ∀ (v : Ty) (deep : Nat) (w : World), v.sz ≤ d → v.In w → v.rightB deep = true → v.enc.length + 20 ≤ 140737488355328 →
    Calls Try.prog 37 #[v.agg] w fun e w' => Told (strB v.enc) w.heap.size w e w' := by
  induction d with
  | zero => intro v deep w hd; rw [Ty.sz_eq] at hd; omega
  | succ d ih =>
    intro v deep w hd hv hr hlen
    have hih : ∀ (x : Ty) (w : World), x ∈ v.xs → x.In w → x.rightB (deep + 1) = true → x.enc.length + 20 ≤ 140737488355328 → Calls Try.prog 37 #[x.agg] w fun e w' => Told (strB x.enc) w.heap.size w e w' :=
      fun x w hx => ih x (deep + 1) w (by have := Ty.size_mem hx; omega)
    by_cases hk : v.k = 6
    · exact rwt_rec v deep w hv hr hlen hk hih
    · exact rwt_plain v deep w hv hr hlen hk hih
end Go.Proofs.Ytemhinagajfemaa
