/- The code's writer of types; codec.Type (printed by wip/gen_tyencw.py). -/
import Derived.Test.YtemhinagajfemaaConeM46
import Derived.Test.YtemhinagajfemaaConeM48
import Derived.StillTailTactics
namespace Go.Proofs.Ytemhinagajfemaa
set_option linter.unusedVariables false
open Go.RowKit

set_option maxHeartbeats 8000000 in
set_option maxRecDepth 100000 in
theorem wtyp_plain (v : Ty) (deep gb go b : Nat) (l : List UInt8) (w0 w : World) (HP : Hid (PTy w0 gb go v)) (HB : Hid (Below w0.heap.size w0 w)) (h : WB w w0.heap.size b l) (hr : v.rightB deep = true) (hlen : l.length + v.enc.length + 20 ≤ 140737488355328) (hk : v.k ≠ 6)
    (HIH : Hid (∀ (x : Ty) (gb go b : Nat) (l : List UInt8) (w : World), x ∈ v.xs → PTy w0 gb go x → Below w0.heap.size w0 w → WB w w0.heap.size b l → x.rightB (deep + 1) = true → l.length + x.enc.length + 20 ≤ 140737488355328 →
      Calls Try.prog 72 #[.pointer (some ⟨b, 0, none⟩), .pointer (some ⟨gb, go, none⟩)] w fun e w' => NumWrote w0.heap.size b (l ++ x.enc) w e w')) :
    Calls Try.prog 72 #[.pointer (some ⟨b, 0, none⟩), .pointer (some ⟨gb, go, none⟩)] w fun e w' => NumWrote w0.heap.size b (l ++ v.enc) w e w' := by
  obtain ⟨p4, q4, e4, hn4⟩ := names_in (TNamesAt.of HP.out.in)
  have HN4 := Lib.hid hn4
  obtain ⟨p5, q5, e5, hx5⟩ := titems_at HP.out.in
  have HX5 := Lib.hid hx5
  have HE4 := Lib.hid e4; have HE5 := Lib.hid e5
  have henc := Ty.enc_eq v
  have hkk := Ty.right_kinds hr
  have HRR := Lib.hid (Ty.right_parts hr)
  have hbsz := HB.out.size
  clear e4 e5 hx5 hn4
  obtain ⟨kn, hkz⟩ : ∃ kn : Nat, v.k = (kn : Int) := ⟨v.k.toNat, by omega⟩
  rw [hkz] at hkk hk
  have hkb : UInt8.ofNat kn = UInt8.ofNat v.k.toNat := by rw [hkz]; rfl
  have HE : Hid (l ++ v.enc = l ++ [UInt8.ofNat kn] ++ Ty.encAll false v.ns v.xs) := Lib.hid (by rw [henc, if_neg (by omega), decide_eq_false (by omega), hkb]; simp)
  have k6 : (((kn : Nat) : Int) == 6) = false := by simp; omega
  have k6' : (kn == 6) = false := by simp; omega
  have hw8 : IntKind.u8.wrap (kn : Int) = kn := by rw [IntKind.wrap_u8]; omega
  clear hkb
  have HKZ := Lib.hid hkz
  have hxl := HP.out.in.ok.2.2.1
  have hub := ub_len64 (n := v.xs.length) (by omega)
  have htot : (l ++ v.enc).length + 20 ≤ 140737488355328 := by rw [List.length_append]; omega
  have HTOT := Lib.hid htot
  have hl2 : l.length + 1 + 12 ≤ 140737488355328 := by rw [henc] at hlen; simp at hlen; omega
  obtain ⟨T, hT⟩ : ∃ T, T = l ++ v.enc := ⟨_, rfl⟩
  rw [← hT] at HE HTOT ⊢
  obtain ⟨M, hM⟩ : ∃ M, M = v.xs.length := ⟨_, rfl⟩
  rw [← hM] at hxl HE5
  have HM := Lib.hid hM
  clear henc hlen hr htot hT hM hk hkz
  have c0 := (HP.out.below HB.out).c0
  rw [HKZ.out] at c0
  have h1 := wbyte_any w0.heap.size b l (UInt8.ofNat kn) w.drew h (by omega) HB.out.size
  rw [byte_of (by omega)] at h1
  have H1 := Lib.hid h1
  clear h h1
  go_enter Try.func72, Try.ntmps72
  go_wp2
  go_still_tail 8, (by kernel_rfl)
  change wpList _ _ _ _ _ w.drew
  go_wp2_with fail
  refine H1.out.mono ?_
  rintro e w2 ⟨rfl, hw2, hb2⟩
  have HB2 := Lib.hid (HB.out.trans ((Below.refl _ w).drew.trans hb2))
  have HW2 := Lib.hid hw2; have HS2 := Lib.hid ((Below.refl w0.heap.size w).drew.trans hb2)
  clear hw2 hb2 H1 c0
  have hq := HP.out.below HB2.out
  have c0 := hq.c0; have c4 := hq.c1; have c5 := hq.c2
  rw [HKZ.out] at c0
  rw [HE4.out] at c4
  rw [← HM.out, HE5.out] at c5
  clear hq
  go_wp2_with fail
  clear c0 c4 c5
  go_loopw [32] (fun iv wr => ∃ (i : Nat) (m : List UInt8), iv = .int .i64 (i : Int) ∧ i ≤ M ∧ Hid (m ++ Ty.encAll false (v.ns.drop i) (v.xs.drop i) = T) ∧ Hid (WB wr w0.heap.size b m) ∧ Hid (Below w0.heap.size w0 wr) ∧ Hid (Below w0.heap.size w wr)) (fun iv _ => M - (intOf iv).toNat)
  case atStart => exact ⟨0, _, rfl, by omega, Lib.hid (by rw [HE.out]; rfl), HW2, HB2, HS2⟩
  case round =>
    obtain ⟨i, m, rfl, hi, HMT, HWM, HBM, HSM⟩ := hrel
    by_cases hlt : i < M
    · have hil : i < v.xs.length := by rw [← HM.out]; exact hlt
      obtain ⟨xb, xo, rfl, hpx, hlc⟩ := HX5.out i hil
      rw [← HM.out] at hlc
      have hst := HMT.out
      rw [tencAll_step hil] at hst
      have hxm : v.xs[i]'hil ∈ v.xs := by simp
      obtain ⟨x, hx⟩ : ∃ x, x = v.xs[i]'hil := ⟨_, rfl⟩
      rw [← hx] at hpx hst hxm
      have hk0 : (0 : Int) ≤ (i : Int) := by omega
      have hk1 : (i : Int) < (M : Int) := by omega
      have hq := HP.out.below HBM.out
      have c0 := hq.c0; have c4 := hq.c1; have c5 := hq.c2
      rw [HKZ.out] at c0
      rw [HE4.out] at c4
      rw [← HM.out, HE5.out] at c5
      have hlen := HTOT.out
      simp only [cond_false, List.nil_append] at hst
      have hc := HIH.out x xb (xo + i * 3) b m wr hxm hpx HBM.out HWM.out (HRR.out.1 x hxm) (by rw [← hst] at hlen; simp only [List.length_append] at hlen; omega)
      have HC := Lib.hid hc; have HST := Lib.hid hst
      clear hil hx hpx hxm hq hlen hc hst HMT
      go_wp2_with fail
      refine HC.out.mono ?_
      rintro e w4 ⟨rfl, hw4, hb4⟩
      have HR : Hid (m ++ x.enc ++ Ty.encAll false (v.ns.drop (i + 1)) (v.xs.drop (i + 1)) = T) := Lib.hid (by rw [← HST.out, List.append_assoc])
      have HW4 := Lib.hid hw4; have HB4 := Lib.hid (HBM.out.trans hb4); have HS4 := Lib.hid (HSM.out.trans hb4)
      clear hw4 hb4 HC HST HWM HBM HSM c0 c4 c5
      go_wp2
      exact ⟨⟨i + 1, _, by go_num, by omega, HR, HW4, HB4, HS4⟩, by simp [intOf]; omega⟩
    · have hT : m = T := by rw [← HMT.out, show v.xs.drop i = [] from List.drop_eq_nil_of_le (by rw [← HM.out]; omega)]; simp [Ty.encAll]
      have HW5 := Lib.hid (show WB wr w0.heap.size b T by rw [← hT]; exact HWM.out)
      clear hT
      go_wp2_with fail
      first | go_end0 | refine bodyPost_ret (results_none rfl _ _ _) rfl ?_
      exact ⟨rfl, HW5.out, HSM.out⟩

set_option maxHeartbeats 8000000 in
set_option maxRecDepth 100000 in
theorem wtyp_rec (v : Ty) (deep gb go b : Nat) (l : List UInt8) (w0 w : World) (HP : Hid (PTy w0 gb go v)) (HB : Hid (Below w0.heap.size w0 w)) (h : WB w w0.heap.size b l) (hr : v.rightB deep = true) (hlen : l.length + v.enc.length + 20 ≤ 140737488355328) (hk : v.k = 6)
    (HIH : Hid (∀ (x : Ty) (gb go b : Nat) (l : List UInt8) (w : World), x ∈ v.xs → PTy w0 gb go x → Below w0.heap.size w0 w → WB w w0.heap.size b l → x.rightB (deep + 1) = true → l.length + x.enc.length + 20 ≤ 140737488355328 →
      Calls Try.prog 72 #[.pointer (some ⟨b, 0, none⟩), .pointer (some ⟨gb, go, none⟩)] w fun e w' => NumWrote w0.heap.size b (l ++ x.enc) w e w')) :
    Calls Try.prog 72 #[.pointer (some ⟨b, 0, none⟩), .pointer (some ⟨gb, go, none⟩)] w fun e w' => NumWrote w0.heap.size b (l ++ v.enc) w e w' := by
  obtain ⟨p4, q4, e4, hn4⟩ := names_in (TNamesAt.of HP.out.in)
  have HN4 := Lib.hid hn4
  obtain ⟨p5, q5, e5, hx5⟩ := titems_at HP.out.in
  have HX5 := Lib.hid hx5
  have HE4 := Lib.hid e4; have HE5 := Lib.hid e5
  have henc := Ty.enc_eq v
  have hkk := Ty.right_kinds hr
  have HRR := Lib.hid (Ty.right_parts hr)
  have hbsz := HB.out.size
  clear e4 e5 hx5 hn4
  have hkz := hk
  rw [hk] at henc
  have HE : Hid (l ++ v.enc = l ++ [6] ++ ub v.xs.length ++ Ty.encAll true v.ns v.xs) := Lib.hid (by rw [henc]; simp)
  have HKZ := Lib.hid hkz
  have hxl := HP.out.in.ok.2.2.1
  have hub := ub_len64 (n := v.xs.length) (by omega)
  have htot : (l ++ v.enc).length + 20 ≤ 140737488355328 := by rw [List.length_append]; omega
  have HTOT := Lib.hid htot
  have hl2 : l.length + 1 + (ub v.xs.length).length + 10 ≤ 140737488355328 := by rw [henc] at hlen; simp only [List.length_cons, List.length_append, if_true] at hlen; omega
  obtain ⟨T, hT⟩ : ∃ T, T = l ++ v.enc := ⟨_, rfl⟩
  rw [← hT] at HE HTOT ⊢
  obtain ⟨M, hM⟩ : ∃ M, M = v.xs.length := ⟨_, rfl⟩
  rw [← hM] at hxl HE5 HE
  have HM := Lib.hid hM
  have hcv : IntKind.u64.wrap (M : Int) = M := by rw [IntKind.wrap_u64]; omega
  rw [← hM] at hub hl2
  clear henc hlen hr htot hT hM hk hkz
  have c0 := (HP.out.below HB.out).c0
  rw [HKZ.out] at c0
  have h1 := wbyte_any w0.heap.size b l 6 w.drew h (by omega) HB.out.size
  have H1 := Lib.hid h1
  clear h h1
  go_enter Try.func72, Try.ntmps72
  go_wp2
  go_still_tail 8, (by kernel_rfl)
  change wpList _ _ _ _ _ w.drew
  go_wp2_with fail
  refine H1.out.mono ?_
  rintro e w2 ⟨rfl, hw2, hb2⟩
  have HB2 := Lib.hid (HB.out.trans ((Below.refl _ w).drew.trans hb2))
  have HW2 := Lib.hid hw2; have HS2 := Lib.hid ((Below.refl w0.heap.size w).drew.trans hb2)
  clear hw2 hb2 H1 c0
  have hq := HP.out.below HB2.out
  have c0 := hq.c0; have c4 := hq.c1; have c5 := hq.c2
  rw [HKZ.out] at c0
  rw [HE4.out] at c4
  rw [← HM.out, HE5.out] at c5
  clear hq
  have H2 := Lib.hid (wuint_any w0.heap.size b (l ++ [6]) M w2 (by omega) HW2.out (by simp; omega) HB2.out.size)
  go_wp2_with fail
  refine H2.out.mono ?_
  rintro e w3 ⟨rfl, hw3, hb3⟩
  have HB3 := Lib.hid (HB2.out.trans hb3); have HS3 := Lib.hid (HS2.out.trans hb3); have HW3 := Lib.hid hw3
  clear hw3 hb3 H2 HB2 HS2 HW2 c0 c4 c5
  have hq := HP.out.below HB3.out
  have c5 := hq.c2
  rw [← HM.out, HE5.out] at c5
  clear hq
  go_wp2_with fail
  clear c5
  go_loopw [32] (fun iv wr => ∃ (i : Nat) (m : List UInt8), iv = .int .i64 (i : Int) ∧ i ≤ M ∧ Hid (m ++ Ty.encAll true (v.ns.drop i) (v.xs.drop i) = T) ∧ Hid (WB wr w0.heap.size b m) ∧ Hid (Below w0.heap.size w0 wr) ∧ Hid (Below w0.heap.size w wr)) (fun iv _ => M - (intOf iv).toNat)
  case atStart => exact ⟨0, _, rfl, by omega, Lib.hid (by rw [HE.out]; rfl), HW3, HB3, HS3⟩
  case round =>
    obtain ⟨i, m, rfl, hi, HMT, HWM, HBM, HSM⟩ := hrel
    by_cases hlt : i < M
    · have hil : i < v.xs.length := by rw [← HM.out]; exact hlt
      obtain ⟨xb, xo, rfl, hpx, hlc⟩ := HX5.out i hil
      rw [← HM.out] at hlc
      have hst := HMT.out
      rw [tencAll_step hil] at hst
      have hxm : v.xs[i]'hil ∈ v.xs := by simp
      obtain ⟨x, hx⟩ : ∃ x, x = v.xs[i]'hil := ⟨_, rfl⟩
      rw [← hx] at hpx hst hxm
      have hk0 : (0 : Int) ≤ (i : Int) := by omega
      have hk1 : (i : Int) < (M : Int) := by omega
      have hq := HP.out.below HBM.out
      have c0 := hq.c0; have c4 := hq.c1; have c5 := hq.c2
      rw [HKZ.out] at c0
      rw [HE4.out] at c4
      rw [← HM.out, HE5.out] at c5
      have hlen := HTOT.out
      simp only [cond_true] at hst
      have hnx := (HRR.out.2 HKZ.out).1
      obtain ⟨nb, no, rfl, hnb, hnc, hncl⟩ := HN4.out i (by rw [hnx]; exact hil)
      obtain ⟨s, hs⟩ : ∃ s, s = v.ns.getD i ByteArray.empty := ⟨_, rfl⟩
      have hs30 : s.size ≤ 30 := by
        rw [hs]
        have hi2 : i < v.ns.length := by rw [hnx]; exact hil
        have : v.ns.getD i ByteArray.empty = v.ns[i]'hi2 := by simp [hi2]
        rw [this]
        exact (HRR.out.2 HKZ.out).2 _ (List.getElem_mem hi2)
      rw [← hs] at hnc hst
      have hnw : wr.cell? ⟨nb, no + i, none⟩ = some (.string s) := (HBM.out.cell (p := ⟨nb, no + i, none⟩) hnb).trans hnc
      have hnl : v.ns.length = M := by rw [hnx, ← HM.out]
      rw [hnl] at hncl c4
      have hsl : s.data.toList.length = s.size := Array.length_toList
      have hus := ub_len64 (n := s.size) (by omega)
      have hlm : m.length + (strE s).length + x.enc.length + 20 ≤ 140737488355328 := by rw [← hst] at hlen; simp only [List.length_append] at hlen; omega
      have hlm2 : m.length + 10 + s.size ≤ 140737488355328 := by simp only [strE, List.length_append] at hlm; have := Ty.enc_ne x; omega
      have H5 := Lib.hid (wstrw_any w0.heap.size b m s wr (by omega) HWM.out hlm2 HBM.out.size)
      have HC := Lib.hid (fun (W : World) (hb : Below w0.heap.size w0 W) (hw : WB W w0.heap.size b (m ++ ub s.size ++ s.data.toList)) => HIH.out x xb (xo + i * 3) b _ W hxm hpx hb hw (HRR.out.1 x hxm) (by simp only [List.length_append] at hlm ⊢; simp only [strE, List.length_append] at hlm; omega))
      have HST := Lib.hid hst
      clear hil hx hpx hxm hq hlen hst HMT hs hsl hus hlm hlm2 hnc hnx hnl
      go_wp2_with fail
      refine H5.out.mono ?_
      rintro e w4 ⟨rfl, hw4, hb4⟩
      have HB4 := Lib.hid (HBM.out.trans hb4); have HS4 := Lib.hid (HSM.out.trans hb4)
      have HC4 := Lib.hid (HC.out w4 HB4.out hw4)
      have hq := HP.out.below HB4.out
      clear c0 c4 c5 hw4 hb4 H5 HC HWM HBM HSM hnw
      have c5 := hq.c2
      rw [← HM.out, HE5.out] at c5
      clear hq
      go_wp2_with fail
      refine HC4.out.mono ?_
      rintro e w5 ⟨rfl, hw5, hb5⟩
      have HR : Hid (m ++ ub s.size ++ s.data.toList ++ x.enc ++ Ty.encAll true (v.ns.drop (i + 1)) (v.xs.drop (i + 1)) = T) := Lib.hid (by rw [← HST.out]; simp only [strE, List.append_assoc])
      have HW5 := Lib.hid hw5; have HB5 := Lib.hid (HB4.out.trans hb5); have HS5 := Lib.hid (HS4.out.trans hb5)
      clear hw5 hb5 HC4 HST HB4 HS4 c5
      go_wp2
      exact ⟨⟨i + 1, _, by go_num, by omega, HR, HW5, HB5, HS5⟩, by simp [intOf]; omega⟩
    · have hT : m = T := by rw [← HMT.out, show v.xs.drop i = [] from List.drop_eq_nil_of_le (by rw [← HM.out]; omega)]; simp [Ty.encAll]
      have HW5 := Lib.hid (show WB wr w0.heap.size b T by rw [← hT]; exact HWM.out)
      clear hT
      go_wp2_with fail
      first | go_end0 | refine bodyPost_ret (results_none rfl _ _ _) rfl ?_
      exact ⟨rfl, HW5.out, HSM.out⟩

theorem wtyp_any (w0 : World) (d : Nat) : ∀ (v : Ty) (deep gb go b : Nat) (l : List UInt8) (w : World), v.sz ≤ d → PTy w0 gb go v → Below w0.heap.size w0 w → WB w w0.heap.size b l → v.rightB deep = true → l.length + v.enc.length + 20 ≤ 140737488355328 →
    Calls Try.prog 72 #[.pointer (some ⟨b, 0, none⟩), .pointer (some ⟨gb, go, none⟩)] w fun e w' => NumWrote w0.heap.size b (l ++ v.enc) w e w' := by
  induction d with
  | zero => intro v deep gb go b l w hd; rw [Ty.sz_eq] at hd; omega
  | succ d ih =>
    intro v deep gb go b l w hd hp hb h hr hlen
    have hih : ∀ (x : Ty) (gb go b : Nat) (l : List UInt8) (w : World), x ∈ v.xs → PTy w0 gb go x → Below w0.heap.size w0 w → WB w w0.heap.size b l → x.rightB (deep + 1) = true → l.length + x.enc.length + 20 ≤ 140737488355328 →
      Calls Try.prog 72 #[.pointer (some ⟨b, 0, none⟩), .pointer (some ⟨gb, go, none⟩)] w fun e w' => NumWrote w0.heap.size b (l ++ x.enc) w e w' := fun x gb go b l w hx => ih x (deep + 1) gb go b l w (by have := Ty.size_mem hx; omega)
    by_cases hk : v.k = 6
    · exact wtyp_rec v deep gb go b l w0 w hp hb h hr hlen hk hih
    · exact wtyp_plain v deep gb go b l w0 w hp hb h hr hlen hk hih

set_option maxHeartbeats 1000000 in
theorem type_any (v : Ty) (w : World) (h : v.In w) : Calls Try.prog 34 #[v.agg] w fun e w' => ValuedOr v.RightB v.enc w e w' := by
  obtain ⟨W, hW⟩ : ∃ W, W = w.alloc (.cells #[.int .i64 v.k, v.na.val v.ns.length, v.xa.val v.xs.length] 61) := ⟨_, rfl⟩
  have hp : PTy W w.heap.size 0 v := by rw [hW]; exact PTy.new w v 61 h
  have hB : Below w.heap.size w W := by rw [hW]; exact (Below.refl _ _).alloc (Nat.le_refl _) _
  have hr := tright_any v W hp.in
  have c0 := hp.c0; have c4 := hp.c1; have c5 := hp.c2
  simp only [Nat.zero_add] at c4 c5
  obtain ⟨p4, q4, e4⟩ := hp.in.nslice
  obtain ⟨p5, q5, e5⟩ := hp.in.xslice
  have HEB := Lib.hid (fun hr : v.RightB = true => Ty.enc_bound v hr h)
  have HW := Lib.hid hW; have HP := Lib.hid hp; have HBL := Lib.hid hB; have HR := Lib.hid hr
  have hlt := Lib.hid hp.2.1
  clear hW hp hB hr e4 e5 h
  by_cases hv : v.RightB = true
  · have HV := Lib.hid hv
    rw [hv] at HR
    clear hv
    go_enter Try.func34, Try.ntmps34
    go_wp2_with fail
    rw [← HW.out]
    go_wp2_with fail
    refine HR.out.mono ?_
    rintro e w2 ⟨rfl, hl⟩
    have hp2 := HP.out.below (hl.mono (Nat.le_refl _))
    have hL2 := HBL.out.trans (hl.mono HBL.out.size)
    have hen := HEB.out HV.out
    have hV1 : v.rightB 1 = true := by
      have := HV.out
      unfold Ty.RightB at this
      rw [Bool.and_eq_true] at this
      exact this.2
    have HC := Lib.hid (wtyp_any w2 v.sz v 1 w.heap.size 0 w2.heap.size [] (w2.alloc (.cells #[.pointer none, .slice none 0 0] 89)) (Nat.le_refl _) hp2 ((Below.refl _ _).alloc (Nat.le_refl _) _) (wb_new w2 _ (Nat.le_refl _)) hV1 (by simp only [List.length_nil]; omega))
    have hz2 := hp2.2.1
    have HL := Lib.hid (hL2.alloc hL2.size (.cells #[.pointer none, .slice none 0 0] 89))
    clear hl hp2 hL2 hen hV1 HR HBL HEB HP c0 c4 c5
    go_wp2_with fail
    refine HC.out.mono ?_
    rintro e w3 ⟨rfl, hw3, hb3⟩
    have hs := Lib.hid (string_some w2.heap.size w2.heap.size w3 ([] ++ v.enc) hw3 (by simpa using Ty.enc_ne v))
    have hz3 : w.heap.size ≤ w2.heap.size := by omega
    have HL3 := Lib.hid (HL.out.trans (hb3.mono hz3))
    clear hw3 hb3 HC HL
    go_wp2_with fail
    refine hs.out.mono ?_
    rintro e w4 ⟨rfl, hb4⟩
    have hL4 := HL3.out.trans (hb4.mono hz3)
    clear hb4 HL3 hs
    go_wp2
    go_ret2
    exact ⟨by rw [HV.out]; rfl, hL4⟩
  · rw [Bool.not_eq_true] at hv
    have HV := Lib.hid hv
    rw [hv] at HR
    clear hv
    go_enter Try.func34, Try.ntmps34
    go_wp2_with fail
    rw [← HW.out]
    go_wp2_with fail
    refine HR.out.mono ?_
    rintro e w2 ⟨rfl, hl⟩
    have HL2 := Lib.hid (HBL.out.trans (hl.mono HBL.out.size))
    clear hl
    go_wp2
    go_ret2
    exact ⟨by rw [HV.out]; rfl, HL2.out⟩
end Go.Proofs.Ytemhinagajfemaa
