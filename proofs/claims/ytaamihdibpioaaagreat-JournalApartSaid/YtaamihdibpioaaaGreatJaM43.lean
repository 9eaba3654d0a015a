/- journal: a record's bytes, Write, Crash. -/
import Derived.Test.YtaamihdibpioaaaGreatJaM4
import Derived.Test.YtaamihdibpioaaaGreatJaM35
import Derived.Test.YtaamihdibpioaaaGreatJaM38
import Derived.Test.YtaamihdibpioaaaGreatJaM40
import Derived.Test.YtaamihdibpioaaaGreatJaM42
namespace Go.Proofs.YtaamihdibpioaaaGreat.Jr
set_option linter.unusedVariables false
open Go.RowKit Go.Proofs.YtaamihdibpioaaaGreat.Crc Go.Proofs.YtaamihdibpioaaaGreat.Pk

/-- The error ahead of the disk's. -/
def encE : Option (List UInt8) → Int
  | none => 5
  | some l => if 2000 < 4 + l.length then 5 else 0
def jB (s : Jt) (label : Int) (enc : Option (List UInt8)) : Int :=
  bif s.torn then 14 else bif isSeg s.n label then encE enc else 3
theorem jE_eq (s : Jt) (label : Int) (enc : Option (List UInt8)) : jE s label enc = if jB s label enc = 0 then tearE s.n s.rows label (jF s enc) else jB s label enc := by
  unfold jE jB
  cases s.torn with
  | true => rfl
  | false =>
    cases isSeg s.n label with
    | false => rfl
    | true =>
      cases enc with
      | none => rfl
      | some l =>
        show (if 2000 < 4 + l.length then 5 else tearE s.n s.rows label (frameOf (payB s.next l))) = if encE (some l) = 0 then tearE s.n s.rows label (jF s (some l)) else encE (some l)
        by_cases h : 2000 < 4 + l.length
        · have e : encE (some l) = 5 := by simp only [encE]; rw [if_pos h]
          rw [if_pos h, e]; rfl
        · have e : encE (some l) = 0 := by simp only [encE]; rw [if_neg h]
          rw [if_neg h, e]; rfl
def jS (s : Jt) (label : Int) (enc : Option (List UInt8)) : ByteArray := if jB s label enc = 0 then jF s enc else ByteArray.empty
def Byted (S : ByteArray) (k : Int) (w : World) (e : Ending) (w' : World) : Prop := e = .returned (.tuple #[.string S, .int .i64 k]) ∧ Below w.heap.size w w'
theorem pay_join (n : Nat) (l : List UInt8) : (⟨(num4 n).toArray⟩ : ByteArray) ++ ⟨l.toArray⟩ = payB n l := strB_append (num4 n) l
set_option maxHeartbeats 4000000 in
set_option maxRecDepth 100000 in
theorem bytes_any (j d : Nat) (s : Jt) (label : Int) (c : Cm) (w : World) (h : JAt w j d s) (hn : s.next < 1000000000) (hc : c.In w) :
    Calls Tryz.prog 25 #[.pointer (some ⟨j, 0, none⟩), .int .i64 label, c.agg] w fun e w' => Byted (jS s label c.enc) (jB s label c.enc) w e w' := by
  obtain ⟨p4, q4, e4⟩ := hc.2.1.nslice
  obtain ⟨p5, q5, e5⟩ := hc.2.1.xslice
  obtain ⟨r4, t4, f4⟩ := hc.2.2.nslice
  obtain ⟨r5, t5, f5⟩ := hc.2.2.xslice
  obtain ⟨C, hC⟩ : ∃ C, C = w.heap.size := ⟨_, rfl⟩
  obtain ⟨W, hW⟩ : ∃ W, W = w.alloc (.cells c.cells.toArray 39) := ⟨_, rfl⟩
  have hb : Below w.heap.size w W := by rw [hW]; exact (Below.refl _ _).alloc (Nat.le_refl _) _
  have hbc : Blk W C 39 c.cells.toArray := by rw [hW, hC]; exact Blk.new _ _ _
  have hcW := hc.below hb
  have hJ := h.below hb
  have hcm := cmd_any c W hcW
  have hag : c.agg = .agg #[.int .i64 c.k, .int .i64 c.nd, .int .i64 c.il, .int .i64 c.inn, .int .i64 c.n, .int .i64 c.key.k, .int .i64 c.key.n, .float .f64 c.key.f, .string c.key.s, .slice p4 c.key.ns.length q4, .slice p5 c.key.xs.length q5, .int .i64 c.v.k, .int .i64 c.v.n, .float .f64 c.v.f, .string c.v.s, .slice r4 c.v.ns.length t4, .slice r5 c.v.xs.length t5] := by
    unfold Cm.agg Cm.cells Val.cells; rw [e4, e5, f4, f5]; rfl
  have hbc' : Blk W C 39 #[.int .i64 c.k, .int .i64 c.nd, .int .i64 c.il, .int .i64 c.inn, .int .i64 c.n, .int .i64 c.key.k, .int .i64 c.key.n, .float .f64 c.key.f, .string c.key.s, .slice p4 c.key.ns.length q4, .slice p5 c.key.xs.length q5, .int .i64 c.v.k, .int .i64 c.v.n, .float .f64 c.v.f, .string c.v.s, .slice r4 c.v.ns.length t4, .slice r5 c.v.xs.length t5] := by
    unfold Cm.cells Val.cells at hbc; rw [e4, e5, f4, f5] at hbc; exact hbc
  unfold Cm.cells Val.cells at hW
  rw [e4, e5, f4, f5] at hW
  simp only [List.cons_append, List.nil_append] at hW
  rw [hag] at hcm ⊢
  have j1 := hJ.jb.cell 1; have j2 := hJ.jb.cell 2; have j3 := hJ.jb.cell 3
  simp at j1 j2 j3
  have hz8 := h.dk.n8
  have hz1 := h.dk.n1
  have hjl := hJ.jb.lt
  obtain ⟨EN, hEN⟩ : ∃ EN, EN = c.enc := ⟨_, rfl⟩
  rw [← hEN] at hcm ⊢
  have hls : ∀ l, EN = some l → l.length ≤ 1000000 := fun l hl => by
    rw [hEN] at hl
    have hl' := hl
    unfold Cm.enc at hl'
    cases hA : c.ints.all numOk with
    | false => rw [hA] at hl'; cases hl'
    | true =>
      rw [hA] at hl'
      simp only [cond_true] at hl'
      cases hk : someB c.key with
      | none => rw [hk] at hl'; cases hl'
      | some a =>
        rw [hk] at hl'
        simp only at hl'
        cases hv : someB c.v with
        | none => rw [hv] at hl'; cases hl'
        | some b =>
          rw [hv] at hl'
          injection hl' with hl'
          have h1 := someB_len hc.2.1 hk
          have h2 := someB_len hc.2.2 hv
          have h3 := numsB_len c.ints hA
          have h4 : c.ints.length = 5 := rfl
          rw [← hl', List.length_append, List.length_append]
          omega
  obtain ⟨B, hB⟩ : ∃ B, B = jB s label EN := ⟨_, rfl⟩
  obtain ⟨SS, hSS⟩ : ∃ SS, SS = jS s label EN := ⟨_, rfl⟩
  have hB2 : B = bif s.torn then 14 else bif isSeg s.n label then encE EN else 3 := hB
  have hS2 : SS = if B = 0 then jF s EN else ByteArray.empty := by rw [hSS, hB]; rfl
  rw [← hB, ← hSS]
  obtain ⟨T, hT⟩ : ∃ T, T = s.torn := ⟨_, rfl⟩
  rw [← hT] at j3 hB2
  obtain ⟨n, hnn⟩ : ∃ n, n = s.n := ⟨_, rfl⟩
  rw [← hnn] at j1 hB2 hz8 hz1
  obtain ⟨x, hx⟩ : ∃ x, x = s.next := ⟨_, rfl⟩
  rw [← hx] at j2 hn
  have hjb := hJ.jb
  rw [← hT, ← hnn, ← hx] at hjb
  have hF : ∀ l, jF s (some l) = frameOf (payB x l) := fun l => by rw [hx]; rfl
  have HC := Lib.hid hC; have HW := Lib.hid hW; have HB := Lib.hid hb; have HBC := Lib.hid hbc'; have HCM := Lib.hid hcm; have HB2 := Lib.hid hB2; have HS2 := Lib.hid hS2; have HF := Lib.hid hF; have HJ := Lib.hid hjb; have HLS := Lib.hid hls
  clear hC hW hb hbc hbc' hcm hB2 hS2 hF hJ hjb hag hB hSS hT hnn hx hEN e4 e5 f4 f5 hcW hc h hls
  cases T with
  | true =>
    have HBV : Hid (B = 14) := Lib.hid (by rw [HB2.out]; rfl)
    have HSV : Hid (SS = ByteArray.empty) := Lib.hid (by rw [HS2.out, HBV.out]; rfl)
    go_enter Tryz.func25, Tryz.ntmps25
    go_upto_region 1 with fail
    rw [← HW.out, ← HC.out]
    go_wp2
    go_ret2
    rw [HBV.out, HSV.out]
    exact ⟨rfl, HB.out⟩
  | false =>
    by_cases hl0 : label < 0
    · have i0 : decide (label < 0) = true := by simpa using hl0
      have HBV : Hid (B = 3) := Lib.hid (by rw [HB2.out, show isSeg n label = false by unfold isSeg; simp; omega]; rfl)
      have HSV : Hid (SS = ByteArray.empty) := Lib.hid (by rw [HS2.out, HBV.out]; rfl)
      go_enter Tryz.func25, Tryz.ntmps25
      go_upto_region 1 with fail
      rw [← HW.out, ← HC.out]
      go_wp2
      go_ret2
      rw [HBV.out, HSV.out]
      exact ⟨rfl, HB.out⟩
    · by_cases hln : (n : Int) ≤ label
      · have i0 : decide (label < 0) = false := by simpa using hl0
        have i1 : decide ((n : Int) ≤ label) = true := by simpa using hln
        have HBV : Hid (B = 3) := Lib.hid (by rw [HB2.out, show isSeg n label = false by unfold isSeg; simp; omega]; rfl)
        have HSV : Hid (SS = ByteArray.empty) := Lib.hid (by rw [HS2.out, HBV.out]; rfl)
        go_enter Tryz.func25, Tryz.ntmps25
        go_upto_region 1 with fail
        rw [← HW.out, ← HC.out]
        go_wp2
        go_ret2
        rw [HBV.out, HSV.out]
        exact ⟨rfl, HB.out⟩
      · have i0 : decide (label < 0) = false := by simpa using hl0
        have i1 : decide ((n : Int) ≤ label) = false := by simpa using hln
        have HSG : Hid (isSeg n label = true) := Lib.hid (by unfold isSeg; simp; omega)
        have c0 := HBC.out.cell 0; have c1 := HBC.out.cell 1; have c2 := HBC.out.cell 2; have c3 := HBC.out.cell 3; have c4 := HBC.out.cell 4; have c5 := HBC.out.cell 5; have c6 := HBC.out.cell 6; have c7 := HBC.out.cell 7; have c8 := HBC.out.cell 8; have c9 := HBC.out.cell 9; have c10 := HBC.out.cell 10; have c11 := HBC.out.cell 11; have c12 := HBC.out.cell 12; have c13 := HBC.out.cell 13; have c14 := HBC.out.cell 14; have c15 := HBC.out.cell 15; have c16 := HBC.out.cell 16
        simp only [List.getElem?_toArray, List.getElem?_cons_zero, List.getElem?_cons_succ] at c0 c1 c2 c3 c4 c5 c6 c7 c8 c9 c10 c11 c12 c13 c14 c15 c16
        go_enter Tryz.func25, Tryz.ntmps25
        go_upto_region 1 with fail
        rw [← HW.out, ← HC.out]
        go_wp2_with fail
        refine HCM.out.mono ?_
        rintro e w1 ⟨hb1, rfl⟩
        have B1 := Lib.hid (HB.out.trans (hb1.mono HB.out.size))
        have J1 := Lib.hid (HJ.out.below hb1 hjl)
        clear hb1 c0 c1 c2 c3 c4 c5 c6 c7 c8 c9 c10 c11 c12 c13 c14 c15 c16 j1 j2 j3 HCM
        cases EN with
        | none =>
          have HBV : Hid (B = 5) := Lib.hid (by rw [HB2.out, HSG.out]; rfl)
          have HSV : Hid (SS = ByteArray.empty) := Lib.hid (by rw [HS2.out, HBV.out]; rfl)
          simp only [cmdS, cmdErr]
          go_wp2
          go_ret2
          rw [HBV.out, HSV.out]
          exact ⟨rfl, B1.out⟩
        | some l =>
          have j2 := J1.out.cell 2
          simp at j2
          have hll := HLS.out l rfl
          have HNM := Lib.hid (number_any x w1 (by omega))
          have hcat : ¬ 9223372036854775807 < (⟨(num4 x).toArray⟩ : ByteArray).size + (⟨l.toArray⟩ : ByteArray).size := by
            have e1 : (⟨(num4 x).toArray⟩ : ByteArray).size = 4 := by rw [← size_list]; rfl
            have e2 : (⟨l.toArray⟩ : ByteArray).size = l.length := by rw [← size_list]
            omega
          have hpj := pay_join x l
          have HPJ := Lib.hid hpj
          clear hpj
          simp only [cmdS, cmdErr]
          go_wp2_with fail
          refine HNM.out.mono ?_
          rintro e w2 ⟨rfl, hb2⟩
          have B2 := Lib.hid (B1.out.trans (hb2.mono B1.out.size))
          clear hb2 HNM
          by_cases hlong : 2000 < 4 + l.length
          · have HBV : Hid (B = 5) := Lib.hid (by rw [HB2.out, HSG.out]; simp only [cond_false, cond_true, encE]; rw [if_pos hlong])
            have HSV : Hid (SS = ByteArray.empty) := Lib.hid (by rw [HS2.out, HBV.out]; rfl)
            have HMK := Lib.hid (make_bad (payB x l) w2 (by rw [payB_size]; omega) (.inr (by rw [payB_size]; omega)))
            clear hlong
            go_wp2_with fail
            rw [HPJ.out]
            refine HMK.out.mono ?_
            rintro e w3 ⟨rfl, rfl⟩
            go_wp2
            go_ret2
            rw [HBV.out, HSV.out]
            exact ⟨rfl, B2.out⟩
          · have HBV : Hid (B = 0) := Lib.hid (by rw [HB2.out, HSG.out]; simp only [cond_false, cond_true, encE]; rw [if_neg hlong])
            have HSV : Hid (SS = frameOf (payB x l)) := Lib.hid (by rw [HS2.out, if_pos HBV.out, HF.out])
            have HMK := Lib.hid (make_ok (payB x l) w2 (by rw [payB_size]; omega) (by rw [payB_size]; omega))
            clear hlong
            go_wp2_with fail
            rw [HPJ.out]
            refine HMK.out.mono ?_
            rintro e w3 ⟨rfl, hb3⟩
            have B3 := Lib.hid (B2.out.trans (hb3.mono B2.out.size))
            clear hb3
            go_wp2
            go_ret2
            rw [HBV.out, HSV.out]
            exact ⟨rfl, B3.out⟩
end Go.Proofs.YtaamihdibpioaaaGreat.Jr

/- journal: Write, Crash. -/
namespace Go.Proofs.YtaamihdibpioaaaGreat.Jr
set_option linter.unusedVariables false
open Go.RowKit Go.Proofs.YtaamihdibpioaaaGreat.Crc Go.Proofs.YtaamihdibpioaaaGreat.Pk

/-- What a write did. -/
def JDid (k : Int) (s' : Jt) (j d : Nat) (w : World) (e : Ending) (w' : World) : Prop := e = .returned (.int .i64 k) ∧ JAt w' j d s' ∧ Keeps2 w w' j d
theorem tear_same {n : Nat} {rows : List ByteArray} {i : Int} {s : ByteArray} {keep : Int} (h : tearE n rows i s ≠ 0) : tearR n rows i s keep = rows := by
  unfold tearE at h
  unfold tearR
  cases h1 : isSeg n i with
  | false => rfl
  | true =>
    rw [h1] at h
    cases h2 : fits rows i s with
    | false => rfl
    | true => rw [h2] at h; exact absurd rfl h
theorem jF_size {s : Jt} {label : Int} {enc : Option (List UInt8)} (h : jB s label enc = 0) : (jF s enc).size ≤ 2006 := by
  unfold jB at h
  cases ht : s.torn with
  | true => rw [ht] at h; simp at h
  | false =>
    rw [ht] at h
    cases hs : isSeg s.n label with
    | false => rw [hs] at h; simp at h
    | true =>
      rw [hs] at h
      cases enc with
      | none => simp [encE] at h
      | some l =>
        simp only [cond_false, cond_true, encE] at h
        split at h
        · omega
        · have := frame_lenAt (p := payB s.next l) (by rw [payB_size]; omega)
          unfold jF
          show (frameOf (payB s.next l)).size ≤ 2006
          rw [this, payB_size]
          omega
set_option maxHeartbeats 4000000 in
set_option maxRecDepth 100000 in
theorem jwrite_any (j d : Nat) (s : Jt) (label : Int) (c : Cm) (w : World) (h : JAt w j d s) (hn : s.next < 1000000000) (hc : c.In w) :
    Calls Tryz.prog 10 #[.pointer (some ⟨j, 0, none⟩), .int .i64 label, c.agg] w fun e w' => JDid (jE s label c.enc) (jWrite s label c.enc) j d w e w' := by
  obtain ⟨p4, q4, e4⟩ := hc.2.1.nslice
  obtain ⟨p5, q5, e5⟩ := hc.2.1.xslice
  obtain ⟨r4, t4, f4⟩ := hc.2.2.nslice
  obtain ⟨r5, t5, f5⟩ := hc.2.2.xslice
  obtain ⟨C, hC⟩ : ∃ C, C = w.heap.size := ⟨_, rfl⟩
  obtain ⟨W, hW⟩ : ∃ W, W = w.alloc (.cells c.cells.toArray 39) := ⟨_, rfl⟩
  have hb : Below w.heap.size w W := by rw [hW]; exact (Below.refl _ _).alloc (Nat.le_refl _) _
  have hbc : Blk W C 39 c.cells.toArray := by rw [hW, hC]; exact Blk.new _ _ _
  have hJ := h.below hb
  have hby := bytes_any j d s label c W hJ hn (hc.below hb)
  have hag : c.agg = .agg #[.int .i64 c.k, .int .i64 c.nd, .int .i64 c.il, .int .i64 c.inn, .int .i64 c.n, .int .i64 c.key.k, .int .i64 c.key.n, .float .f64 c.key.f, .string c.key.s, .slice p4 c.key.ns.length q4, .slice p5 c.key.xs.length q5, .int .i64 c.v.k, .int .i64 c.v.n, .float .f64 c.v.f, .string c.v.s, .slice r4 c.v.ns.length t4, .slice r5 c.v.xs.length t5] := by
    unfold Cm.agg Cm.cells Val.cells; rw [e4, e5, f4, f5]; rfl
  have hbc' : Blk W C 39 #[.int .i64 c.k, .int .i64 c.nd, .int .i64 c.il, .int .i64 c.inn, .int .i64 c.n, .int .i64 c.key.k, .int .i64 c.key.n, .float .f64 c.key.f, .string c.key.s, .slice p4 c.key.ns.length q4, .slice p5 c.key.xs.length q5, .int .i64 c.v.k, .int .i64 c.v.n, .float .f64 c.v.f, .string c.v.s, .slice r4 c.v.ns.length t4, .slice r5 c.v.xs.length t5] := by
    unfold Cm.cells Val.cells at hbc; rw [e4, e5, f4, f5] at hbc; exact hbc
  unfold Cm.cells Val.cells at hW
  rw [e4, e5, f4, f5] at hW
  simp only [List.cons_append, List.nil_append] at hW
  rw [hag] at hby ⊢
  obtain ⟨EN, hEN⟩ : ∃ EN, EN = c.enc := ⟨_, rfl⟩
  rw [← hEN] at hby ⊢
  obtain ⟨B, hB⟩ : ∃ B, B = jB s label EN := ⟨_, rfl⟩
  have hSS : B = 0 → jS s label EN = jF s EN := fun h0 => by unfold jS; rw [← hB, if_pos h0]
  obtain ⟨SS, hS⟩ : ∃ SS, SS = jS s label EN := ⟨_, rfl⟩
  have hE := jE_eq s label EN
  rw [← hB] at hE hby
  rw [← hS] at hby hSS
  have hFz := fun (h0 : B = 0) => jF_size (s := s) (label := label) (enc := EN) (by rw [← hB]; exact h0)
  obtain ⟨E, hEE⟩ : ∃ E, E = jE s label EN := ⟨_, rfl⟩
  obtain ⟨TE, hTE⟩ : ∃ TE, TE = tearE s.n s.rows label (jF s EN) := ⟨_, rfl⟩
  have hst : jWrite s label EN = if E = 0 then { s with rows := tearR s.n s.rows label (jF s EN) ((jF s EN).size : Int), next := s.next + 1 } else s := by rw [hEE]; rfl
  rw [← hEE, ← hTE] at hE
  rw [← hEE]
  have htd := fun (hz : (jF s EN).size ≤ 2006) (W' : World) (hj : JAt W' j d s) => append_any d s.n s.rows label (jF s EN) W' hj.db hj.dk (by omega)
  rw [← hTE] at htd
  have hsame := fun (ht : TE ≠ 0) => tear_same (n := s.n) (rows := s.rows) (i := label) (s := jF s EN) (keep := ((jF s EN).size : Int)) (by rw [← hTE]; exact ht)
  obtain ⟨R, hR⟩ : ∃ R, R = jWrite s label EN := ⟨_, rfl⟩
  rw [← hR] at hst ⊢
  have hz : W.heap.size = w.heap.size + 1 := by rw [hW]; simp
  have HC := Lib.hid hC; have HW := Lib.hid hW; have HBW := Lib.hid hb; have HBC := Lib.hid hbc'; have HBY := Lib.hid hby; have HE := Lib.hid hE; have HJ := Lib.hid hJ; have HSS := Lib.hid hSS; have HFZ := Lib.hid hFz; have HST := Lib.hid hst; have HTD := Lib.hid htd; have HSM := Lib.hid hsame
  clear hC hW hb hbc hbc' hby hE hJ hSS hFz hst htd hsame hag hEN hB hS hEE hTE hR e4 e5 f4 f5 hc h hz
  have c0 := HBC.out.cell 0; have c1 := HBC.out.cell 1; have c2 := HBC.out.cell 2; have c3 := HBC.out.cell 3; have c4 := HBC.out.cell 4; have c5 := HBC.out.cell 5; have c6 := HBC.out.cell 6; have c7 := HBC.out.cell 7; have c8 := HBC.out.cell 8; have c9 := HBC.out.cell 9; have c10 := HBC.out.cell 10; have c11 := HBC.out.cell 11; have c12 := HBC.out.cell 12; have c13 := HBC.out.cell 13; have c14 := HBC.out.cell 14; have c15 := HBC.out.cell 15; have c16 := HBC.out.cell 16
  simp only [List.getElem?_toArray, List.getElem?_cons_zero, List.getElem?_cons_succ] at c0 c1 c2 c3 c4 c5 c6 c7 c8 c9 c10 c11 c12 c13 c14 c15 c16
  go_enter Tryz.func10, Tryz.ntmps10
  go_upto_region 1 with fail
  rw [← HW.out, ← HC.out]
  go_wp2_with fail
  refine HBY.out.mono ?_
  rintro e w1 ⟨rfl, hb1⟩
  have J1 := Lib.hid (HJ.out.below hb1); have B1 := Lib.hid (HBW.out.trans (hb1.mono HBW.out.size))
  clear hb1 c0 c1 c2 c3 c4 c5 c6 c7 c8 c9 c10 c11 c12 c13 c14 c15 c16 HBY HBC
  by_cases h0 : B = 0
  · obtain rfl := HSS.out h0
    have hz := HFZ.out h0
    have HEV : Hid (E = TE) := Lib.hid (by rw [HE.out, if_pos h0])
    have HT1 := Lib.hid (HTD.out hz w1 J1.out)
    have j0 := J1.out.jb.cell 0
    simp at j0
    subst h0
    clear hz HTD
    go_wp2_with fail
    refine HT1.out.mono ?_
    rintro e w2 ⟨rfl, ho2, hd2⟩
    have k2 : Keeps2 w w2 j d := (Keeps2.of_below B1.out j d).trans (Keeps2.of_only2 ho2)
    have hj2 := J1.out.jb.grown ho2 (by simp; exact J1.out.ne)
    have K2 := Lib.hid k2; have HJ2 := Lib.hid hj2; have HD2 := Lib.hid hd2
    clear k2 hj2 hd2 ho2 j0 HT1
    by_cases ht : TE = 0
    · subst ht
      have c2 := HJ2.out.cell 2; have f2 := HJ2.out.frozen 2
      simp at c2
      have hw1 : IntKind.i64.wrap ((s.next : Int) + 1) = ((s.next + 1 : Nat) : Int) := by rw [IntWalk.i64_in _ (by omega)]; omega
      have HF := Lib.hid (show JAt (w2.setCell ⟨j, 2, none⟩ (.int .i64 ((s.next + 1 : Nat) : Int))) j d R ∧ Keeps2 w (w2.setCell ⟨j, 2, none⟩ (.int .i64 ((s.next + 1 : Nat) : Int))) j d from by
        rw [HST.out, if_pos HEV.out]
        refine ⟨⟨HJ2.out.set_ 2 (.int .i64 ((s.next + 1 : Nat) : Int)), HD2.out.far (p := ⟨j, 2, none⟩) (Ne.symm J1.out.ne) _, ?_⟩, K2.out.trans (Keeps2.of_only1 ((Only.refl _ _).set_ (p := ⟨j, 2, none⟩) (.inl rfl) _))⟩
        exact J1.out.dk.tear _ _ _)
      have HW1 := Lib.hid hw1
      go_wp2
      go_ret
      rw [HEV.out]
      first | exact ⟨rfl, HF.out.1, HF.out.2⟩ | (rw [show (s.next : Int) + 1 = ((s.next + 1 : Nat) : Int) from by omega]; exact ⟨rfl, HF.out.1, HF.out.2⟩)
    · have i1 : (TE == 0) = false := by simpa using ht
      have hsm := HSM.out ht
      have HF := Lib.hid (show JAt w2 j d R ∧ Keeps2 w w2 j d from by
        rw [HST.out, if_neg (by rw [HEV.out]; exact ht)]
        have hd2 := HD2.out
        rw [hsm] at hd2
        exact ⟨⟨HJ2.out, hd2, J1.out.dk⟩, K2.out⟩)
      clear hsm
      go_wp2
      go_ret
      rw [HEV.out]
      exact ⟨rfl, HF.out.1, HF.out.2⟩
  · have i0 : (B == 0) = false := by simpa using h0
    have HEV : Hid (E = B) := Lib.hid (by rw [HE.out, if_neg h0])
    have HF := Lib.hid (show JAt w1 j d R ∧ Keeps2 w w1 j d from by
      rw [HST.out, if_neg (by rw [HEV.out]; exact h0)]
      exact ⟨J1.out, Keeps2.of_below B1.out j d⟩)
    go_wp2
    go_ret
    rw [HEV.out]
    exact ⟨rfl, HF.out.1, HF.out.2⟩
set_option maxHeartbeats 4000000 in
set_option maxRecDepth 100000 in
theorem jcrash_any (j d : Nat) (s : Jt) (label : Int) (c : Cm) (keep : Int) (w : World) (h : JAt w j d s) (hn : s.next < 1000000000) (hc : c.In w) :
    Calls Tryz.prog 11 #[.pointer (some ⟨j, 0, none⟩), .int .i64 label, c.agg, .int .i64 keep] w fun e w' => JDid (jE s label c.enc) (jCrash s label c.enc keep) j d w e w' := by
  obtain ⟨p4, q4, e4⟩ := hc.2.1.nslice
  obtain ⟨p5, q5, e5⟩ := hc.2.1.xslice
  obtain ⟨r4, t4, f4⟩ := hc.2.2.nslice
  obtain ⟨r5, t5, f5⟩ := hc.2.2.xslice
  obtain ⟨C, hC⟩ : ∃ C, C = w.heap.size := ⟨_, rfl⟩
  obtain ⟨W, hW⟩ : ∃ W, W = w.alloc (.cells c.cells.toArray 39) := ⟨_, rfl⟩
  have hb : Below w.heap.size w W := by rw [hW]; exact (Below.refl _ _).alloc (Nat.le_refl _) _
  have hbc : Blk W C 39 c.cells.toArray := by rw [hW, hC]; exact Blk.new _ _ _
  have hJ := h.below hb
  have hby := bytes_any j d s label c W hJ hn (hc.below hb)
  have hag : c.agg = .agg #[.int .i64 c.k, .int .i64 c.nd, .int .i64 c.il, .int .i64 c.inn, .int .i64 c.n, .int .i64 c.key.k, .int .i64 c.key.n, .float .f64 c.key.f, .string c.key.s, .slice p4 c.key.ns.length q4, .slice p5 c.key.xs.length q5, .int .i64 c.v.k, .int .i64 c.v.n, .float .f64 c.v.f, .string c.v.s, .slice r4 c.v.ns.length t4, .slice r5 c.v.xs.length t5] := by
    unfold Cm.agg Cm.cells Val.cells; rw [e4, e5, f4, f5]; rfl
  have hbc' : Blk W C 39 #[.int .i64 c.k, .int .i64 c.nd, .int .i64 c.il, .int .i64 c.inn, .int .i64 c.n, .int .i64 c.key.k, .int .i64 c.key.n, .float .f64 c.key.f, .string c.key.s, .slice p4 c.key.ns.length q4, .slice p5 c.key.xs.length q5, .int .i64 c.v.k, .int .i64 c.v.n, .float .f64 c.v.f, .string c.v.s, .slice r4 c.v.ns.length t4, .slice r5 c.v.xs.length t5] := by
    unfold Cm.cells Val.cells at hbc; rw [e4, e5, f4, f5] at hbc; exact hbc
  unfold Cm.cells Val.cells at hW
  rw [e4, e5, f4, f5] at hW
  simp only [List.cons_append, List.nil_append] at hW
  rw [hag] at hby ⊢
  obtain ⟨EN, hEN⟩ : ∃ EN, EN = c.enc := ⟨_, rfl⟩
  rw [← hEN] at hby ⊢
  obtain ⟨B, hB⟩ : ∃ B, B = jB s label EN := ⟨_, rfl⟩
  have hSS : B = 0 → jS s label EN = jF s EN := fun h0 => by unfold jS; rw [← hB, if_pos h0]
  obtain ⟨SS, hS⟩ : ∃ SS, SS = jS s label EN := ⟨_, rfl⟩
  have hE := jE_eq s label EN
  rw [← hB] at hE hby
  rw [← hS] at hby hSS
  have hFz := fun (h0 : B = 0) => jF_size (s := s) (label := label) (enc := EN) (by rw [← hB]; exact h0)
  obtain ⟨E, hEE⟩ : ∃ E, E = jE s label EN := ⟨_, rfl⟩
  obtain ⟨TE, hTE⟩ : ∃ TE, TE = tearE s.n s.rows label (jF s EN) := ⟨_, rfl⟩
  have hst : jCrash s label EN keep = if E = 0 then { s with rows := tearR s.n s.rows label (jF s EN) keep, torn := true } else s := by rw [hEE]; rfl
  rw [← hEE, ← hTE] at hE
  rw [← hEE]
  have htd := fun (hz : (jF s EN).size ≤ 2006) (W' : World) (hj : JAt W' j d s) => tear_any d s.n s.rows label (jF s EN) keep W' hj.db hj.dk (by omega)
  rw [← hTE] at htd
  have hsame := fun (ht : TE ≠ 0) => tear_same (n := s.n) (rows := s.rows) (i := label) (s := jF s EN) (keep := keep) (by rw [← hTE]; exact ht)
  obtain ⟨R, hR⟩ : ∃ R, R = jCrash s label EN keep := ⟨_, rfl⟩
  rw [← hR] at hst ⊢
  have hz : W.heap.size = w.heap.size + 1 := by rw [hW]; simp
  have HC := Lib.hid hC; have HW := Lib.hid hW; have HBW := Lib.hid hb; have HBC := Lib.hid hbc'; have HBY := Lib.hid hby; have HE := Lib.hid hE; have HJ := Lib.hid hJ; have HSS := Lib.hid hSS; have HFZ := Lib.hid hFz; have HST := Lib.hid hst; have HTD := Lib.hid htd; have HSM := Lib.hid hsame
  clear hC hW hb hbc hbc' hby hE hJ hSS hFz hst htd hsame hag hEN hB hS hEE hTE hR e4 e5 f4 f5 hc h hz
  have c0 := HBC.out.cell 0; have c1 := HBC.out.cell 1; have c2 := HBC.out.cell 2; have c3 := HBC.out.cell 3; have c4 := HBC.out.cell 4; have c5 := HBC.out.cell 5; have c6 := HBC.out.cell 6; have c7 := HBC.out.cell 7; have c8 := HBC.out.cell 8; have c9 := HBC.out.cell 9; have c10 := HBC.out.cell 10; have c11 := HBC.out.cell 11; have c12 := HBC.out.cell 12; have c13 := HBC.out.cell 13; have c14 := HBC.out.cell 14; have c15 := HBC.out.cell 15; have c16 := HBC.out.cell 16
  simp only [List.getElem?_toArray, List.getElem?_cons_zero, List.getElem?_cons_succ] at c0 c1 c2 c3 c4 c5 c6 c7 c8 c9 c10 c11 c12 c13 c14 c15 c16
  go_enter Tryz.func11, Tryz.ntmps11
  go_upto_region 1 with fail
  rw [← HW.out, ← HC.out]
  go_wp2_with fail
  refine HBY.out.mono ?_
  rintro e w1 ⟨rfl, hb1⟩
  have J1 := Lib.hid (HJ.out.below hb1); have B1 := Lib.hid (HBW.out.trans (hb1.mono HBW.out.size))
  clear hb1 c0 c1 c2 c3 c4 c5 c6 c7 c8 c9 c10 c11 c12 c13 c14 c15 c16 HBY HBC
  by_cases h0 : B = 0
  · obtain rfl := HSS.out h0
    have hz := HFZ.out h0
    have HEV : Hid (E = TE) := Lib.hid (by rw [HE.out, if_pos h0])
    have HT1 := Lib.hid (HTD.out hz w1 J1.out)
    have j0 := J1.out.jb.cell 0
    simp at j0
    subst h0
    clear hz HTD
    go_wp2_with fail
    refine HT1.out.mono ?_
    rintro e w2 ⟨rfl, ho2, hd2⟩
    have k2 : Keeps2 w w2 j d := (Keeps2.of_below B1.out j d).trans (Keeps2.of_only2 ho2)
    have hj2 := J1.out.jb.grown ho2 (by simp; exact J1.out.ne)
    have K2 := Lib.hid k2; have HJ2 := Lib.hid hj2; have HD2 := Lib.hid hd2
    clear k2 hj2 hd2 ho2 j0 HT1
    by_cases ht : TE = 0
    · subst ht
      have c2 := HJ2.out.cell 3; have f2 := HJ2.out.frozen 3
      simp at c2
      have hw1 : IntKind.i64.wrap ((s.next : Int) + 1) = ((s.next + 1 : Nat) : Int) := by rw [IntWalk.i64_in _ (by omega)]; omega
      have HF := Lib.hid (show JAt (w2.setCell ⟨j, 3, none⟩ (.bool true)) j d R ∧ Keeps2 w (w2.setCell ⟨j, 3, none⟩ (.bool true)) j d from by
        rw [HST.out, if_pos HEV.out]
        refine ⟨⟨HJ2.out.set_ 3 (.bool true), HD2.out.far (p := ⟨j, 3, none⟩) (Ne.symm J1.out.ne) _, ?_⟩, K2.out.trans (Keeps2.of_only1 ((Only.refl _ _).set_ (p := ⟨j, 3, none⟩) (.inl rfl) _))⟩
        exact J1.out.dk.tear _ _ _)
      have HW1 := Lib.hid hw1
      go_wp2
      go_ret
      rw [HEV.out]
      first | exact ⟨rfl, HF.out.1, HF.out.2⟩ | (rw [show (s.next : Int) + 1 = ((s.next + 1 : Nat) : Int) from by omega]; exact ⟨rfl, HF.out.1, HF.out.2⟩)
    · have i1 : (TE == 0) = false := by simpa using ht
      have hsm := HSM.out ht
      have HF := Lib.hid (show JAt w2 j d R ∧ Keeps2 w w2 j d from by
        rw [HST.out, if_neg (by rw [HEV.out]; exact ht)]
        have hd2 := HD2.out
        rw [hsm] at hd2
        exact ⟨⟨HJ2.out, hd2, J1.out.dk⟩, K2.out⟩)
      clear hsm
      go_wp2
      go_ret
      rw [HEV.out]
      exact ⟨rfl, HF.out.1, HF.out.2⟩
  · have i0 : (B == 0) = false := by simpa using h0
    have HEV : Hid (E = B) := Lib.hid (by rw [HE.out, if_neg h0])
    have HF := Lib.hid (show JAt w1 j d R ∧ Keeps2 w w1 j d from by
      rw [HST.out, if_neg (by rw [HEV.out]; exact h0)]
      exact ⟨J1.out, Keeps2.of_below B1.out j d⟩)
    go_wp2
    go_ret
    rw [HEV.out]
    exact ⟨rfl, HF.out.1, HF.out.2⟩
end Go.Proofs.YtaamihdibpioaaaGreat.Jr

/- journal: all records, sorted. -/
namespace Go.Proofs.YtaamihdibpioaaaGreat.Jr
set_option linter.unusedVariables false
open Go.RowKit Go.Proofs.YtaamihdibpioaaaGreat.Crc Go.Proofs.YtaamihdibpioaaaGreat.Pk

theorem own_lt {w : World} {base n size k : Nat} {e : TypeId} {v : Value} {xs : List Value} (h : w.ownsRow base e size v n xs) (hk : v.ownBlock = some k) : k < w.heap.size := by
  rcases h.2 with ⟨rfl, _⟩ | ⟨g, cap, cur, rfl, hb, hg, _⟩
  · simp [Value.ownBlock] at hk
  · simp [Value.ownBlock] at hk
    rw [← hk]
    exact Blk.lt hg
section
variable {A : Type} {E : Elem A} {S : Nat → Prop} {B : Nat} {TE : TypeId} {w w' : World} {us : List A} {xv : Value}
/-- Some items more. -/
theorem Rowed_more {v' : Value} {xs : List A} {Z : Nat} (h : Rowed E S B TE w us xv) (hP : ∀ b, S b → b < B) (hx : ∀ x, x ∈ xs → E.In w x ∧ E.Sep (fun b => S b ∨ Z ≤ b) x) (hZ : B ≤ Z) (hxz : ∀ b, xv.ownBlock = some b → b < Z)
    (ho : w'.ownsRow B TE E.size v' (us.length + xs.length) (E.row us ++ E.row xs)) (hg : w.grownBy w' xv.ownBlock)
    (hor : v'.ownBlock = xv.ownBlock ∨ v'.ownBlock = some w.heap.size) : Rowed E S B TE w' (us ++ xs) v' := by
  have hxb : ∀ b, xv.ownBlock = some b → B ≤ b := fun b hb => own_ge h.items hb
  refine ⟨by rw [List.length_append, show E.row (us ++ xs) = E.row us ++ E.row xs from by simp [Elem.row]]; exact ho, fun u hu => ?_⟩
  rcases List.mem_append.1 hu with hu | hu
  · obtain ⟨h1, h2⟩ := h.each u hu
    have h3 := E.and h2 (E.lt h1)
    refine ⟨E.carry h1 h2 (fun b o hs hlt => World.cell?_of_block (a := ⟨b, o, none⟩) (hg.block b hlt hs.2)) hg.size, E.mono h3 (fun b hb => ⟨hb.1.1, ?_⟩)⟩
    rcases hor with h' | h'
    · rw [h']; exact hb.1.2
    · rw [h']; intro e; injection e with e; have := hb.2; omega
  · obtain ⟨hi, hs⟩ := hx u hu
    have h3 := E.and hs (E.lt hi)
    have hne : ∀ b, (S b ∨ Z ≤ b) → some b ≠ xv.ownBlock := fun b hb e => by
      have h4 := hxz b e.symm
      have h5 := hxb b e.symm
      rcases hb with hb | hb
      · have := hP b hb; omega
      · omega
    refine ⟨E.carry hi hs (fun b o hs' hlt => World.cell?_of_block (a := ⟨b, o, none⟩) (hg.block b hlt (hne b hs'))) hg.size, E.mono h3 (fun b hb => ⟨by rcases hb.1 with h | h; exact .inl h; exact .inr (by omega), ?_⟩)⟩
    rcases hor with h' | h'
    · rw [h']; exact hne b hb.1
    · rw [h']; intro e; injection e with e; have := hb.2; omega
end

def SortedOut (B : Nat) (v : Value) (us : List Rc) (w : World) (e : Ending) (w' : World) : Prop :=
  e = .returned (.tuple #[]) ∧ ∃ us' : List Rc, us'.Perm us ∧ us'.Pairwise (fun a b => a.seq ≤ b.seq) ∧ Rowed recE (fun _ => False) B 44 w' us' v ∧ Below B w w'
/-- What sorting does. -/
def SortSpec : Prop := ∀ (B : Nat) (v : Value) (us : List Rc) (w : World), Rowed recE (fun _ => False) B 44 w us v → us.length ≤ 100000 → B ≤ w.heap.size →
  Calls Tryz.prog 31 #[v, .func (.func 32) #[] #[]] w fun e w' => SortedOut B v us w e w'

theorem rc_of {n : Nat} {h : He} (hs : h.seq < 4294967296) : recOf h.label h.pay = h.rc := by
  unfold recOf He.rc He.pay
  rw [numOf_pay _ hs]
theorem seg_recs {H : List He} (hs : ∀ h, h ∈ H → h.seq < 4294967296) (i : Nat) : (segOf H i).map (recOf (i : Int)) = (segL H i).map He.rc := by
  unfold segOf
  rw [List.map_map]
  refine List.map_congr_left (fun h hh => ?_)
  have h1 := (List.mem_filter.1 hh).1
  have h2 : h.label = i := by simpa using (List.mem_filter.1 hh).2
  show recOf (i : Int) h.pay = h.rc
  rw [← h2]
  exact rc_of (n := 0) (hs h h1)
/-- What Records answers. -/
def RecsOut (H : List He) (w : World) (e : Ending) (w' : World) : Prop :=
  ∃ (B : Nat) (v : Value) (us : List Rc), w.heap.size ≤ B ∧ B ≤ w'.heap.size ∧ e = .returned v ∧ Below w.heap.size w w' ∧ Rowed recE (fun _ => False) B 44 w' us v ∧ us.map Rc.erase = H.map He.rc
theorem segL_len (H : List He) (i : Nat) : (segL H i).length ≤ H.length := List.length_filter_le _ _
theorem inSegs_len (H : List He) : ∀ n, (inSegs H n).length ≤ n * H.length
  | 0 => by simp [inSegs]
  | n + 1 => by
    have ih := inSegs_len H n
    have := segL_len H n
    simp only [inSegs, List.length_append, Nat.succ_mul]
    omega
set_option maxHeartbeats 4000000 in
set_option maxRecDepth 100000 in
theorem records_any (hsort : SortSpec) (j d : Nat) (s : Jt) (H : List He) (r : Nat → ByteArray) (w : World) (h : JAt w j d s) (hh : Hist s.n s.rows H r) (hs : ∀ h, h ∈ H → h.seq < 4294967296) (hH : H.length ≤ 10000) :
    Calls Tryz.prog 14 #[.pointer (some ⟨j, 0, none⟩)] w fun e w' => RecsOut H w e w' := by
  obtain ⟨i0, hi0, hz0, hz1, hz2⟩ := info_parts rec_facts
  have c1 := h.jb.cell 1
  simp at c1
  have hn8 := h.dk.n8
  have hrd := fun (i : Nat) (hi : i < s.n) (W : World) (hb : Below w.heap.size w W) => jread_any j d s (i : Int) ((cat (segOf H i)).size : Int) (segOf H i) W (h.below hb) ⟨by omega, by omega⟩ (by
    have e : readR s.n s.rows (i : Int) = rowOf s.rows (i : Int) := by
      unfold readR isSeg
      rw [decide_eq_true (by omega)]
      rfl
    rw [e]
    exact hh.all hi) (fun p hp => by
      obtain ⟨x, hx, rfl⟩ := List.mem_map.1 hp
      have := hh.ok x (List.mem_filter.1 hx).1
      unfold He.pay
      rw [payB_size]
      have := this.1
      omega)
  have hfin : ∀ us us' : List Rc, us.map Rc.erase = (inSegs H s.n).map He.rc → us'.Perm us → us'.Pairwise (fun a b => a.seq ≤ b.seq) → us'.map Rc.erase = H.map He.rc := fun us us' h1 h2 h3 => by
    refine rising_same Rc.seq ?_ ?_ ?_
    · refine (h2.map _).trans ?_
      rw [h1]
      exact (inSegs_perm (fun x hx => (hh.ok x hx).2.1)).map _
    · rw [List.pairwise_map]
      exact hh.up.imp (fun {a b} hab => by show ((a.seq : Nat) : Int) < b.seq; omega)
    · rw [List.pairwise_map]
      exact h3
  have hsr := seg_recs hs
  have hil := inSegs_len H s.n
  have hsl := segL_len H
  obtain ⟨n, hn⟩ : ∃ n, n = s.n := ⟨_, rfl⟩
  have hil2 : ∀ k, k ≤ 8 → (inSegs H k).length ≤ 80000 := fun k hk => by
    have := inSegs_len H k
    have := Nat.mul_le_mul hk hH
    omega
  rw [← hn] at c1 hn8 hrd hfin hil
  have HRD := Lib.hid hrd; have HFI := Lib.hid hfin; have HSR := Lib.hid hsr; have HSRT := Lib.hid hsort; have HIL := Lib.hid hil2; have HI0 := Lib.hid hi0; have HZ0 := Lib.hid hz0; have HZ1 := Lib.hid hz1; have HZ2 := Lib.hid hz2; have HSL := Lib.hid hsl; have HH := Lib.hid hH
  clear hrd hfin hsr hsort hil hil2 hi0 hz0 hz1 hz2 h hh hs hn hsl hH
  go_enter Tryz.func14, Tryz.ntmps14
  go_wp2_with fail
  go_loopw [2, 12] (fun lv iv wr => ∃ (i : Nat) (us : List Rc), i ≤ n ∧ iv = .int .i64 (i : Int) ∧ Hid (us.map Rc.erase = (inSegs H i).map He.rc) ∧ Hid (Rowed recE (fun _ => False) w.heap.size 44 wr us lv) ∧ Hid (Below w.heap.size w wr)) (fun _ iv _ => n - (intOf iv).toNat)
  case atStart => exact ⟨0, [], by omega, rfl, Lib.hid rfl, Lib.hid (rowed_start _), Lib.hid (Below.refl _ _)⟩
  case round =>
    obtain ⟨i, us, hi, rfl, HM, HG, HBL⟩ := hrel
    obtain ⟨ax, cx, rfl⟩ := HG.out.form
    have husl : us.length ≤ 80000 := by
      have h1 := congrArg List.length HM.out
      have h2 := HIL.out i (by omega)
      rw [List.length_map, List.length_map] at h1
      omega
    by_cases hlt : i < n
    · have hk1 : (i : Int) < (n : Int) := by omega
      have HR1 := Lib.hid (HRD.out i hlt wr HBL.out)
      have hzr := HBL.out.size
      go_wp2_with fail
      refine HR1.out.mono ?_
      rintro e w1 ⟨B1, v1, us1, hB1, rfl, hb1, hr1, hm1⟩
      have hul1 : us1.length ≤ 10000 := by
        have h1 := congrArg List.length hm1
        rw [List.length_map, HSR.out, List.length_map] at h1
        have := HSL.out i
        have := HH.out
        omega
      obtain ⟨ax1, cx1, rfl⟩ := hr1.form
      have hrow1 : Rowed recE (fun _ => False) w.heap.size 44 w1 us (.slice ax us.length cx) := HG.out.below hb1
      have hreads := Reads.of_own hr1.items
      have HROW := Lib.hid hrow1; have HRE := Lib.hid hreads; have HB1 := Lib.hid hb1; have HR1' := Lib.hid hr1; have HM1 := Lib.hid (hm1.trans (HSR.out i)); have HBB := Lib.hid hB1
      have hz1' := hb1.size
      clear hb1 hr1 hm1 hrow1 hreads HR1 hB1
      go_wp2_with (at_builtin; refine wpList_append_any _ rfl (.tmp 21) (.tmp 22) 30 rfl w.heap.size 44 i0 (.agg #[.int .i64 0, .int .i64 0, .int .i64 0, .int .i64 0, .int .i64 0, .int .i64 0, .int .i64 0, .int .i64 0, .int .i64 0, .float .f64 0, .string ByteArray.empty, .slice none 0 0, .slice none 0 0, .int .i64 0, .int .i64 0, .float .f64 0, .string ByteArray.empty, .slice none 0 0, .slice none 0 0]) 19 232 Tryz.underlying30 HI0.out HZ0.out HZ1.out HZ2.out rfl (by decide) _ us.length (recE.row us) rfl HROW.out.items _ ax1 us1.length cx1 (recE.row us1) rfl HRE.out (fun u hu => by
          obtain ⟨x, hx, hu⟩ := List.mem_flatMap.1 hu
          exact recE.one x u hu) (by unfold maxLen; omega) (by omega) (by omega) ?_)
      intro v' w8 hown' hgrow hor
      have hg8 := Rowed_more (xs := us1) (Z := B1) HROW.out (fun b hb => hb.elim) (fun x hx => ⟨(HR1'.out.each x hx).1, recE.mono (HR1'.out.each x hx).2 (fun b hb => hb.1)⟩) (by have := HBB.out; omega) (fun b hb => by
        have h1 := own_lt HG.out.items hb
        have := HBB.out
        omega) hown' hgrow hor
      have hb8 : Below w.heap.size w w8 := (HBL.out.trans (HB1.out.mono hzr)).grown hgrow (by omega) (fun k hk => own_ge HROW.out.items hk)
      have hmF : (us ++ us1).map Rc.erase = (inSegs H (i + 1)).map He.rc := by
        rw [List.map_append, HM.out, HM1.out, ← List.map_append]
        rfl
      obtain ⟨ax', cx', rfl⟩ := row_form hown'
      have HG8 := Lib.hid hg8; have HB8 := Lib.hid hb8; have HMF := Lib.hid hmF
      clear hg8 hb8 hmF hown' hgrow hor
      go_wp2
      go_roundw
      case rel => exact ⟨i + 1, us ++ us1, by omega, rfl, HMF, HG8, HB8⟩
      case measure => simp [intOf]; omega
    · obtain rfl : i = n := by omega
      have hk1 : ¬ ((i : Int) < (i : Int)) := by omega
      have HS := Lib.hid (HSRT.out w.heap.size _ us wr HG.out (by omega) HBL.out.size)
      go_wp2_with fail
      refine HS.out.mono ?_
      rintro e w2 ⟨rfl, us', hp, hpw, hr2, hb2⟩
      have HF := Lib.hid (show Below w.heap.size w w2 ∧ Rowed recE (fun _ => False) w.heap.size 44 w2 us' (.slice ax us.length cx) ∧ us'.map Rc.erase = H.map He.rc ∧ w.heap.size ≤ w2.heap.size from
        ⟨HBL.out.trans hb2, hr2, HFI.out us us' HM.out hp hpw, (HBL.out.trans hb2).size⟩)
      clear hp hpw hr2 hb2 HS
      go_wp2
      go_ret
      exact ⟨w.heap.size, _, us', Nat.le_refl _, HF.out.2.2.2, rfl, HF.out.1, HF.out.2.1, HF.out.2.2.1⟩
end Go.Proofs.YtaamihdibpioaaaGreat.Jr
