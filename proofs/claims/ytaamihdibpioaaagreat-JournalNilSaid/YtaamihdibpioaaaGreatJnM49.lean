/- journal: Write, Crash. -/
import Derived.Test.YtaamihdibpioaaaGreatJnM48
namespace Go.Proofs.YtaamihdibpioaaaGreat.Jr
set_option linter.unusedVariables false
open Go.RowKit Go.Proofs.YtaamihdibpioaaaGreat.Crc Go.Proofs.YtaamihdibpioaaaGreat.Pk

/-- What a write did. -/
def JDid (k : Int) (s' : Jt) (j d : Nat) (w : World) (e : Ending) (w' : World) : Prop := e = .returned (.int .i64 k) ∧ JAt w' j d s' ∧ Keeps2 w w' j d
theorem tear_same {n : Nat} {rows : List ByteArray} {i : Int} {s : ByteArray} {keep : Int} (h : tearE n rows i s ≠ 0) : tearR n rows i s keep = rows := by
  unfold tearE at h
  unfold tearR
  cases h1 : isSeg n i with
  | false => rfl
  | true =>
    rw [h1] at h
    cases h2 : fits rows i s with
    | false => rfl
    | true => rw [h2] at h; exact absurd rfl h
theorem jF_size {s : Jt} {label : Int} {enc : Option (List UInt8)} (h : jB s label enc = 0) : (jF s enc).size ≤ 2006 := by
  unfold jB at h
  cases ht : s.torn with
  | true => rw [ht] at h; simp at h
  | false =>
    rw [ht] at h
    cases hs : isSeg s.n label with
    | false => rw [hs] at h; simp at h
    | true =>
      rw [hs] at h
      cases enc with
      | none => simp [encE] at h
      | some l =>
        simp only [cond_false, cond_true, encE] at h
        split at h
        · omega
        · have := frame_lenAt (p := payB s.next l) (by rw [payB_size]; omega)
          unfold jF
          show (frameOf (payB s.next l)).size ≤ 2006
          rw [this, payB_size]
          omega
set_option maxHeartbeats 4000000 in
set_option maxRecDepth 100000 in
theorem jwrite_any (j d : Nat) (s : Jt) (label : Int) (c : Cm) (w : World) (h : JAt w j d s) (hn : s.next < 1000000000) (hc : c.In w) :
    Calls Tryz.prog 10 #[.pointer (some ⟨j, 0, none⟩), .int .i64 label, c.agg] w fun e w' => JDid (jE s label c.enc) (jWrite s label c.enc) j d w e w' := by
  obtain ⟨p4, q4, e4⟩ := hc.2.1.nslice
  obtain ⟨p5, q5, e5⟩ := hc.2.1.xslice
  obtain ⟨r4, t4, f4⟩ := hc.2.2.nslice
  obtain ⟨r5, t5, f5⟩ := hc.2.2.xslice
  obtain ⟨C, hC⟩ : ∃ C, C = w.heap.size := ⟨_, rfl⟩
  obtain ⟨W, hW⟩ : ∃ W, W = w.alloc (.cells c.cells.toArray 39) := ⟨_, rfl⟩
  have hb : Below w.heap.size w W := by rw [hW]; exact (Below.refl _ _).alloc (Nat.le_refl _) _
  have hbc : Blk W C 39 c.cells.toArray := by rw [hW, hC]; exact Blk.new _ _ _
  have hJ := h.below hb
  have hby := bytes_any j d s label c W hJ hn (hc.below hb)
  have hag : c.agg = .agg #[.int .i64 c.k, .int .i64 c.nd, .int .i64 c.il, .int .i64 c.inn, .int .i64 c.n, .int .i64 c.key.k, .int .i64 c.key.n, .float .f64 c.key.f, .string c.key.s, .slice p4 c.key.ns.length q4, .slice p5 c.key.xs.length q5, .int .i64 c.v.k, .int .i64 c.v.n, .float .f64 c.v.f, .string c.v.s, .slice r4 c.v.ns.length t4, .slice r5 c.v.xs.length t5] := by
    unfold Cm.agg Cm.cells Val.cells; rw [e4, e5, f4, f5]; rfl
  have hbc' : Blk W C 39 #[.int .i64 c.k, .int .i64 c.nd, .int .i64 c.il, .int .i64 c.inn, .int .i64 c.n, .int .i64 c.key.k, .int .i64 c.key.n, .float .f64 c.key.f, .string c.key.s, .slice p4 c.key.ns.length q4, .slice p5 c.key.xs.length q5, .int .i64 c.v.k, .int .i64 c.v.n, .float .f64 c.v.f, .string c.v.s, .slice r4 c.v.ns.length t4, .slice r5 c.v.xs.length t5] := by
    unfold Cm.cells Val.cells at hbc; rw [e4, e5, f4, f5] at hbc; exact hbc
  unfold Cm.cells Val.cells at hW
  rw [e4, e5, f4, f5] at hW
  simp only [List.cons_append, List.nil_append] at hW
  rw [hag] at hby ⊢
  obtain ⟨EN, hEN⟩ : ∃ EN, EN = c.enc := ⟨_, rfl⟩
  rw [← hEN] at hby ⊢
  obtain ⟨B, hB⟩ : ∃ B, B = jB s label EN := ⟨_, rfl⟩
  have hSS : B = 0 → jS s label EN = jF s EN := fun h0 => by unfold jS; rw [← hB, if_pos h0]
  obtain ⟨SS, hS⟩ : ∃ SS, SS = jS s label EN := ⟨_, rfl⟩
  have hE := jE_eq s label EN
  rw [← hB] at hE hby
  rw [← hS] at hby hSS
  have hFz := fun (h0 : B = 0) => jF_size (s := s) (label := label) (enc := EN) (by rw [← hB]; exact h0)
  obtain ⟨E, hEE⟩ : ∃ E, E = jE s label EN := ⟨_, rfl⟩
  obtain ⟨TE, hTE⟩ : ∃ TE, TE = tearE s.n s.rows label (jF s EN) := ⟨_, rfl⟩
  have hst : jWrite s label EN = if E = 0 then { s with rows := tearR s.n s.rows label (jF s EN) ((jF s EN).size : Int), next := s.next + 1 } else s := by rw [hEE]; rfl
  rw [← hEE, ← hTE] at hE
  rw [← hEE]
  have htd := fun (hz : (jF s EN).size ≤ 2006) (W' : World) (hj : JAt W' j d s) => append_any d s.n s.rows label (jF s EN) W' hj.db hj.dk (by omega)
  rw [← hTE] at htd
  have hsame := fun (ht : TE ≠ 0) => tear_same (n := s.n) (rows := s.rows) (i := label) (s := jF s EN) (keep := ((jF s EN).size : Int)) (by rw [← hTE]; exact ht)
  obtain ⟨R, hR⟩ : ∃ R, R = jWrite s label EN := ⟨_, rfl⟩
  rw [← hR] at hst ⊢
  have hz : W.heap.size = w.heap.size + 1 := by rw [hW]; simp
  have HC := Lib.hid hC; have HW := Lib.hid hW; have HBW := Lib.hid hb; have HBC := Lib.hid hbc'; have HBY := Lib.hid hby; have HE := Lib.hid hE; have HJ := Lib.hid hJ; have HSS := Lib.hid hSS; have HFZ := Lib.hid hFz; have HST := Lib.hid hst; have HTD := Lib.hid htd; have HSM := Lib.hid hsame
  clear hC hW hb hbc hbc' hby hE hJ hSS hFz hst htd hsame hag hEN hB hS hEE hTE hR e4 e5 f4 f5 hc h hz
  have c0 := HBC.out.cell 0; have c1 := HBC.out.cell 1; have c2 := HBC.out.cell 2; have c3 := HBC.out.cell 3; have c4 := HBC.out.cell 4; have c5 := HBC.out.cell 5; have c6 := HBC.out.cell 6; have c7 := HBC.out.cell 7; have c8 := HBC.out.cell 8; have c9 := HBC.out.cell 9; have c10 := HBC.out.cell 10; have c11 := HBC.out.cell 11; have c12 := HBC.out.cell 12; have c13 := HBC.out.cell 13; have c14 := HBC.out.cell 14; have c15 := HBC.out.cell 15; have c16 := HBC.out.cell 16
  simp only [List.getElem?_toArray, List.getElem?_cons_zero, List.getElem?_cons_succ] at c0 c1 c2 c3 c4 c5 c6 c7 c8 c9 c10 c11 c12 c13 c14 c15 c16
  go_enter Tryz.func10, Tryz.ntmps10
  go_upto_region 1 with fail
  rw [← HW.out, ← HC.out]
  go_wp2_with fail
  refine HBY.out.mono ?_
  rintro e w1 ⟨rfl, hb1⟩
  have J1 := Lib.hid (HJ.out.below hb1); have B1 := Lib.hid (HBW.out.trans (hb1.mono HBW.out.size))
  clear hb1 c0 c1 c2 c3 c4 c5 c6 c7 c8 c9 c10 c11 c12 c13 c14 c15 c16 HBY HBC
  by_cases h0 : B = 0
  · obtain rfl := HSS.out h0
    have hz := HFZ.out h0
    have HEV : Hid (E = TE) := Lib.hid (by rw [HE.out, if_pos h0])
    have HT1 := Lib.hid (HTD.out hz w1 J1.out)
    have j0 := J1.out.jb.cell 0
    simp at j0
    subst h0
    clear hz HTD
    go_wp2_with fail
    refine HT1.out.mono ?_
    rintro e w2 ⟨rfl, ho2, hd2⟩
    have k2 : Keeps2 w w2 j d := (Keeps2.of_below B1.out j d).trans (Keeps2.of_only2 ho2)
    have hj2 := J1.out.jb.grown ho2 (by simp; exact J1.out.ne)
    have K2 := Lib.hid k2; have HJ2 := Lib.hid hj2; have HD2 := Lib.hid hd2
    clear k2 hj2 hd2 ho2 j0 HT1
    by_cases ht : TE = 0
    · subst ht
      have c2 := HJ2.out.cell 2; have f2 := HJ2.out.frozen 2
      simp at c2
      have hw1 : IntKind.i64.wrap ((s.next : Int) + 1) = ((s.next + 1 : Nat) : Int) := by rw [IntWalk.i64_in _ (by omega)]; omega
      have HF := Lib.hid (show JAt (w2.setCell ⟨j, 2, none⟩ (.int .i64 ((s.next + 1 : Nat) : Int))) j d R ∧ Keeps2 w (w2.setCell ⟨j, 2, none⟩ (.int .i64 ((s.next + 1 : Nat) : Int))) j d from by
        rw [HST.out, if_pos HEV.out]
        refine ⟨⟨HJ2.out.set_ 2 (.int .i64 ((s.next + 1 : Nat) : Int)), HD2.out.far (p := ⟨j, 2, none⟩) (Ne.symm J1.out.ne) _, ?_⟩, K2.out.trans (Keeps2.of_only1 ((Only.refl _ _).set_ (p := ⟨j, 2, none⟩) (.inl rfl) _))⟩
        exact J1.out.dk.tear _ _ _)
      have HW1 := Lib.hid hw1
      go_wp2
      go_ret
      rw [HEV.out]
      first | exact ⟨rfl, HF.out.1, HF.out.2⟩ | (rw [show (s.next : Int) + 1 = ((s.next + 1 : Nat) : Int) from by omega]; exact ⟨rfl, HF.out.1, HF.out.2⟩)
    · have i1 : (TE == 0) = false := by simpa using ht
      have hsm := HSM.out ht
      have HF := Lib.hid (show JAt w2 j d R ∧ Keeps2 w w2 j d from by
        rw [HST.out, if_neg (by rw [HEV.out]; exact ht)]
        have hd2 := HD2.out
        rw [hsm] at hd2
        exact ⟨⟨HJ2.out, hd2, J1.out.dk⟩, K2.out⟩)
      clear hsm
      go_wp2
      go_ret
      rw [HEV.out]
      exact ⟨rfl, HF.out.1, HF.out.2⟩
  · have i0 : (B == 0) = false := by simpa using h0
    have HEV : Hid (E = B) := Lib.hid (by rw [HE.out, if_neg h0])
    have HF := Lib.hid (show JAt w1 j d R ∧ Keeps2 w w1 j d from by
      rw [HST.out, if_neg (by rw [HEV.out]; exact h0)]
      exact ⟨J1.out, Keeps2.of_below B1.out j d⟩)
    go_wp2
    go_ret
    rw [HEV.out]
    exact ⟨rfl, HF.out.1, HF.out.2⟩
set_option maxHeartbeats 4000000 in
set_option maxRecDepth 100000 in
theorem jcrash_any (j d : Nat) (s : Jt) (label : Int) (c : Cm) (keep : Int) (w : World) (h : JAt w j d s) (hn : s.next < 1000000000) (hc : c.In w) :
    Calls Tryz.prog 11 #[.pointer (some ⟨j, 0, none⟩), .int .i64 label, c.agg, .int .i64 keep] w fun e w' => JDid (jE s label c.enc) (jCrash s label c.enc keep) j d w e w' := by
  obtain ⟨p4, q4, e4⟩ := hc.2.1.nslice
  obtain ⟨p5, q5, e5⟩ := hc.2.1.xslice
  obtain ⟨r4, t4, f4⟩ := hc.2.2.nslice
  obtain ⟨r5, t5, f5⟩ := hc.2.2.xslice
  obtain ⟨C, hC⟩ : ∃ C, C = w.heap.size := ⟨_, rfl⟩
  obtain ⟨W, hW⟩ : ∃ W, W = w.alloc (.cells c.cells.toArray 39) := ⟨_, rfl⟩
  have hb : Below w.heap.size w W := by rw [hW]; exact (Below.refl _ _).alloc (Nat.le_refl _) _
  have hbc : Blk W C 39 c.cells.toArray := by rw [hW, hC]; exact Blk.new _ _ _
  have hJ := h.below hb
  have hby := bytes_any j d s label c W hJ hn (hc.below hb)
  have hag : c.agg = .agg #[.int .i64 c.k, .int .i64 c.nd, .int .i64 c.il, .int .i64 c.inn, .int .i64 c.n, .int .i64 c.key.k, .int .i64 c.key.n, .float .f64 c.key.f, .string c.key.s, .slice p4 c.key.ns.length q4, .slice p5 c.key.xs.length q5, .int .i64 c.v.k, .int .i64 c.v.n, .float .f64 c.v.f, .string c.v.s, .slice r4 c.v.ns.length t4, .slice r5 c.v.xs.length t5] := by
    unfold Cm.agg Cm.cells Val.cells; rw [e4, e5, f4, f5]; rfl
  have hbc' : Blk W C 39 #[.int .i64 c.k, .int .i64 c.nd, .int .i64 c.il, .int .i64 c.inn, .int .i64 c.n, .int .i64 c.key.k, .int .i64 c.key.n, .float .f64 c.key.f, .string c.key.s, .slice p4 c.key.ns.length q4, .slice p5 c.key.xs.length q5, .int .i64 c.v.k, .int .i64 c.v.n, .float .f64 c.v.f, .string c.v.s, .slice r4 c.v.ns.length t4, .slice r5 c.v.xs.length t5] := by
    unfold Cm.cells Val.cells at hbc; rw [e4, e5, f4, f5] at hbc; exact hbc
  unfold Cm.cells Val.cells at hW
  rw [e4, e5, f4, f5] at hW
  simp only [List.cons_append, List.nil_append] at hW
  rw [hag] at hby ⊢
  obtain ⟨EN, hEN⟩ : ∃ EN, EN = c.enc := ⟨_, rfl⟩
  rw [← hEN] at hby ⊢
  obtain ⟨B, hB⟩ : ∃ B, B = jB s label EN := ⟨_, rfl⟩
  have hSS : B = 0 → jS s label EN = jF s EN := fun h0 => by unfold jS; rw [← hB, if_pos h0]
  obtain ⟨SS, hS⟩ : ∃ SS, SS = jS s label EN := ⟨_, rfl⟩
  have hE := jE_eq s label EN
  rw [← hB] at hE hby
  rw [← hS] at hby hSS
  have hFz := fun (h0 : B = 0) => jF_size (s := s) (label := label) (enc := EN) (by rw [← hB]; exact h0)
  obtain ⟨E, hEE⟩ : ∃ E, E = jE s label EN := ⟨_, rfl⟩
  obtain ⟨TE, hTE⟩ : ∃ TE, TE = tearE s.n s.rows label (jF s EN) := ⟨_, rfl⟩
  have hst : jCrash s label EN keep = if E = 0 then { s with rows := tearR s.n s.rows label (jF s EN) keep, torn := true } else s := by rw [hEE]; rfl
  rw [← hEE, ← hTE] at hE
  rw [← hEE]
  have htd := fun (hz : (jF s EN).size ≤ 2006) (W' : World) (hj : JAt W' j d s) => tear_any d s.n s.rows label (jF s EN) keep W' hj.db hj.dk (by omega)
  rw [← hTE] at htd
  have hsame := fun (ht : TE ≠ 0) => tear_same (n := s.n) (rows := s.rows) (i := label) (s := jF s EN) (keep := keep) (by rw [← hTE]; exact ht)
  obtain ⟨R, hR⟩ : ∃ R, R = jCrash s label EN keep := ⟨_, rfl⟩
  rw [← hR] at hst ⊢
  have hz : W.heap.size = w.heap.size + 1 := by rw [hW]; simp
  have HC := Lib.hid hC; have HW := Lib.hid hW; have HBW := Lib.hid hb; have HBC := Lib.hid hbc'; have HBY := Lib.hid hby; have HE := Lib.hid hE; have HJ := Lib.hid hJ; have HSS := Lib.hid hSS; have HFZ := Lib.hid hFz; have HST := Lib.hid hst; have HTD := Lib.hid htd; have HSM := Lib.hid hsame
  clear hC hW hb hbc hbc' hby hE hJ hSS hFz hst htd hsame hag hEN hB hS hEE hTE hR e4 e5 f4 f5 hc h hz
  have c0 := HBC.out.cell 0; have c1 := HBC.out.cell 1; have c2 := HBC.out.cell 2; have c3 := HBC.out.cell 3; have c4 := HBC.out.cell 4; have c5 := HBC.out.cell 5; have c6 := HBC.out.cell 6; have c7 := HBC.out.cell 7; have c8 := HBC.out.cell 8; have c9 := HBC.out.cell 9; have c10 := HBC.out.cell 10; have c11 := HBC.out.cell 11; have c12 := HBC.out.cell 12; have c13 := HBC.out.cell 13; have c14 := HBC.out.cell 14; have c15 := HBC.out.cell 15; have c16 := HBC.out.cell 16
  simp only [List.getElem?_toArray, List.getElem?_cons_zero, List.getElem?_cons_succ] at c0 c1 c2 c3 c4 c5 c6 c7 c8 c9 c10 c11 c12 c13 c14 c15 c16
  go_enter Tryz.func11, Tryz.ntmps11
  go_upto_region 1 with fail
  rw [← HW.out, ← HC.out]
  go_wp2_with fail
  refine HBY.out.mono ?_
  rintro e w1 ⟨rfl, hb1⟩
  have J1 := Lib.hid (HJ.out.below hb1); have B1 := Lib.hid (HBW.out.trans (hb1.mono HBW.out.size))
  clear hb1 c0 c1 c2 c3 c4 c5 c6 c7 c8 c9 c10 c11 c12 c13 c14 c15 c16 HBY HBC
  by_cases h0 : B = 0
  · obtain rfl := HSS.out h0
    have hz := HFZ.out h0
    have HEV : Hid (E = TE) := Lib.hid (by rw [HE.out, if_pos h0])
    have HT1 := Lib.hid (HTD.out hz w1 J1.out)
    have j0 := J1.out.jb.cell 0
    simp at j0
    subst h0
    clear hz HTD
    go_wp2_with fail
    refine HT1.out.mono ?_
    rintro e w2 ⟨rfl, ho2, hd2⟩
    have k2 : Keeps2 w w2 j d := (Keeps2.of_below B1.out j d).trans (Keeps2.of_only2 ho2)
    have hj2 := J1.out.jb.grown ho2 (by simp; exact J1.out.ne)
    have K2 := Lib.hid k2; have HJ2 := Lib.hid hj2; have HD2 := Lib.hid hd2
    clear k2 hj2 hd2 ho2 j0 HT1
    by_cases ht : TE = 0
    · subst ht
      have c2 := HJ2.out.cell 3; have f2 := HJ2.out.frozen 3
      simp at c2
      have hw1 : IntKind.i64.wrap ((s.next : Int) + 1) = ((s.next + 1 : Nat) : Int) := by rw [IntWalk.i64_in _ (by omega)]; omega
      have HF := Lib.hid (show JAt (w2.setCell ⟨j, 3, none⟩ (.bool true)) j d R ∧ Keeps2 w (w2.setCell ⟨j, 3, none⟩ (.bool true)) j d from by
        rw [HST.out, if_pos HEV.out]
        refine ⟨⟨HJ2.out.set_ 3 (.bool true), HD2.out.far (p := ⟨j, 3, none⟩) (Ne.symm J1.out.ne) _, ?_⟩, K2.out.trans (Keeps2.of_only1 ((Only.refl _ _).set_ (p := ⟨j, 3, none⟩) (.inl rfl) _))⟩
        exact J1.out.dk.tear _ _ _)
      have HW1 := Lib.hid hw1
      go_wp2
      go_ret
      rw [HEV.out]
      first | exact ⟨rfl, HF.out.1, HF.out.2⟩ | (rw [show (s.next : Int) + 1 = ((s.next + 1 : Nat) : Int) from by omega]; exact ⟨rfl, HF.out.1, HF.out.2⟩)
    · have i1 : (TE == 0) = false := by simpa using ht
      have hsm := HSM.out ht
      have HF := Lib.hid (show JAt w2 j d R ∧ Keeps2 w w2 j d from by
        rw [HST.out, if_neg (by rw [HEV.out]; exact ht)]
        have hd2 := HD2.out
        rw [hsm] at hd2
        exact ⟨⟨HJ2.out, hd2, J1.out.dk⟩, K2.out⟩)
      clear hsm
      go_wp2
      go_ret
      rw [HEV.out]
      exact ⟨rfl, HF.out.1, HF.out.2⟩
  · have i0 : (B == 0) = false := by simpa using h0
    have HEV : Hid (E = B) := Lib.hid (by rw [HE.out, if_neg h0])
    have HF := Lib.hid (show JAt w1 j d R ∧ Keeps2 w w1 j d from by
      rw [HST.out, if_neg (by rw [HEV.out]; exact h0)]
      exact ⟨J1.out, Keeps2.of_below B1.out j d⟩)
    go_wp2
    go_ret
    rw [HEV.out]
    exact ⟨rfl, HF.out.1, HF.out.2⟩
set_option maxHeartbeats 2000000 in
set_option maxRecDepth 100000 in
theorem bytes_nil (label : Int) (c : Cm) (w : World) (hc : c.In w) : Calls Tryz.prog 25 #[.pointer none, .int .i64 label, c.agg] w fun e w' => Byted ByteArray.empty 1 w e w' := by
  obtain ⟨p4, q4, e4⟩ := hc.2.1.nslice
  obtain ⟨p5, q5, e5⟩ := hc.2.1.xslice
  obtain ⟨r4, t4, f4⟩ := hc.2.2.nslice
  obtain ⟨r5, t5, f5⟩ := hc.2.2.xslice
  unfold Cm.agg Cm.cells Val.cells
  rw [e4, e5, f4, f5]
  simp only [List.cons_append, List.nil_append]
  go_enter Tryz.func25, Tryz.ntmps25
  go_wp2
  go_ret2
  exact ⟨rfl, (Below.refl _ _).alloc (Nat.le_refl _) _⟩
set_option maxHeartbeats 2000000 in
set_option maxRecDepth 100000 in
theorem write_nil (label : Int) (c : Cm) (w : World) (hc : c.In w) : Calls Tryz.prog 10 #[.pointer none, .int .i64 label, c.agg] w fun e w' => e = .returned (.int .i64 1) ∧ Below w.heap.size w w' := by
  obtain ⟨p4, q4, e4⟩ := hc.2.1.nslice
  obtain ⟨p5, q5, e5⟩ := hc.2.1.xslice
  obtain ⟨r4, t4, f4⟩ := hc.2.2.nslice
  obtain ⟨r5, t5, f5⟩ := hc.2.2.xslice
  obtain ⟨C, hC⟩ : ∃ C, C = w.heap.size := ⟨_, rfl⟩
  obtain ⟨W, hW⟩ : ∃ W, W = w.alloc (.cells c.cells.toArray 39) := ⟨_, rfl⟩
  have hb : Below w.heap.size w W := by rw [hW]; exact (Below.refl _ _).alloc (Nat.le_refl _) _
  have hbc : Blk W C 39 c.cells.toArray := by rw [hW, hC]; exact Blk.new _ _ _
  have hby := bytes_nil label c W (hc.below hb)
  have hag : c.agg = .agg #[.int .i64 c.k, .int .i64 c.nd, .int .i64 c.il, .int .i64 c.inn, .int .i64 c.n, .int .i64 c.key.k, .int .i64 c.key.n, .float .f64 c.key.f, .string c.key.s, .slice p4 c.key.ns.length q4, .slice p5 c.key.xs.length q5, .int .i64 c.v.k, .int .i64 c.v.n, .float .f64 c.v.f, .string c.v.s, .slice r4 c.v.ns.length t4, .slice r5 c.v.xs.length t5] := by
    unfold Cm.agg Cm.cells Val.cells; rw [e4, e5, f4, f5]; rfl
  have hbc' : Blk W C 39 #[.int .i64 c.k, .int .i64 c.nd, .int .i64 c.il, .int .i64 c.inn, .int .i64 c.n, .int .i64 c.key.k, .int .i64 c.key.n, .float .f64 c.key.f, .string c.key.s, .slice p4 c.key.ns.length q4, .slice p5 c.key.xs.length q5, .int .i64 c.v.k, .int .i64 c.v.n, .float .f64 c.v.f, .string c.v.s, .slice r4 c.v.ns.length t4, .slice r5 c.v.xs.length t5] := by
    unfold Cm.cells Val.cells at hbc; rw [e4, e5, f4, f5] at hbc; exact hbc
  unfold Cm.cells Val.cells at hW
  rw [e4, e5, f4, f5] at hW
  simp only [List.cons_append, List.nil_append] at hW
  rw [hag] at hby ⊢
  have HC := Lib.hid hC; have HW := Lib.hid hW; have HBW := Lib.hid hb; have HBC := Lib.hid hbc'; have HBY := Lib.hid hby
  clear hC hW hb hbc hbc' hby hag e4 e5 f4 f5 hc
  have c0 := HBC.out.cell 0; have c1 := HBC.out.cell 1; have c2 := HBC.out.cell 2; have c3 := HBC.out.cell 3; have c4 := HBC.out.cell 4; have c5 := HBC.out.cell 5; have c6 := HBC.out.cell 6; have c7 := HBC.out.cell 7; have c8 := HBC.out.cell 8; have c9 := HBC.out.cell 9; have c10 := HBC.out.cell 10; have c11 := HBC.out.cell 11; have c12 := HBC.out.cell 12; have c13 := HBC.out.cell 13; have c14 := HBC.out.cell 14; have c15 := HBC.out.cell 15; have c16 := HBC.out.cell 16
  simp only [List.getElem?_toArray, List.getElem?_cons_zero, List.getElem?_cons_succ] at c0 c1 c2 c3 c4 c5 c6 c7 c8 c9 c10 c11 c12 c13 c14 c15 c16
  go_enter Tryz.func10, Tryz.ntmps10
  go_upto_region 1 with fail
  rw [← HW.out, ← HC.out]
  go_wp2_with fail
  refine HBY.out.mono ?_
  rintro e w1 ⟨rfl, hb1⟩
  have B1 := Lib.hid (HBW.out.trans (hb1.mono HBW.out.size))
  clear hb1 c0 c1 c2 c3 c4 c5 c6 c7 c8 c9 c10 c11 c12 c13 c14 c15 c16 HBY HBC
  go_wp2
  go_ret
  exact ⟨rfl, B1.out⟩
set_option maxHeartbeats 2000000 in
set_option maxRecDepth 100000 in
theorem crash_nil (label : Int) (c : Cm) (keep : Int) (w : World) (hc : c.In w) : Calls Tryz.prog 11 #[.pointer none, .int .i64 label, c.agg, .int .i64 keep] w fun e w' => e = .returned (.int .i64 1) ∧ Below w.heap.size w w' := by
  obtain ⟨p4, q4, e4⟩ := hc.2.1.nslice
  obtain ⟨p5, q5, e5⟩ := hc.2.1.xslice
  obtain ⟨r4, t4, f4⟩ := hc.2.2.nslice
  obtain ⟨r5, t5, f5⟩ := hc.2.2.xslice
  obtain ⟨C, hC⟩ : ∃ C, C = w.heap.size := ⟨_, rfl⟩
  obtain ⟨W, hW⟩ : ∃ W, W = w.alloc (.cells c.cells.toArray 39) := ⟨_, rfl⟩
  have hb : Below w.heap.size w W := by rw [hW]; exact (Below.refl _ _).alloc (Nat.le_refl _) _
  have hbc : Blk W C 39 c.cells.toArray := by rw [hW, hC]; exact Blk.new _ _ _
  have hby := bytes_nil label c W (hc.below hb)
  have hag : c.agg = .agg #[.int .i64 c.k, .int .i64 c.nd, .int .i64 c.il, .int .i64 c.inn, .int .i64 c.n, .int .i64 c.key.k, .int .i64 c.key.n, .float .f64 c.key.f, .string c.key.s, .slice p4 c.key.ns.length q4, .slice p5 c.key.xs.length q5, .int .i64 c.v.k, .int .i64 c.v.n, .float .f64 c.v.f, .string c.v.s, .slice r4 c.v.ns.length t4, .slice r5 c.v.xs.length t5] := by
    unfold Cm.agg Cm.cells Val.cells; rw [e4, e5, f4, f5]; rfl
  have hbc' : Blk W C 39 #[.int .i64 c.k, .int .i64 c.nd, .int .i64 c.il, .int .i64 c.inn, .int .i64 c.n, .int .i64 c.key.k, .int .i64 c.key.n, .float .f64 c.key.f, .string c.key.s, .slice p4 c.key.ns.length q4, .slice p5 c.key.xs.length q5, .int .i64 c.v.k, .int .i64 c.v.n, .float .f64 c.v.f, .string c.v.s, .slice r4 c.v.ns.length t4, .slice r5 c.v.xs.length t5] := by
    unfold Cm.cells Val.cells at hbc; rw [e4, e5, f4, f5] at hbc; exact hbc
  unfold Cm.cells Val.cells at hW
  rw [e4, e5, f4, f5] at hW
  simp only [List.cons_append, List.nil_append] at hW
  rw [hag] at hby ⊢
  have HC := Lib.hid hC; have HW := Lib.hid hW; have HBW := Lib.hid hb; have HBC := Lib.hid hbc'; have HBY := Lib.hid hby
  clear hC hW hb hbc hbc' hby hag e4 e5 f4 f5 hc
  have c0 := HBC.out.cell 0; have c1 := HBC.out.cell 1; have c2 := HBC.out.cell 2; have c3 := HBC.out.cell 3; have c4 := HBC.out.cell 4; have c5 := HBC.out.cell 5; have c6 := HBC.out.cell 6; have c7 := HBC.out.cell 7; have c8 := HBC.out.cell 8; have c9 := HBC.out.cell 9; have c10 := HBC.out.cell 10; have c11 := HBC.out.cell 11; have c12 := HBC.out.cell 12; have c13 := HBC.out.cell 13; have c14 := HBC.out.cell 14; have c15 := HBC.out.cell 15; have c16 := HBC.out.cell 16
  simp only [List.getElem?_toArray, List.getElem?_cons_zero, List.getElem?_cons_succ] at c0 c1 c2 c3 c4 c5 c6 c7 c8 c9 c10 c11 c12 c13 c14 c15 c16
  go_enter Tryz.func11, Tryz.ntmps11
  go_upto_region 1 with fail
  rw [← HW.out, ← HC.out]
  go_wp2_with fail
  refine HBY.out.mono ?_
  rintro e w1 ⟨rfl, hb1⟩
  have B1 := Lib.hid (HBW.out.trans (hb1.mono HBW.out.size))
  clear hb1 c0 c1 c2 c3 c4 c5 c6 c7 c8 c9 c10 c11 c12 c13 c14 c15 c16 HBY HBC
  go_wp2
  go_ret
  exact ⟨rfl, B1.out⟩
end Go.Proofs.YtaamihdibpioaaaGreat.Jr
