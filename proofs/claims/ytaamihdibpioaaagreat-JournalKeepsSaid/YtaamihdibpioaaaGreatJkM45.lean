/- journal: Write, Crash. -/
import Derived.Test.YtaamihdibpioaaaGreatJkM43
import Derived.Test.YtaamihdibpioaaaGreatJkM44
namespace Go.Proofs.YtaamihdibpioaaaGreat.Jr
set_option linter.unusedVariables false
open Go.RowKit Go.Proofs.YtaamihdibpioaaaGreat.Crc Go.Proofs.YtaamihdibpioaaaGreat.Pk

/-- What a write did. -/
def JDid (k : Int) (s' : Jt) (j d : Nat) (w : World) (e : Ending) (w' : World) : Prop := e = .returned (.int .i64 k) ∧ JAt w' j d s' ∧ Keeps2 w w' j d
theorem tear_same {n : Nat} {rows : List ByteArray} {i : Int} {s : ByteArray} {keep : Int} (h : tearE n rows i s ≠ 0) : tearR n rows i s keep = rows := by
  unfold tearE at h
  unfold tearR
  cases h1 : isSeg n i with
  | false => rfl
  | true =>
    rw [h1] at h
    cases h2 : fits rows i s with
    | false => rfl
    | true => rw [h2] at h; exact absurd rfl h
theorem jF_size {s : Jt} {label : Int} {enc : Option (List UInt8)} (h : jB s label enc = 0) : (jF s enc).size ≤ 2006 := by
  unfold jB at h
  cases ht : s.torn with
  | true => rw [ht] at h; simp at h
  | false =>
    rw [ht] at h
    cases hs : isSeg s.n label with
    | false => rw [hs] at h; simp at h
    | true =>
      rw [hs] at h
      cases enc with
      | none => simp [encE] at h
      | some l =>
        simp only [cond_false, cond_true, encE] at h
        split at h
        · omega
        · have := frame_lenAt (p := payB s.next l) (by rw [payB_size]; omega)
          unfold jF
          show (frameOf (payB s.next l)).size ≤ 2006
          rw [this, payB_size]
          omega
set_option maxHeartbeats 4000000 in
set_option maxRecDepth 100000 in
theorem jwrite_any (j d : Nat) (s : Jt) (label : Int) (c : Cm) (w : World) (h : JAt w j d s) (hn : s.next < 1000000000) (hc : c.In w) :
    Calls Tryz.prog 10 #[.pointer (some ⟨j, 0, none⟩), .int .i64 label, c.agg] w fun e w' => JDid (jE s label c.enc) (jWrite s label c.enc) j d w e w' := by
  obtain ⟨p4, q4, e4⟩ := hc.2.1.nslice
  obtain ⟨p5, q5, e5⟩ := hc.2.1.xslice
  obtain ⟨r4, t4, f4⟩ := hc.2.2.nslice
  obtain ⟨r5, t5, f5⟩ := hc.2.2.xslice
  obtain ⟨C, hC⟩ : ∃ C, C = w.heap.size := ⟨_, rfl⟩
  obtain ⟨W, hW⟩ : ∃ W, W = w.alloc (.cells c.cells.toArray 39) := ⟨_, rfl⟩
  have hb : Below w.heap.size w W := by rw [hW]; exact (Below.refl _ _).alloc (Nat.le_refl _) _
  have hbc : Blk W C 39 c.cells.toArray := by rw [hW, hC]; exact Blk.new _ _ _
  have hJ := h.below hb
  have hby := bytes_any j d s label c W hJ hn (hc.below hb)
  have hag : c.agg = .agg #[.int .i64 c.k, .int .i64 c.nd, .int .i64 c.il, .int .i64 c.inn, .int .i64 c.n, .int .i64 c.key.k, .int .i64 c.key.n, .float .f64 c.key.f, .string c.key.s, .slice p4 c.key.ns.length q4, .slice p5 c.key.xs.length q5, .int .i64 c.v.k, .int .i64 c.v.n, .float .f64 c.v.f, .string c.v.s, .slice r4 c.v.ns.length t4, .slice r5 c.v.xs.length t5] := by
    unfold Cm.agg Cm.cells Val.cells; rw [e4, e5, f4, f5]; rfl
  have hbc' : Blk W C 39 #[.int .i64 c.k, .int .i64 c.nd, .int .i64 c.il, .int .i64 c.inn, .int .i64 c.n, .int .i64 c.key.k, .int .i64 c.key.n, .float .f64 c.key.f, .string c.key.s, .slice p4 c.key.ns.length q4, .slice p5 c.key.xs.length q5, .int .i64 c.v.k, .int .i64 c.v.n, .float .f64 c.v.f, .string c.v.s, .slice r4 c.v.ns.length t4, .slice r5 c.v.xs.length t5] := by
    unfold Cm.cells Val.cells at hbc; rw [e4, e5, f4, f5] at hbc; exact hbc
  unfold Cm.cells Val.cells at hW
  rw [e4, e5, f4, f5] at hW
  simp only [List.cons_append, List.nil_append] at hW
  rw [hag] at hby ⊢
  obtain ⟨EN, hEN⟩ : ∃ EN, EN = c.enc := ⟨_, rfl⟩
  rw [← hEN] at hby ⊢
  obtain ⟨B, hB⟩ : ∃ B, B = jB s label EN := ⟨_, rfl⟩
  have hSS : B = 0 → jS s label EN = jF s EN := fun h0 => by unfold jS; rw [← hB, if_pos h0]
  obtain ⟨SS, hS⟩ : ∃ SS, SS = jS s label EN := ⟨_, rfl⟩
  have hE := jE_eq s label EN
  rw [← hB] at hE hby
  rw [← hS] at hby hSS
  have hFz := fun (h0 : B = 0) => jF_size (s := s) (label := label) (enc := EN) (by rw [← hB]; exact h0)
  obtain ⟨E, hEE⟩ : ∃ E, E = jE s label EN := ⟨_, rfl⟩
  obtain ⟨TE, hTE⟩ : ∃ TE, TE = tearE s.n s.rows label (jF s EN) := ⟨_, rfl⟩
  have hst : jWrite s label EN = if E = 0 then { s with rows := tearR s.n s.rows label (jF s EN) ((jF s EN).size : Int), next := s.next + 1 } else s := by rw [hEE]; rfl
  rw [← hEE, ← hTE] at hE
  rw [← hEE]
  have htd := fun (hz : (jF s EN).size ≤ 2006) (W' : World) (hj : JAt W' j d s) => append_any d s.n s.rows label (jF s EN) W' hj.db hj.dk (by omega)
  rw [← hTE] at htd
  have hsame := fun (ht : TE ≠ 0) => tear_same (n := s.n) (rows := s.rows) (i := label) (s := jF s EN) (keep := ((jF s EN).size : Int)) (by rw [← hTE]; exact ht)
  obtain ⟨R, hR⟩ : ∃ R, R = jWrite s label EN := ⟨_, rfl⟩
  rw [← hR] at hst ⊢
  have hz : W.heap.size = w.heap.size + 1 := by rw [hW]; simp
  have HC := Lib.hid hC; have HW := Lib.hid hW; have HBW := Lib.hid hb; have HBC := Lib.hid hbc'; have HBY := Lib.hid hby; have HE := Lib.hid hE; have HJ := Lib.hid hJ; have HSS := Lib.hid hSS; have HFZ := Lib.hid hFz; have HST := Lib.hid hst; have HTD := Lib.hid htd; have HSM := Lib.hid hsame
  clear hC hW hb hbc hbc' hby hE hJ hSS hFz hst htd hsame hag hEN hB hS hEE hTE hR e4 e5 f4 f5 hc h hz
  have c0 := HBC.out.cell 0; have c1 := HBC.out.cell 1; have c2 := HBC.out.cell 2; have c3 := HBC.out.cell 3; have c4 := HBC.out.cell 4; have c5 := HBC.out.cell 5; have c6 := HBC.out.cell 6; have c7 := HBC.out.cell 7; have c8 := HBC.out.cell 8; have c9 := HBC.out.cell 9; have c10 := HBC.out.cell 10; have c11 := HBC.out.cell 11; have c12 := HBC.out.cell 12; have c13 := HBC.out.cell 13; have c14 := HBC.out.cell 14; have c15 := HBC.out.cell 15; have c16 := HBC.out.cell 16
  simp only [List.getElem?_toArray, List.getElem?_cons_zero, List.getElem?_cons_succ] at c0 c1 c2 c3 c4 c5 c6 c7 c8 c9 c10 c11 c12 c13 c14 c15 c16
  go_enter Tryz.func10, Tryz.ntmps10
  go_upto_region 1 with fail
  rw [← HW.out, ← HC.out]
  go_wp2_with fail
  refine HBY.out.mono ?_
  rintro e w1 ⟨rfl, hb1⟩
  have J1 := Lib.hid (HJ.out.below hb1); have B1 := Lib.hid (HBW.out.trans (hb1.mono HBW.out.size))
  clear hb1 c0 c1 c2 c3 c4 c5 c6 c7 c8 c9 c10 c11 c12 c13 c14 c15 c16 HBY HBC
  by_cases h0 : B = 0
  · obtain rfl := HSS.out h0
    have hz := HFZ.out h0
    have HEV : Hid (E = TE) := Lib.hid (by rw [HE.out, if_pos h0])
    have HT1 := Lib.hid (HTD.out hz w1 J1.out)
    have j0 := J1.out.jb.cell 0
    simp at j0
    subst h0
    clear hz HTD
    go_wp2_with fail
    refine HT1.out.mono ?_
    rintro e w2 ⟨rfl, ho2, hd2⟩
    have k2 : Keeps2 w w2 j d := (Keeps2.of_below B1.out j d).trans (Keeps2.of_only2 ho2)
    have hj2 := J1.out.jb.grown ho2 (by simp; exact J1.out.ne)
    have K2 := Lib.hid k2; have HJ2 := Lib.hid hj2; have HD2 := Lib.hid hd2
    clear k2 hj2 hd2 ho2 j0 HT1
    by_cases ht : TE = 0
    · subst ht
      have c2 := HJ2.out.cell 2; have f2 := HJ2.out.frozen 2
      simp at c2
      have hw1 : IntKind.i64.wrap ((s.next : Int) + 1) = ((s.next + 1 : Nat) : Int) := by rw [IntWalk.i64_in _ (by omega)]; omega
      have HF := Lib.hid (show JAt (w2.setCell ⟨j, 2, none⟩ (.int .i64 ((s.next + 1 : Nat) : Int))) j d R ∧ Keeps2 w (w2.setCell ⟨j, 2, none⟩ (.int .i64 ((s.next + 1 : Nat) : Int))) j d from by
        rw [HST.out, if_pos HEV.out]
        refine ⟨⟨HJ2.out.set_ 2 (.int .i64 ((s.next + 1 : Nat) : Int)), HD2.out.far (p := ⟨j, 2, none⟩) (Ne.symm J1.out.ne) _, ?_⟩, K2.out.trans (Keeps2.of_only1 ((Only.refl _ _).set_ (p := ⟨j, 2, none⟩) (.inl rfl) _))⟩
        exact J1.out.dk.tear _ _ _)
      have HW1 := Lib.hid hw1
      go_wp2
      go_ret
      rw [HEV.out]
      first | exact ⟨rfl, HF.out.1, HF.out.2⟩ | (rw [show (s.next : Int) + 1 = ((s.next + 1 : Nat) : Int) from by omega]; exact ⟨rfl, HF.out.1, HF.out.2⟩)
    · have i1 : (TE == 0) = false := by simpa using ht
      have hsm := HSM.out ht
      have HF := Lib.hid (show JAt w2 j d R ∧ Keeps2 w w2 j d from by
        rw [HST.out, if_neg (by rw [HEV.out]; exact ht)]
        have hd2 := HD2.out
        rw [hsm] at hd2
        exact ⟨⟨HJ2.out, hd2, J1.out.dk⟩, K2.out⟩)
      clear hsm
      go_wp2
      go_ret
      rw [HEV.out]
      exact ⟨rfl, HF.out.1, HF.out.2⟩
  · have i0 : (B == 0) = false := by simpa using h0
    have HEV : Hid (E = B) := Lib.hid (by rw [HE.out, if_neg h0])
    have HF := Lib.hid (show JAt w1 j d R ∧ Keeps2 w w1 j d from by
      rw [HST.out, if_neg (by rw [HEV.out]; exact h0)]
      exact ⟨J1.out, Keeps2.of_below B1.out j d⟩)
    go_wp2
    go_ret
    rw [HEV.out]
    exact ⟨rfl, HF.out.1, HF.out.2⟩
set_option maxHeartbeats 4000000 in
set_option maxRecDepth 100000 in
theorem jcrash_any (j d : Nat) (s : Jt) (label : Int) (c : Cm) (keep : Int) (w : World) (h : JAt w j d s) (hn : s.next < 1000000000) (hc : c.In w) :
    Calls Tryz.prog 11 #[.pointer (some ⟨j, 0, none⟩), .int .i64 label, c.agg, .int .i64 keep] w fun e w' => JDid (jE s label c.enc) (jCrash s label c.enc keep) j d w e w' := by
  obtain ⟨p4, q4, e4⟩ := hc.2.1.nslice
  obtain ⟨p5, q5, e5⟩ := hc.2.1.xslice
  obtain ⟨r4, t4, f4⟩ := hc.2.2.nslice
  obtain ⟨r5, t5, f5⟩ := hc.2.2.xslice
  obtain ⟨C, hC⟩ : ∃ C, C = w.heap.size := ⟨_, rfl⟩
  obtain ⟨W, hW⟩ : ∃ W, W = w.alloc (.cells c.cells.toArray 39) := ⟨_, rfl⟩
  have hb : Below w.heap.size w W := by rw [hW]; exact (Below.refl _ _).alloc (Nat.le_refl _) _
  have hbc : Blk W C 39 c.cells.toArray := by rw [hW, hC]; exact Blk.new _ _ _
  have hJ := h.below hb
  have hby := bytes_any j d s label c W hJ hn (hc.below hb)
  have hag : c.agg = .agg #[.int .i64 c.k, .int .i64 c.nd, .int .i64 c.il, .int .i64 c.inn, .int .i64 c.n, .int .i64 c.key.k, .int .i64 c.key.n, .float .f64 c.key.f, .string c.key.s, .slice p4 c.key.ns.length q4, .slice p5 c.key.xs.length q5, .int .i64 c.v.k, .int .i64 c.v.n, .float .f64 c.v.f, .string c.v.s, .slice r4 c.v.ns.length t4, .slice r5 c.v.xs.length t5] := by
    unfold Cm.agg Cm.cells Val.cells; rw [e4, e5, f4, f5]; rfl
  have hbc' : Blk W C 39 #[.int .i64 c.k, .int .i64 c.nd, .int .i64 c.il, .int .i64 c.inn, .int .i64 c.n, .int .i64 c.key.k, .int .i64 c.key.n, .float .f64 c.key.f, .string c.key.s, .slice p4 c.key.ns.length q4, .slice p5 c.key.xs.length q5, .int .i64 c.v.k, .int .i64 c.v.n, .float .f64 c.v.f, .string c.v.s, .slice r4 c.v.ns.length t4, .slice r5 c.v.xs.length t5] := by
    unfold Cm.cells Val.cells at hbc; rw [e4, e5, f4, f5] at hbc; exact hbc
  unfold Cm.cells Val.cells at hW
  rw [e4, e5, f4, f5] at hW
  simp only [List.cons_append, List.nil_append] at hW
  rw [hag] at hby ⊢
  obtain ⟨EN, hEN⟩ : ∃ EN, EN = c.enc := ⟨_, rfl⟩
  rw [← hEN] at hby ⊢
  obtain ⟨B, hB⟩ : ∃ B, B = jB s label EN := ⟨_, rfl⟩
  have hSS : B = 0 → jS s label EN = jF s EN := fun h0 => by unfold jS; rw [← hB, if_pos h0]
  obtain ⟨SS, hS⟩ : ∃ SS, SS = jS s label EN := ⟨_, rfl⟩
  have hE := jE_eq s label EN
  rw [← hB] at hE hby
  rw [← hS] at hby hSS
  have hFz := fun (h0 : B = 0) => jF_size (s := s) (label := label) (enc := EN) (by rw [← hB]; exact h0)
  obtain ⟨E, hEE⟩ : ∃ E, E = jE s label EN := ⟨_, rfl⟩
  obtain ⟨TE, hTE⟩ : ∃ TE, TE = tearE s.n s.rows label (jF s EN) := ⟨_, rfl⟩
  have hst : jCrash s label EN keep = if E = 0 then { s with rows := tearR s.n s.rows label (jF s EN) keep, torn := true } else s := by rw [hEE]; rfl
  rw [← hEE, ← hTE] at hE
  rw [← hEE]
  have htd := fun (hz : (jF s EN).size ≤ 2006) (W' : World) (hj : JAt W' j d s) => tear_any d s.n s.rows label (jF s EN) keep W' hj.db hj.dk (by omega)
  rw [← hTE] at htd
  have hsame := fun (ht : TE ≠ 0) => tear_same (n := s.n) (rows := s.rows) (i := label) (s := jF s EN) (keep := keep) (by rw [← hTE]; exact ht)
  obtain ⟨R, hR⟩ : ∃ R, R = jCrash s label EN keep := ⟨_, rfl⟩
  rw [← hR] at hst ⊢
  have hz : W.heap.size = w.heap.size + 1 := by rw [hW]; simp
  have HC := Lib.hid hC; have HW := Lib.hid hW; have HBW := Lib.hid hb; have HBC := Lib.hid hbc'; have HBY := Lib.hid hby; have HE := Lib.hid hE; have HJ := Lib.hid hJ; have HSS := Lib.hid hSS; have HFZ := Lib.hid hFz; have HST := Lib.hid hst; have HTD := Lib.hid htd; have HSM := Lib.hid hsame
  clear hC hW hb hbc hbc' hby hE hJ hSS hFz hst htd hsame hag hEN hB hS hEE hTE hR e4 e5 f4 f5 hc h hz
  have c0 := HBC.out.cell 0; have c1 := HBC.out.cell 1; have c2 := HBC.out.cell 2; have c3 := HBC.out.cell 3; have c4 := HBC.out.cell 4; have c5 := HBC.out.cell 5; have c6 := HBC.out.cell 6; have c7 := HBC.out.cell 7; have c8 := HBC.out.cell 8; have c9 := HBC.out.cell 9; have c10 := HBC.out.cell 10; have c11 := HBC.out.cell 11; have c12 := HBC.out.cell 12; have c13 := HBC.out.cell 13; have c14 := HBC.out.cell 14; have c15 := HBC.out.cell 15; have c16 := HBC.out.cell 16
  simp only [List.getElem?_toArray, List.getElem?_cons_zero, List.getElem?_cons_succ] at c0 c1 c2 c3 c4 c5 c6 c7 c8 c9 c10 c11 c12 c13 c14 c15 c16
  go_enter Tryz.func11, Tryz.ntmps11
  go_upto_region 1 with fail
  rw [← HW.out, ← HC.out]
  go_wp2_with fail
  refine HBY.out.mono ?_
  rintro e w1 ⟨rfl, hb1⟩
  have J1 := Lib.hid (HJ.out.below hb1); have B1 := Lib.hid (HBW.out.trans (hb1.mono HBW.out.size))
  clear hb1 c0 c1 c2 c3 c4 c5 c6 c7 c8 c9 c10 c11 c12 c13 c14 c15 c16 HBY HBC
  by_cases h0 : B = 0
  · obtain rfl := HSS.out h0
    have hz := HFZ.out h0
    have HEV : Hid (E = TE) := Lib.hid (by rw [HE.out, if_pos h0])
    have HT1 := Lib.hid (HTD.out hz w1 J1.out)
    have j0 := J1.out.jb.cell 0
    simp at j0
    subst h0
    clear hz HTD
    go_wp2_with fail
    refine HT1.out.mono ?_
    rintro e w2 ⟨rfl, ho2, hd2⟩
    have k2 : Keeps2 w w2 j d := (Keeps2.of_below B1.out j d).trans (Keeps2.of_only2 ho2)
    have hj2 := J1.out.jb.grown ho2 (by simp; exact J1.out.ne)
    have K2 := Lib.hid k2; have HJ2 := Lib.hid hj2; have HD2 := Lib.hid hd2
    clear k2 hj2 hd2 ho2 j0 HT1
    by_cases ht : TE = 0
    · subst ht
      have c2 := HJ2.out.cell 3; have f2 := HJ2.out.frozen 3
      simp at c2
      have hw1 : IntKind.i64.wrap ((s.next : Int) + 1) = ((s.next + 1 : Nat) : Int) := by rw [IntWalk.i64_in _ (by omega)]; omega
      have HF := Lib.hid (show JAt (w2.setCell ⟨j, 3, none⟩ (.bool true)) j d R ∧ Keeps2 w (w2.setCell ⟨j, 3, none⟩ (.bool true)) j d from by
        rw [HST.out, if_pos HEV.out]
        refine ⟨⟨HJ2.out.set_ 3 (.bool true), HD2.out.far (p := ⟨j, 3, none⟩) (Ne.symm J1.out.ne) _, ?_⟩, K2.out.trans (Keeps2.of_only1 ((Only.refl _ _).set_ (p := ⟨j, 3, none⟩) (.inl rfl) _))⟩
        exact J1.out.dk.tear _ _ _)
      have HW1 := Lib.hid hw1
      go_wp2
      go_ret
      rw [HEV.out]
      first | exact ⟨rfl, HF.out.1, HF.out.2⟩ | (rw [show (s.next : Int) + 1 = ((s.next + 1 : Nat) : Int) from by omega]; exact ⟨rfl, HF.out.1, HF.out.2⟩)
    · have i1 : (TE == 0) = false := by simpa using ht
      have hsm := HSM.out ht
      have HF := Lib.hid (show JAt w2 j d R ∧ Keeps2 w w2 j d from by
        rw [HST.out, if_neg (by rw [HEV.out]; exact ht)]
        have hd2 := HD2.out
        rw [hsm] at hd2
        exact ⟨⟨HJ2.out, hd2, J1.out.dk⟩, K2.out⟩)
      clear hsm
      go_wp2
      go_ret
      rw [HEV.out]
      exact ⟨rfl, HF.out.1, HF.out.2⟩
  · have i0 : (B == 0) = false := by simpa using h0
    have HEV : Hid (E = B) := Lib.hid (by rw [HE.out, if_neg h0])
    have HF := Lib.hid (show JAt w1 j d R ∧ Keeps2 w w1 j d from by
      rw [HST.out, if_neg (by rw [HEV.out]; exact h0)]
      exact ⟨J1.out, Keeps2.of_below B1.out j d⟩)
    go_wp2
    go_ret
    rw [HEV.out]
    exact ⟨rfl, HF.out.1, HF.out.2⟩
end Go.Proofs.YtaamihdibpioaaaGreat.Jr

/- The statements of layer 18: the tick; what is awake, in plain terms. -/
namespace Go.Proofs.YtaamihdibpioaaaGreat.Jr
set_option linter.unusedVariables false
open Go.RowKit Go.Proofs.YtaamihdibpioaaaGreat.Crc Go.Proofs.YtaamihdibpioaaaGreat.Pk

/-- The command that is a tick. -/
def tickC : Cm := ⟨4, 0, 0, 0, 0, Val.zero, Val.zero⟩
theorem tick_in (w : World) : tickC.In w := ⟨fun x hx => by
  simp only [tickC, Cm.ints, List.mem_cons, List.not_mem_nil, or_false] at hx
  rcases hx with rfl | rfl | rfl | rfl | rfl <;> exact ⟨by omega, by omega⟩, zero_in _, zero_in _⟩
theorem tick_enc : tickC.enc = some [4, 0, 0, 0, 0, 0, 0] := by
  have h1 : ub (Int.toNat 4) = [4] := by rw [ub_small (by decide)]; rfl
  have h2 : ub (Int.toNat 0) = [0] := by rw [ub_small (by decide)]; rfl
  have hs : someB Val.zero = some [0] := by
    unfold someB
    rw [if_pos (show Val.zero.k = 0 from rfl), show Val.zero.noneB = true from by decide +kernel]
    rfl
  have hn : numsB tickC.ints = [4, 0, 0, 0, 0] := by
    simp only [numsB, tickC, Cm.ints, List.flatMap_cons, List.flatMap_nil, h1, h2]
    rfl
  unfold Cm.enc
  have hA : tickC.ints.all numOk = true := by decide
  rw [hA]
  simp only [cond_true]
  show (match someB Val.zero with | none => none | some a => match someB Val.zero with | none => none | some b => some (numsB tickC.ints ++ a ++ b)) = _
  rw [hs, hn]
  rfl
set_option maxHeartbeats 1000000 in
theorem tick_any (w : World) : Calls Tryz.prog 21 #[] w fun e w' => e = .returned tickC.agg ∧ Below w.heap.size w w' := by
  have hsf := run_store_flt
  have hag : tickC.agg = .agg #[.int .i64 4, .int .i64 0, .int .i64 0, .int .i64 0, .int .i64 0, .int .i64 0, .int .i64 0, .float .f64 0, .string ByteArray.empty, .slice none 0 0, .slice none 0 0, .int .i64 0, .int .i64 0, .float .f64 0, .string ByteArray.empty, .slice none 0 0, .slice none 0 0] := rfl
  rw [hag]
  obtain ⟨W, hW⟩ : ∃ W, W = w.alloc (.cells #[.int .i64 4, .int .i64 0, .int .i64 0, .int .i64 0, .int .i64 0, .int .i64 0, .int .i64 0, .float .f64 0, .string ⟨#[]⟩, .slice none 0 0, .slice none 0 0, .int .i64 0, .int .i64 0, .float .f64 0, .string ⟨#[]⟩, .slice none 0 0, .slice none 0 0] 39) := ⟨_, rfl⟩
  have hb : Below w.heap.size w W := by rw [hW]; exact (Below.refl _ _).alloc (Nat.le_refl _) _
  have hblk : Blk W w.heap.size 39 #[.int .i64 4, .int .i64 0, .int .i64 0, .int .i64 0, .int .i64 0, .int .i64 0, .int .i64 0, .float .f64 0, .string ⟨#[]⟩, .slice none 0 0, .slice none 0 0, .int .i64 0, .int .i64 0, .float .f64 0, .string ⟨#[]⟩, .slice none 0 0, .slice none 0 0] := by rw [hW]; exact Blk.new _ _ _
  have HB := Lib.hid hb; have HK := Lib.hid hblk; have HW := Lib.hid hW
  clear hb hblk hW hag
  go_enter Tryz.func21, Tryz.ntmps21
  go_wp2
  rw [← HW.out]
  have e0 := HK.out.cell 0; have e1 := HK.out.cell 1; have e2 := HK.out.cell 2; have e3 := HK.out.cell 3; have e4 := HK.out.cell 4; have e5 := HK.out.cell 5; have e6 := HK.out.cell 6; have e7 := HK.out.cell 7; have e8 := HK.out.cell 8; have e9 := HK.out.cell 9; have e10 := HK.out.cell 10; have e11 := HK.out.cell 11; have e12 := HK.out.cell 12; have e13 := HK.out.cell 13; have e14 := HK.out.cell 14; have e15 := HK.out.cell 15; have e16 := HK.out.cell 16
  simp only [List.getElem?_toArray, List.getElem?_cons_zero, List.getElem?_cons_succ] at e0 e1 e2 e3 e4 e5 e6 e7 e8 e9 e10 e11 e12 e13 e14 e15 e16
  refine bodyPost_ret (v := .agg #[.int .i64 4, .int .i64 0, .int .i64 0, .int .i64 0, .int .i64 0, .int .i64 0, .int .i64 0, .float .f64 0, .string ⟨#[]⟩, .slice none 0 0, .slice none 0 0, .int .i64 0, .int .i64 0, .float .f64 0, .string ⟨#[]⟩, .slice none 0 0, .slice none 0 0]) (by simp [results, Tryz.results21, go_sem, e0, e1, e2, e3, e4, e5, e6, e7, e8, e9, e10, e11, e12, e13, e14, e15, e16]) rfl ?_
  exact ⟨rfl, HB.out⟩

end Go.Proofs.YtaamihdibpioaaaGreat.Jr

/- The statements of layer 18: what is awake, in plain terms. No program in sight. -/
namespace Go.Proofs.YtaamihdibpioaaaGreat.Jr
set_option linter.unusedVariables false
open Go.RowKit Go.Proofs.YtaamihdibpioaaaGreat.Crc Go.Proofs.YtaamihdibpioaaaGreat.Pk

theorem cat_le {L : Nat} : ∀ ps : List ByteArray, (∀ p, p ∈ ps → p.size ≤ 2000 ∧ p.size ≤ L) → (cat ps).size ≤ ps.length * (L + 6)
  | [], _ => by simp [cat]
  | p :: ps, h => by
    have ih := cat_le ps (fun q hq => h q (by simp [hq]))
    have h1 := h p (by simp)
    have h2 := frame_lenAt h1.1
    show (frameOf p ++ cat ps).size ≤ _
    rw [ByteArray.size_append, h2, List.length_cons, Nat.succ_mul]
    omega
/-- A write that is not refused. -/
theorem jE_ok {s : Jt} {H : List He} {r : Nat → ByteArray} {label : Int} {l : List UInt8} {L : Nat} (h : Good s H r) (ht : s.torn = false) (hs : isSeg s.n label = true) (hl : l.length + 4 ≤ 2000) (hH : ∀ x, x ∈ H → x.bytes.length ≤ L) (hz : H.length * (L + 10) + (l.length + 10) ≤ 4000) : jE s label (some l) = 0 := by
  have hg := h.dk.at_ hs
  obtain ⟨k, rfl, hk, _, _, _⟩ := hg
  unfold jE
  rw [ht, hs]
  simp only [cond_false, cond_true]
  rw [if_neg (by omega)]
  unfold tearE
  rw [hs]
  have hrow := h.hist.rows k hk
  rw [h.clean ht k hk] at hrow
  have hc : (cat (segOf H k)).size ≤ (segOf H k).length * (L + 4 + 6) := cat_le _ (fun p hp => by
    obtain ⟨x, hx, rfl⟩ := List.mem_map.1 hp
    have h1 := (List.mem_filter.1 hx).1
    have h2 := (h.hist.ok x h1).1
    have h3 := hH x h1
    unfold He.pay
    rw [payB_size]
    omega)
  have hlen : (segOf H k).length ≤ H.length := by
    unfold segOf segL
    rw [List.length_map]
    exact List.length_filter_le _ _
  have hm : (segOf H k).length * (L + 4 + 6) ≤ H.length * (L + 10) := Nat.mul_le_mul hlen (by omega)
  have hf : fits s.rows (k : Int) (frameOf (payB s.next l)) = true := by
    unfold fits
    rw [hrow]
    have hfl := frame_lenAt (p := payB s.next l) (by rw [payB_size]; omega)
    rw [payB_size] at hfl
    simp only [ByteArray.size_append, ByteArray.size_empty, decide_eq_true_eq]
    omega
  rw [hf]
  rfl

def tickB : List UInt8 := [4, 0, 0, 0, 0, 0, 0]
def tickE : Option (List UInt8) := some tickB
def hs1 : List He := [⟨1, 1, tickB⟩]
def hs2 : List He := [⟨1, 1, tickB⟩, ⟨2, 0, tickB⟩]
def hs3 : List He := [⟨1, 1, tickB⟩, ⟨2, 0, tickB⟩, ⟨3, 0, tickB⟩]
theorem ticks_len : ∀ x, x ∈ hs3 → x.bytes.length ≤ 7 := by
  intro x hx
  simp only [hs3, List.mem_cons, List.not_mem_nil, or_false] at hx
  rcases hx with rfl | rfl | rfl <;> decide
theorem tick_frame (s : Jt) : (jF s tickE).size = 17 := by
  unfold jF tickE
  show (frameOf (payB s.next tickB)).size = 17
  rw [frame_lenAt (by rw [payB_size]; decide), payB_size]
  rfl
structure AwakeP (S1 S2 S3 S4 S5 : Jt) : Prop where
  e0 : jE (jNew 2) 1 tickE = 0
  s1 : jWrite (jNew 2) 1 tickE = S1
  n1 : S1.next < 1000000000
  e1 : jE S1 0 tickE = 0
  s2 : jWrite S1 0 tickE = S2
  n2 : S2.next < 1000000000
  g2 : ∃ r, Good S2 hs2 r
  e2 : jE S2 0 tickE = 0
  s3 : jCrash S2 0 tickE 3 = S3
  n3 : S3.next < 1000000000
  g3 : ∃ r, Good S3 hs2 r
  e3 : jE S3 0 tickE = 14
  s3' : jWrite S3 0 tickE = S3
  s4 : jRecover S3 hs2 = S4
  n4 : S4.next < 1000000000
  e4 : jE S4 0 tickE = 0
  s5 : jCrash S4 0 tickE 99 = S5
  g5 : ∃ r, Good S5 hs3 r
theorem awake_plain : ∃ S1 S2 S3 S4 S5, AwakeP S1 S2 S3 S4 S5 := by
  have g0 := good_new (n := 2) (by decide) (by decide)
  have hseg : ∀ i : Int, (i = 0 ∨ i = 1) → isSeg 2 i = true := fun i hi => by
    unfold isSeg
    rcases hi with rfl | rfl <;> decide
  have e0 : jE (jNew 2) 1 tickE = 0 := jE_ok (L := 7) g0 rfl (hseg 1 (.inr rfl)) (by decide) (fun x hx => by simp at hx) (by decide)
  obtain ⟨S1, h1⟩ : ∃ S1, S1 = jWrite (jNew 2) 1 tickE := ⟨_, rfl⟩
  have g1 : Good S1 hs1 (fun _ => ByteArray.empty) := by rw [h1]; exact good_write g0 e0
  have f1 : S1.n = 2 ∧ S1.next = 2 ∧ S1.torn = false := by rw [h1]; unfold jWrite; rw [if_pos e0]; exact ⟨rfl, rfl, rfl⟩
  have e1 : jE S1 0 tickE = 0 := jE_ok (L := 7) g1 f1.2.2 (by rw [f1.1]; exact hseg 0 (.inl rfl)) (by decide) (fun x hx => ticks_len x (by simp only [hs1, hs3, List.mem_cons, List.not_mem_nil, or_false] at hx ⊢; exact .inl hx)) (by decide)
  obtain ⟨S2, h2⟩ : ∃ S2, S2 = jWrite S1 0 tickE := ⟨_, rfl⟩
  have g2 : Good S2 hs2 (fun _ => ByteArray.empty) := by
    have := good_write g1 e1
    rw [h2]
    rw [f1.2.1] at this
    exact this
  have f2 : S2.n = 2 ∧ S2.next = 3 ∧ S2.torn = false := by rw [h2]; unfold jWrite; rw [if_pos e1]; exact ⟨f1.1, by show S1.next + 1 = 3; rw [f1.2.1], f1.2.2⟩
  have hin2 : ∀ x, x ∈ hs2 → x.bytes.length ≤ 7 := fun x hx => ticks_len x (by
    simp only [hs2, hs3, List.mem_cons, List.not_mem_nil, or_false] at hx ⊢
    rcases hx with h | h
    · exact .inl h
    · exact .inr (.inl h))
  have e2 : jE S2 0 tickE = 0 := jE_ok (L := 7) g2 f2.2.2 (by rw [f2.1]; exact hseg 0 (.inl rfl)) (by decide) hin2 (by decide)
  obtain ⟨S3, h3⟩ : ∃ S3, S3 = jCrash S2 0 tickE 3 := ⟨_, rfl⟩
  have g3 : ∃ r, Good S3 hs2 r := by
    obtain ⟨r', hr⟩ := good_crash (keep := 3) g2 e2
    rw [tick_frame, if_neg (by decide)] at hr
    rw [h3]
    exact ⟨r', hr⟩
  have f3 : S3.n = 2 ∧ S3.next = 3 ∧ S3.torn = true := by rw [h3]; unfold jCrash; rw [if_pos e2]; exact ⟨f2.1, f2.2.1, rfl⟩
  have e3 : jE S3 0 tickE = 14 := by unfold jE; rw [f3.2.2]; rfl
  have s3' : jWrite S3 0 tickE = S3 := by unfold jWrite; rw [if_neg (by rw [e3]; decide)]
  obtain ⟨S4, h4⟩ : ∃ S4, S4 = jRecover S3 hs2 := ⟨_, rfl⟩
  obtain ⟨r3, gr3⟩ := g3
  have g4 : Good S4 hs2 (fun _ => ByteArray.empty) := by rw [h4]; exact good_recover gr3
  have f4 : S4.n = 2 ∧ S4.next = 3 ∧ S4.torn = false := by rw [h4]; exact ⟨f3.1, rfl, rfl⟩
  have e4 : jE S4 0 tickE = 0 := jE_ok (L := 7) g4 f4.2.2 (by rw [f4.1]; exact hseg 0 (.inl rfl)) (by decide) hin2 (by decide)
  obtain ⟨S5, h5⟩ : ∃ S5, S5 = jCrash S4 0 tickE 99 := ⟨_, rfl⟩
  have g5 : ∃ r, Good S5 hs3 r := by
    obtain ⟨r', hr⟩ := good_crash (keep := 99) g4 e4
    rw [tick_frame, if_pos (by decide), f4.2.1] at hr
    rw [h5]
    exact ⟨r', hr⟩
  exact ⟨S1, S2, S3, S4, S5, e0, h1.symm, by rw [f1.2.1]; decide, e1, h2.symm, by rw [f2.2.1]; decide, ⟨_, g2⟩, e2, h3.symm, by rw [f3.2.1]; decide, ⟨_, gr3⟩, e3, s3', h4.symm, by rw [f4.2.1]; decide, e4, h5.symm, g5⟩
end Go.Proofs.YtaamihdibpioaaaGreat.Jr

/- Journals: what is read again is the same as what was written. Plain lemmas. -/
namespace Go.Proofs.YtaamihdibpioaaaGreat.Jr
set_option linter.unusedVariables false
open Go.RowKit Go.Proofs.YtaamihdibpioaaaGreat.Crc Go.Proofs.YtaamihdibpioaaaGreat.Pk Go.Proofs.YtaamihdibpioaaaGreat.Rf

theorem like_one {a u v : Val} (h1 : a.erase = u) (h2 : u.like v) : a.rsame v = true := by
  unfold Val.rsame
  rcases h2 with ⟨_, h2, h3⟩ | ⟨_, h2, rfl⟩
  · have hk : a.Kinds := (Val.kinds_erase a.sz a (Nat.le_refl _)).1 (by rw [h1]; exact h3)
    have hn : a.nf = v.nf := by rw [← Val.nf_erase a.sz a (Nat.le_refl _), h1, h2]
    rw [(Val.rord_nf a.sz a v (Nat.le_refl _) hk).2 hn]; rfl
  · rw [Val.rord_erase a.sz a v (Nat.le_refl _) (by rw [h1, noneB_erase h2])]; rfl
theorem cm_one {a u c : Cm} (h1 : a.erase = u) (h2 : u.like c) : cmSame a c = true := by
  obtain ⟨i, k, v⟩ := h2
  unfold cmSame
  have e1 : a.ints = c.ints := by rw [← i, ← h1]; rfl
  rw [decide_eq_true e1, like_one (by rw [← h1]; rfl) k, like_one (by rw [← h1]; rfl) v]
  rfl
theorem readC_like {w : World} {h : He} {c : Cm} (hi : c.In w) (he : c.enc = some h.bytes) : (readC h.pay).like c := by
  have hz : h.pay.size = 4 + h.bytes.length := payB_size _ _
  have hf : from_ h.pay 4 = h.bytes ++ [] := by
    unfold from_ He.pay payB num4
    simp
  obtain ⟨u, h1, h2⟩ := rdCm_back hi he hf (by omega)
  unfold readC
  rw [Nat.min_eq_left (by omega), h1]
  exact h2

/-- What was kept beside: the records' labels, and the commands, of which the bytes are the history's. -/
structure KeptIs (w : World) (H : List He) (ks : List Rc) : Prop where
  len : ks.length = H.length
  each : ∀ k (h1 : k < ks.length) (h2 : k < H.length), (ks[k]'h1).seq = 0 ∧ (ks[k]'h1).label = ((H[k]'h2).label : Int) ∧ (ks[k]'h1).c.enc = some (H[k]'h2).bytes ∧ (ks[k]'h1).c.In w
theorem KeptIs.nil (w : World) : KeptIs w [] [] := ⟨rfl, fun k h1 => absurd h1 (by simp)⟩
theorem KeptIs.snoc {w : World} {H : List He} {ks : List Rc} (h : KeptIs w H ks) {x : He} {c : Cm} (hc : c.In w) (he : c.enc = some x.bytes) : KeptIs w (H ++ [x]) (ks ++ [⟨0, x.label, c⟩]) := by
  refine ⟨by simp [h.len], fun k h1 h2 => ?_⟩
  have hl := h.len
  by_cases hk : k < ks.length
  · rw [List.getElem_append_left hk, List.getElem_append_left (by omega)]
    exact h.each k hk (by omega)
  · have e : k = ks.length := by simp at h1; omega
    subst e
    rw [List.getElem_append_right (by omega), List.getElem_append_right (by omega)]
    simp only [hl, Nat.sub_self, List.getElem_cons_zero]
    exact ⟨trivial, trivial, he, hc⟩
theorem KeptIs.below {w w' : World} {H : List He} {ks : List Rc} (h : KeptIs w H ks) (hb : Below w.heap.size w w') : KeptIs w' H ks :=
  ⟨h.len, fun k h1 h2 => ⟨(h.each k h1 h2).1, (h.each k h1 h2).2.1, (h.each k h1 h2).2.2.1, (h.each k h1 h2).2.2.2.below hb⟩⟩
theorem kept_same {w : World} {H : List He} {ks us : List Rc} (h : KeptIs w H ks) (hm : us.map Rc.erase = H.map He.rc) (k : Nat) (h1 : k < us.length) (h2 : k < ks.length) :
    (us[k]'h1).label = (ks[k]'h2).label ∧ cmSame (us[k]'h1).c (ks[k]'h2).c = true := by
  have hl := h.len
  have h3 : k < H.length := by omega
  obtain ⟨_, e2, e3, e4⟩ := h.each k h2 h3
  have e : (us[k]'h1).erase = (H[k]'h3).rc := by
    have := congrArg (fun l => l[k]?) hm
    simpa [h1, h3] using this
  refine ⟨?_, cm_one (u := readC (H[k]'h3).pay) ?_ (readC_like e4 e3)⟩
  · rw [e2]
    have := congrArg Rc.label e
    exact this
  · have := congrArg Rc.c e
    exact this
theorem seqs_rise {H : List He} {us : List Rc} (hu : H.Pairwise fun a b => a.seq < b.seq) (hm : us.map Rc.erase = H.map He.rc) (k : Nat) (h1 : k + 1 < us.length) : (us[k]'(by omega)).seq < (us[k + 1]'h1).seq := by
  have hl : us.length = H.length := by simpa using congrArg List.length hm
  have e : ∀ i (hi : i < us.length), (us[i]'hi).seq = ((H[i]'(by omega)).seq : Int) := fun i hi => by
    have := congrArg (fun l => l[i]?) hm
    have e : (us[i]'hi).erase = (H[i]'(by omega)).rc := by simpa [hi, show i < H.length by omega] using this
    exact congrArg Rc.seq e
  rw [e, e]
  have := List.pairwise_iff_getElem.1 hu k (k + 1) (by omega) (by omega) (by omega)
  omega
theorem seg_label {s : Jt} {H : List He} {r : Nat → ByteArray} {label : Int} (hG : Good s H r) (h : isSeg s.n label = true) : ((label.toNat : Nat) : Int) = label := by
  obtain ⟨k, rfl, _⟩ := hG.dk.at_ h
  simp
theorem nextOf_bound {H : List He} {m : Nat} (h : ∀ x, x ∈ H → x.seq < m) (hm : 1 ≤ m) : nextOf H ≤ m := by
  unfold nextOf
  cases hl : H.getLast? with
  | none => exact hm
  | some x => exact h x (List.mem_of_getLast? hl)
theorem keep_write {w : World} {s : Jt} {H : List He} {r : Nat → ByteArray} {ks : List Rc} {label : Int} {c : Cm} {i : Nat} (hG : Good s H r) (hst : s.torn = false) (he : jE s label c.enc = 0) (hk : KeptIs w H ks) (hc : c.In w)
    (hnx : s.next ≤ i + 1) (hHl : H.length ≤ i) : ∃ H', Good (jWrite s label c.enc) H' r ∧ (jWrite s label c.enc).n = s.n ∧ (jWrite s label c.enc).torn = false ∧ (jWrite s label c.enc).next ≤ i + 1 + 1 ∧ H'.length ≤ i + 1 ∧ KeptIs w H' (ks ++ [⟨0, label, c⟩]) := by
  obtain ⟨_, hseg, l, henc, _⟩ := jE_zero he
  have hg := good_write hG he
  have hlb := seg_label hG hseg
  refine ⟨_, hg, ?_, ?_, ?_, ?_, ?_⟩
  · unfold jWrite; rw [if_pos he]
  · unfold jWrite; rw [if_pos he]; exact hst
  · unfold jWrite; rw [if_pos he]; show s.next + 1 ≤ _; omega
  · simp; exact hHl
  · have := hk.snoc (x := ⟨s.next, label.toNat, c.enc.getD []⟩) hc (by rw [henc]; rfl)
    rw [show (((⟨s.next, label.toNat, c.enc.getD []⟩ : He).label : Nat) : Int) = label from hlb] at this
    exact this
theorem keep_crash {w : World} {s : Jt} {H : List He} {r : Nat → ByteArray} {ks : List Rc} {label keep : Int} {c : Cm} {i : Nat} (hG : Good s H r) (hst : s.torn = false) (he : jE s label c.enc = 0) (hk : KeptIs w H ks) (hc : c.In w)
    (hnx : s.next ≤ i + 1) (hHl : H.length ≤ i) : ∃ H' r', Good (jCrash s label c.enc keep) H' r' ∧ (jCrash s label c.enc keep).n = s.n ∧ (∀ h, h ∈ H' → h.seq < i + 1 + 1) ∧ nextOf H' ≤ i + 1 + 1 ∧ H'.length ≤ i + 1 ∧
      ((H'.length = ks.length + 1 ∧ KeptIs w H' (ks ++ [⟨0, label, c⟩])) ∨ (H'.length = ks.length ∧ KeptIs w H' ks)) := by
  obtain ⟨_, hseg, l, henc, _⟩ := jE_zero he
  obtain ⟨r', hg⟩ := good_crash (keep := keep) hG he
  have hlb := seg_label hG hseg
  obtain ⟨H', hH'⟩ : ∃ H', H' = if (jF s c.enc).size ≤ keep.toNat then H ++ [⟨s.next, label.toNat, c.enc.getD []⟩] else H := ⟨_, rfl⟩
  rw [← hH'] at hg
  have hnxt : (jCrash s label c.enc keep).next = s.next := by unfold jCrash; rw [if_pos he]
  have hb : ∀ h, h ∈ H' → h.seq < i + 1 + 1 := fun h hh => by
    have := hg.below h hh
    rw [hnxt] at this
    split at this <;> omega
  refine ⟨H', r', hg, ?_, hb, nextOf_bound hb (by omega), ?_, ?_⟩
  · unfold jCrash; rw [if_pos he]
  · rw [hH']
    split
    · simp; exact hHl
    · omega
  · rw [hH']
    split
    · left
      refine ⟨by simp [hk.len], ?_⟩
      have := hk.snoc (x := ⟨s.next, label.toNat, c.enc.getD []⟩) hc (by rw [henc]; rfl)
      rw [show (((⟨s.next, label.toNat, c.enc.getD []⟩ : He).label : Nat) : Int) = label from hlb] at this
      exact this
    · right
      exact ⟨hk.len.symm, hk⟩
end Go.Proofs.YtaamihdibpioaaaGreat.Jr
