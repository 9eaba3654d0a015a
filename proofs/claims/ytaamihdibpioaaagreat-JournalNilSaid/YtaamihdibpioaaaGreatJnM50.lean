/- journal: Recover. -/
import Derived.Test.YtaamihdibpioaaaGreatJnM48
import Derived.Test.YtaamihdibpioaaaGreatJnM49
namespace Go.Proofs.YtaamihdibpioaaaGreat.Jr
set_option linter.unusedVariables false
open Go.RowKit Go.Proofs.YtaamihdibpioaaaGreat.Crc Go.Proofs.YtaamihdibpioaaaGreat.Pk

def RecovOut (s : Jt) (H : List He) (j d : Nat) (w : World) (e : Ending) (w' : World) : Prop :=
  ∃ (B : Nat) (v : Value) (us : List Rc), w.heap.size ≤ B ∧ B ≤ w'.heap.size ∧ e = .returned v ∧ Keeps2 w w' j d ∧ JAt w' j d (jRecover s H) ∧ Rowed recE (fun _ => False) B 44 w' us v ∧ us.map Rc.erase = H.map He.rc
theorem readR_row {n : Nat} {rows : List ByteArray} {i : Nat} (hi : i < n) : readR n rows (i : Int) = rowOf rows (i : Int) := by
  unfold readR isSeg
  rw [decide_eq_true (by omega)]
  rfl
theorem seg_big {n : Nat} {rows : List ByteArray} {H : List He} {r : Nat → ByteArray} (hh : Hist n rows H r) (i : Nat) : ∀ p, p ∈ segOf H i → 4 ≤ p.size ∧ p.size ≤ 2000 := fun p hp => by
  obtain ⟨x, hx, rfl⟩ := List.mem_map.1 hp
  have := (hh.ok x (List.mem_filter.1 hx).1).1
  unfold He.pay
  rw [payB_size]
  omega
theorem last_seq {us : List Rc} {H : List He} (h : us.map Rc.erase = H.map He.rc) {k : Nat} (hk : us.length = k + 1) : ∃ (hu : k < us.length), (us[k]'hu).seq + 1 = (nextOf H : Int) := by
  have hl : H.length = k + 1 := by
    have := congrArg List.length h
    rw [List.length_map, List.length_map] at this
    omega
  refine ⟨by omega, ?_⟩
  have h1 : (us.map Rc.erase)[k]? = (H.map He.rc)[k]? := by rw [h]
  rw [List.getElem?_map, List.getElem?_map, List.getElem?_eq_getElem (by omega : k < us.length), List.getElem?_eq_getElem (by omega : k < H.length)] at h1
  have h2 : (us[k]'(by omega)).erase = (H[k]'(by omega)).rc := by simpa using h1
  have h3 := congrArg Rc.seq h2
  have h4 : (us[k]'(by omega)).seq = ((H[k]'(by omega)).seq : Int) := h3
  have h5 : H.getLast? = some (H[k]'(by omega)) := by
    rw [List.getLast?_eq_getElem?, show H.length - 1 = k by omega]
    exact List.getElem?_eq_getElem (by omega)
  unfold nextOf
  rw [h5, h4]
  simp
theorem nextOf_le {H : List He} (hs : ∀ h, h ∈ H → h.seq < 4294967296) : nextOf H ≤ 4294967296 := by
  unfold nextOf
  cases h : H.getLast? with
  | none => simp
  | some x =>
    have := hs x (List.mem_of_getLast? h)
    simp only
    omega
theorem row_at {E : Elem Rc} {w : World} {base : Nat} {v : Value} {us : List Rc} (h : w.ownsRow base 44 19 v us.length (recE.row us)) {k : Nat} (hk : k < us.length) :
    ∃ g c, v = .slice (some ⟨g, 0, none⟩) us.length c ∧ us.length ≤ c ∧ base ≤ g ∧ g < w.heap.size ∧ w.cell? ⟨g, k * 19, none⟩ = some (.int .i64 (us[k]'hk).seq) := by
  have hh := h
  rcases h.2 with ⟨rfl, h0⟩ | ⟨g, cap, cur, rfl, hb, hg, hc, _⟩
  · omega
  · refine ⟨g, cap, rfl, hc, hb, Blk.lt hg, ?_⟩
    have hrow : (recE.row us)[k * 19]? = some (.int .i64 (us[k]'hk).seq) := by
      have : ∀ (us : List Rc) (k : Nat) (hk : k < us.length), (recE.row us)[k * 19]? = some (.int .i64 (us[k]'hk).seq) := by
        intro us
        induction us with
        | nil => intro k hk; simp at hk
        | cons u us ih =>
          intro k hk
          cases k with
          | zero => rfl
          | succ k =>
            show (u.cells ++ recE.row us)[(k + 1) * 19]? = _
            rw [List.getElem?_append_right (by rw [Rc.cells_len]; omega), Rc.cells_len, show (k + 1) * 19 - 19 = k * 19 by omega]
            exact ih k (by simpa using hk)
      exact this us k hk
    have := hh.cells (g := g) rfl (k * 19) _ hrow
    rw [Addr.add_lit, Nat.zero_add] at this
    exact this
set_option maxHeartbeats 4000000 in
set_option maxRecDepth 100000 in
theorem recover_any (hsort : SortSpec) (j d : Nat) (s : Jt) (H : List He) (r : Nat → ByteArray) (w : World) (h : JAt w j d s) (hh : Hist s.n s.rows H r) (hs : ∀ h, h ∈ H → h.seq < 4294967296) (hH : H.length ≤ 10000) :
    Calls Tryz.prog 12 #[.pointer (some ⟨j, 0, none⟩)] w fun e w' => RecovOut s H j d w e w' := by
  have c1 := h.jb.cell 1
  simp at c1
  have hn8 := h.dk.n8
  have hcut := fun i (hi : i ≤ s.n) => hist_cut h.dk hh i hi
  have hrd := fun (i : Nat) (hi : i < s.n) (W : World) (hj : JAt W j d ⟨s.n, cutAll s.n s.rows i, s.next, s.torn⟩) => jread_any j d ⟨s.n, cutAll s.n s.rows i, s.next, s.torn⟩ (i : Int) ((cat (segOf H i)).size : Int) (segOf H i) W hj ⟨by omega, by omega⟩ (by
    show allOf (readR s.n (cutAll s.n s.rows i) (i : Int)) = _
    rw [readR_row hi]
    exact (hcut i (by omega)).all hi) (seg_big hh i)
  have hct := fun (i : Nat) (hi : i < s.n) (W : World) (hj : JAt W j d ⟨s.n, cutAll s.n s.rows i, s.next, s.torn⟩) => cut_any d s.n (cutAll s.n s.rows i) (i : Int) ((cat (segOf H i)).size : Int) W hj.db hj.dk
  have hnx := fun (i : Nat) (hi : i < s.n) => show cutR s.n (cutAll s.n s.rows i) (i : Int) ((cat (segOf H i)).size : Int) = cutAll s.n s.rows (i + 1) from by
    show _ = cutR s.n (cutAll s.n s.rows i) (i : Int) (allOf (rowOf (cutAll s.n s.rows i) (i : Int))).2
    rw [(hcut i (by omega)).all hi]
  have hrc := fun (W : World) (hj : JAt W j d ⟨s.n, cutAll s.n s.rows s.n, s.next, s.torn⟩) => records_any hsort j d ⟨s.n, cutAll s.n s.rows s.n, s.next, s.torn⟩ H _ W hj (hcut s.n (Nat.le_refl _)) hs hH
  have hck := fun i => cutAll_dk h.dk i
  have h0 : JAt w j d ⟨s.n, cutAll s.n s.rows 0, s.next, s.torn⟩ := h
  have HNL := Lib.hid (nextOf_le hs)
  obtain ⟨n, hn⟩ : ∃ n, n = s.n := ⟨_, rfl⟩
  rw [← hn] at c1 hn8
  have hjl := h.jb.lt
  have hdl := h.db.lt
  have hjd := h.ne
  have HRD := Lib.hid hrd; have HCT := Lib.hid hct; have HNX := Lib.hid hnx; have HRC := Lib.hid hrc; have HCK := Lib.hid hck; have H0 := Lib.hid h0; have HN := Lib.hid hn; have HHL := Lib.hid hH
  clear hrd hct hnx hrc hck h0 hn hcut hsort h hh hs hH
  go_enter Tryz.func12, Tryz.ntmps12
  go_wp2_with fail
  go_loopw [13] (fun iv wr => ∃ (i : Nat), i ≤ n ∧ iv = .int .i64 (i : Int) ∧ Hid (JAt wr j d ⟨s.n, cutAll s.n s.rows i, s.next, s.torn⟩) ∧ Hid (Keeps2 w wr j d)) (fun iv _ => n - (intOf iv).toNat)
  case atStart => exact ⟨0, by omega, rfl, H0, Lib.hid (Keeps2.refl _ _ _)⟩
  case round =>
    obtain ⟨i, hi, rfl, HJ, HK⟩ := hrel
    by_cases hlt : i < n
    · have hk1 : (i : Int) < (n : Int) := by omega
      have his : i < s.n := by rw [← HN.out]; exact hlt
      have HR1 := Lib.hid (HRD.out i his wr HJ.out)
      go_wp2_with fail
      refine HR1.out.mono ?_
      rintro e w1 ⟨B1, v1, us1, hB1, rfl, hb1, hr1, hm1⟩
      obtain ⟨ax1, cx1, rfl⟩ := hr1.form
      have hj1 := HJ.out.below hb1
      have HC1 := Lib.hid (HCT.out i his w1 hj1)
      have HJ1 := Lib.hid hj1; have HK1 := Lib.hid (HK.out.trans (Keeps2.of_below hb1 j d))
      have c0 := hj1.jb.cell 0
      simp at c0
      clear hb1 hr1 hm1 hj1 HR1 hB1
      go_wp2_with fail
      refine HC1.out.mono ?_
      rintro e w2 ⟨rfl, ho2, hd2⟩
      have HK2 := Lib.hid (HK1.out.trans (Keeps2.of_only2 ho2))
      have hj2 : JAt w2 j d ⟨s.n, cutAll s.n s.rows (i + 1), s.next, s.torn⟩ := ⟨HJ1.out.jb.grown ho2 (by simp; exact hjd), by rw [HNX.out i his] at hd2; exact hd2, HCK.out (i + 1)⟩
      have HJ2 := Lib.hid hj2
      clear hj2 ho2 hd2 HC1 c0
      go_wp2
      go_roundw
      case rel => exact ⟨i + 1, by omega, rfl, HJ2, HK2⟩
      case measure => simp [intOf]; omega
    · obtain rfl : i = n := by omega
      have hk1 : ¬ ((i : Int) < (i : Int)) := by omega
      have hjn : JAt wr j d ⟨s.n, cutAll s.n s.rows s.n, s.next, s.torn⟩ := by
        have := HJ.out
        rw [HN.out] at this
        exact this
      have HRR := Lib.hid (HRC.out wr hjn)
      have HJN := Lib.hid hjn
      clear hjn
      go_wp2_with fail
      refine HRR.out.mono ?_
      rintro e w1 ⟨B, v, us, hB, hB2, rfl, hb1, hr1, hm1⟩
      obtain ⟨ax, cx, rfl⟩ := hr1.form
      have hj1 := HJN.out.below hb1
      have hK1 := HK.out.trans (Keeps2.of_below hb1 j d)
      have hul : us.length ≤ 10000 := by
        have := congrArg List.length hm1
        rw [List.length_map, List.length_map] at this
        have := HHL.out
        omega
      have hzr := HK.out.size
      have hjB : j < B := by omega
      have j2 := hj1.jb.cell 2; have g2 := hj1.jb.frozen 2; have j3 := hj1.jb.cell 3; have g3 := hj1.jb.frozen 3
      simp at j2 j3
      obtain ⟨W2, hW2⟩ : ∃ W2, W2 = (w1.setCell ⟨j, 3, none⟩ (.bool false)).setCell ⟨j, 2, none⟩ (.int .i64 1) := ⟨_, rfl⟩
      have hjb2 : Blk W2 j 68 #[.pointer (some ⟨d, 0, none⟩), .int .i64 s.n, .int .i64 1, .bool false] := by rw [hW2]; exact (hj1.jb.set_ 3 (.bool false)).set_ 2 (.int .i64 1)
      have hdb2 : Blk W2 d 92 (diskCells s.n (cutAll s.n s.rows s.n)) := by rw [hW2]; exact (hj1.db.far (p := ⟨j, 3, none⟩) (Ne.symm hjd) _).far (p := ⟨j, 2, none⟩) (Ne.symm hjd) _
      have hK2 : Keeps2 w W2 j d := by rw [hW2]; exact hK1.trans (Keeps2.of_only1 (((Only.refl _ _).set_ (p := ⟨j, 3, none⟩) (.inl rfl) _).set_ (p := ⟨j, 2, none⟩) (.inl rfl) _))
      have hr2 : Rowed recE (fun _ => False) B 44 W2 us (.slice ax us.length cx) := by
        rw [hW2]
        exact (hr1.set_ (p := ⟨j, 3, none⟩) (fun b hb => hb.elim) hjB _).set_ (p := ⟨j, 2, none⟩) (fun b hb => hb.elim) hjB _
      have hz2 : W2.heap.size = w1.heap.size := by rw [hW2]; simp [World.setCell]
      have hdk := hj1.dk
      have HW2 := Lib.hid hW2; have HJB := Lib.hid hjb2; have HDB := Lib.hid hdb2; have HK2 := Lib.hid hK2; have HR2 := Lib.hid hr2; have HM := Lib.hid hm1; have HDK := Lib.hid hdk; have HBw : Hid (w.heap.size ≤ B ∧ B ≤ W2.heap.size) := Lib.hid ⟨by omega, by omega⟩
      clear hW2 hjb2 hdb2 hK2 hr2 hm1 hdk hb1 hr1 hj1 hK1 hB hB2 HRR hz2
      go_upto_region 11 with fail
      rw [← HW2.out]
      clear j2 g2 j3 g3
      obtain ⟨m, hm⟩ : ∃ m, m = us.length := ⟨_, rfl⟩
      by_cases h0 : us.length = 0
      · have hnx : nextOf H = 1 := by
          have := congrArg List.length HM.out
          rw [List.length_map, List.length_map, h0] at this
          rw [List.eq_nil_of_length_eq_zero this.symm]
          rfl
        have HJF : Hid (JAt W2 j d (jRecover s H)) := Lib.hid (by
          refine ⟨?_, HDB.out, HDK.out⟩
          show Blk W2 j 68 #[_, _, .int .i64 ((nextOf H : Nat) : Int), _]
          rw [hnx]
          exact HJB.out)
        have hr := HR2.out
        rw [h0] at hr ⊢
        have HR3 := Lib.hid hr
        clear hm hnx hr
        go_wp2
        go_ret
        exact ⟨B, _, us, HBw.out.1, HBw.out.2, rfl, HK2.out, HJF.out, HR3.out, HM.out⟩
      · obtain ⟨k, hk⟩ : ∃ k, us.length = k + 1 := ⟨us.length - 1, by omega⟩
        obtain ⟨hku, hseq⟩ := last_seq HM.out hk
        obtain ⟨g, c, hv, hcap, hgB, hgl, hcell⟩ := row_at (E := recE) HR2.out.items hku
        injection hv with hv1 hv2 hv3
        subst hv1 hv3
        obtain ⟨q, hq⟩ : ∃ q, q = (us[k]'hku).seq := ⟨_, rfl⟩
        rw [← hq] at hseq hcell
        have hr := HR2.out
        rw [hk] at hr hcap ⊢
        have HR3 := Lib.hid hr
        have j2 := HJB.out.cell 2; have g2 := HJB.out.frozen 2
        simp at j2
        have hnl := HNL.out
        have hq1 : -9223372036854775808 ≤ q + 1 := by omega
        have hq2 : q + 1 ≤ 9223372036854775807 := by omega
        have hw1 : IntKind.i64.wrap (q + 1) = q + 1 := IntWalk.i64_in _ ⟨hq1, hq2⟩
        have hkl : k ≤ 9999 := by omega
        have hk0 : (0 : Int) < ((k : Int) + 1) := by omega
        have hjW : j < W2.heap.size := HJB.out.lt
        have HJF : Hid (JAt (W2.setCell ⟨j, 2, none⟩ (.int .i64 (q + 1))) j d (jRecover s H) ∧ Keeps2 w (W2.setCell ⟨j, 2, none⟩ (.int .i64 (q + 1))) j d ∧ Rowed recE (fun _ => False) B 44 (W2.setCell ⟨j, 2, none⟩ (.int .i64 (q + 1))) us (.slice (some ⟨g, 0, none⟩) (k + 1) cx)) := Lib.hid (by
          refine ⟨⟨?_, HDB.out.far (p := ⟨j, 2, none⟩) (Ne.symm hjd) _, HDK.out⟩, HK2.out.trans (Keeps2.of_only1 ((Only.refl _ _).set_ (p := ⟨j, 2, none⟩) (.inl rfl) _)), HR3.out.set_ (p := ⟨j, 2, none⟩) (fun b hb => hb.elim) hjB _⟩
          show Blk _ j 68 #[_, _, .int .i64 ((nextOf H : Nat) : Int), _]
          rw [← hseq]
          exact HJB.out.set_ 2 _)
        have HBz : Hid (B ≤ (W2.setCell ⟨j, 2, none⟩ (.int .i64 (q + 1))).heap.size) := Lib.hid (by simp [World.setCell]; exact HBw.out.2)
        clear hm hk hku hseq hq hr h0 hul HRD HCT HNX HRC HCK hnl HNL
        go_wp2
        go_ret
        exact ⟨B, _, us, HBw.out.1, HBz.out, rfl, HJF.out.2.1, HJF.out.1, HJF.out.2.2, HM.out⟩
set_option maxHeartbeats 1000000 in
theorem recover_nil (w : World) : Calls Tryz.prog 12 #[.pointer none] w fun e w' => e = .returned (.slice none 0 0) ∧ w = w' := by
  go_enter Tryz.func12, Tryz.ntmps12
  go_wp2
  go_ret
  exact ⟨rfl, rfl⟩
end Go.Proofs.YtaamihdibpioaaaGreat.Jr

/- The statements of layer 18: the tick; what is awake, in plain terms. -/
namespace Go.Proofs.YtaamihdibpioaaaGreat.Jr
set_option linter.unusedVariables false
open Go.RowKit Go.Proofs.YtaamihdibpioaaaGreat.Crc Go.Proofs.YtaamihdibpioaaaGreat.Pk

/-- The command that is a tick. -/
def tickC : Cm := ⟨4, 0, 0, 0, 0, Val.zero, Val.zero⟩
theorem tick_in (w : World) : tickC.In w := ⟨fun x hx => by
  simp only [tickC, Cm.ints, List.mem_cons, List.not_mem_nil, or_false] at hx
  rcases hx with rfl | rfl | rfl | rfl | rfl <;> exact ⟨by omega, by omega⟩, zero_in _, zero_in _⟩
theorem tick_enc : tickC.enc = some [4, 0, 0, 0, 0, 0, 0] := by
  have h1 : ub (Int.toNat 4) = [4] := by rw [ub_small (by decide)]; rfl
  have h2 : ub (Int.toNat 0) = [0] := by rw [ub_small (by decide)]; rfl
  have hs : someB Val.zero = some [0] := by
    unfold someB
    rw [if_pos (show Val.zero.k = 0 from rfl), show Val.zero.noneB = true from by decide +kernel]
    rfl
  have hn : numsB tickC.ints = [4, 0, 0, 0, 0] := by
    simp only [numsB, tickC, Cm.ints, List.flatMap_cons, List.flatMap_nil, h1, h2]
    rfl
  unfold Cm.enc
  have hA : tickC.ints.all numOk = true := by decide
  rw [hA]
  simp only [cond_true]
  show (match someB Val.zero with | none => none | some a => match someB Val.zero with | none => none | some b => some (numsB tickC.ints ++ a ++ b)) = _
  rw [hs, hn]
  rfl
set_option maxHeartbeats 1000000 in
theorem tick_any (w : World) : Calls Tryz.prog 21 #[] w fun e w' => e = .returned tickC.agg ∧ Below w.heap.size w w' := by
  have hsf := run_store_flt
  have hag : tickC.agg = .agg #[.int .i64 4, .int .i64 0, .int .i64 0, .int .i64 0, .int .i64 0, .int .i64 0, .int .i64 0, .float .f64 0, .string ByteArray.empty, .slice none 0 0, .slice none 0 0, .int .i64 0, .int .i64 0, .float .f64 0, .string ByteArray.empty, .slice none 0 0, .slice none 0 0] := rfl
  rw [hag]
  obtain ⟨W, hW⟩ : ∃ W, W = w.alloc (.cells #[.int .i64 4, .int .i64 0, .int .i64 0, .int .i64 0, .int .i64 0, .int .i64 0, .int .i64 0, .float .f64 0, .string ⟨#[]⟩, .slice none 0 0, .slice none 0 0, .int .i64 0, .int .i64 0, .float .f64 0, .string ⟨#[]⟩, .slice none 0 0, .slice none 0 0] 39) := ⟨_, rfl⟩
  have hb : Below w.heap.size w W := by rw [hW]; exact (Below.refl _ _).alloc (Nat.le_refl _) _
  have hblk : Blk W w.heap.size 39 #[.int .i64 4, .int .i64 0, .int .i64 0, .int .i64 0, .int .i64 0, .int .i64 0, .int .i64 0, .float .f64 0, .string ⟨#[]⟩, .slice none 0 0, .slice none 0 0, .int .i64 0, .int .i64 0, .float .f64 0, .string ⟨#[]⟩, .slice none 0 0, .slice none 0 0] := by rw [hW]; exact Blk.new _ _ _
  have HB := Lib.hid hb; have HK := Lib.hid hblk; have HW := Lib.hid hW
  clear hb hblk hW hag
  go_enter Tryz.func21, Tryz.ntmps21
  go_wp2
  rw [← HW.out]
  have e0 := HK.out.cell 0; have e1 := HK.out.cell 1; have e2 := HK.out.cell 2; have e3 := HK.out.cell 3; have e4 := HK.out.cell 4; have e5 := HK.out.cell 5; have e6 := HK.out.cell 6; have e7 := HK.out.cell 7; have e8 := HK.out.cell 8; have e9 := HK.out.cell 9; have e10 := HK.out.cell 10; have e11 := HK.out.cell 11; have e12 := HK.out.cell 12; have e13 := HK.out.cell 13; have e14 := HK.out.cell 14; have e15 := HK.out.cell 15; have e16 := HK.out.cell 16
  simp only [List.getElem?_toArray, List.getElem?_cons_zero, List.getElem?_cons_succ] at e0 e1 e2 e3 e4 e5 e6 e7 e8 e9 e10 e11 e12 e13 e14 e15 e16
  refine bodyPost_ret (v := .agg #[.int .i64 4, .int .i64 0, .int .i64 0, .int .i64 0, .int .i64 0, .int .i64 0, .int .i64 0, .float .f64 0, .string ⟨#[]⟩, .slice none 0 0, .slice none 0 0, .int .i64 0, .int .i64 0, .float .f64 0, .string ⟨#[]⟩, .slice none 0 0, .slice none 0 0]) (by simp [results, Tryz.results21, go_sem, e0, e1, e2, e3, e4, e5, e6, e7, e8, e9, e10, e11, e12, e13, e14, e15, e16]) rfl ?_
  exact ⟨rfl, HB.out⟩

end Go.Proofs.YtaamihdibpioaaaGreat.Jr

/- The statements of layer 18: what is awake, in plain terms. No program in sight. -/
namespace Go.Proofs.YtaamihdibpioaaaGreat.Jr
set_option linter.unusedVariables false
open Go.RowKit Go.Proofs.YtaamihdibpioaaaGreat.Crc Go.Proofs.YtaamihdibpioaaaGreat.Pk

theorem cat_le {L : Nat} : ∀ ps : List ByteArray, (∀ p, p ∈ ps → p.size ≤ 2000 ∧ p.size ≤ L) → (cat ps).size ≤ ps.length * (L + 6)
  | [], _ => by simp [cat]
  | p :: ps, h => by
    have ih := cat_le ps (fun q hq => h q (by simp [hq]))
    have h1 := h p (by simp)
    have h2 := frame_lenAt h1.1
    show (frameOf p ++ cat ps).size ≤ _
    rw [ByteArray.size_append, h2, List.length_cons, Nat.succ_mul]
    omega
/-- A write that is not refused. -/
theorem jE_ok {s : Jt} {H : List He} {r : Nat → ByteArray} {label : Int} {l : List UInt8} {L : Nat} (h : Good s H r) (ht : s.torn = false) (hs : isSeg s.n label = true) (hl : l.length + 4 ≤ 2000) (hH : ∀ x, x ∈ H → x.bytes.length ≤ L) (hz : H.length * (L + 10) + (l.length + 10) ≤ 4000) : jE s label (some l) = 0 := by
  have hg := h.dk.at_ hs
  obtain ⟨k, rfl, hk, _, _, _⟩ := hg
  unfold jE
  rw [ht, hs]
  simp only [cond_false, cond_true]
  rw [if_neg (by omega)]
  unfold tearE
  rw [hs]
  have hrow := h.hist.rows k hk
  rw [h.clean ht k hk] at hrow
  have hc : (cat (segOf H k)).size ≤ (segOf H k).length * (L + 4 + 6) := cat_le _ (fun p hp => by
    obtain ⟨x, hx, rfl⟩ := List.mem_map.1 hp
    have h1 := (List.mem_filter.1 hx).1
    have h2 := (h.hist.ok x h1).1
    have h3 := hH x h1
    unfold He.pay
    rw [payB_size]
    omega)
  have hlen : (segOf H k).length ≤ H.length := by
    unfold segOf segL
    rw [List.length_map]
    exact List.length_filter_le _ _
  have hm : (segOf H k).length * (L + 4 + 6) ≤ H.length * (L + 10) := Nat.mul_le_mul hlen (by omega)
  have hf : fits s.rows (k : Int) (frameOf (payB s.next l)) = true := by
    unfold fits
    rw [hrow]
    have hfl := frame_lenAt (p := payB s.next l) (by rw [payB_size]; omega)
    rw [payB_size] at hfl
    simp only [ByteArray.size_append, ByteArray.size_empty, decide_eq_true_eq]
    omega
  rw [hf]
  rfl

def tickB : List UInt8 := [4, 0, 0, 0, 0, 0, 0]
def tickE : Option (List UInt8) := some tickB
def hs1 : List He := [⟨1, 1, tickB⟩]
def hs2 : List He := [⟨1, 1, tickB⟩, ⟨2, 0, tickB⟩]
def hs3 : List He := [⟨1, 1, tickB⟩, ⟨2, 0, tickB⟩, ⟨3, 0, tickB⟩]
theorem ticks_len : ∀ x, x ∈ hs3 → x.bytes.length ≤ 7 := by
  intro x hx
  simp only [hs3, List.mem_cons, List.not_mem_nil, or_false] at hx
  rcases hx with rfl | rfl | rfl <;> decide
theorem tick_frame (s : Jt) : (jF s tickE).size = 17 := by
  unfold jF tickE
  show (frameOf (payB s.next tickB)).size = 17
  rw [frame_lenAt (by rw [payB_size]; decide), payB_size]
  rfl
structure AwakeP (S1 S2 S3 S4 S5 : Jt) : Prop where
  e0 : jE (jNew 2) 1 tickE = 0
  s1 : jWrite (jNew 2) 1 tickE = S1
  n1 : S1.next < 1000000000
  e1 : jE S1 0 tickE = 0
  s2 : jWrite S1 0 tickE = S2
  n2 : S2.next < 1000000000
  g2 : ∃ r, Good S2 hs2 r
  e2 : jE S2 0 tickE = 0
  s3 : jCrash S2 0 tickE 3 = S3
  n3 : S3.next < 1000000000
  g3 : ∃ r, Good S3 hs2 r
  e3 : jE S3 0 tickE = 14
  s3' : jWrite S3 0 tickE = S3
  s4 : jRecover S3 hs2 = S4
  n4 : S4.next < 1000000000
  e4 : jE S4 0 tickE = 0
  s5 : jCrash S4 0 tickE 99 = S5
  g5 : ∃ r, Good S5 hs3 r
theorem awake_plain : ∃ S1 S2 S3 S4 S5, AwakeP S1 S2 S3 S4 S5 := by
  have g0 := good_new (n := 2) (by decide) (by decide)
  have hseg : ∀ i : Int, (i = 0 ∨ i = 1) → isSeg 2 i = true := fun i hi => by
    unfold isSeg
    rcases hi with rfl | rfl <;> decide
  have e0 : jE (jNew 2) 1 tickE = 0 := jE_ok (L := 7) g0 rfl (hseg 1 (.inr rfl)) (by decide) (fun x hx => by simp at hx) (by decide)
  obtain ⟨S1, h1⟩ : ∃ S1, S1 = jWrite (jNew 2) 1 tickE := ⟨_, rfl⟩
  have g1 : Good S1 hs1 (fun _ => ByteArray.empty) := by rw [h1]; exact good_write g0 e0
  have f1 : S1.n = 2 ∧ S1.next = 2 ∧ S1.torn = false := by rw [h1]; unfold jWrite; rw [if_pos e0]; exact ⟨rfl, rfl, rfl⟩
  have e1 : jE S1 0 tickE = 0 := jE_ok (L := 7) g1 f1.2.2 (by rw [f1.1]; exact hseg 0 (.inl rfl)) (by decide) (fun x hx => ticks_len x (by simp only [hs1, hs3, List.mem_cons, List.not_mem_nil, or_false] at hx ⊢; exact .inl hx)) (by decide)
  obtain ⟨S2, h2⟩ : ∃ S2, S2 = jWrite S1 0 tickE := ⟨_, rfl⟩
  have g2 : Good S2 hs2 (fun _ => ByteArray.empty) := by
    have := good_write g1 e1
    rw [h2]
    rw [f1.2.1] at this
    exact this
  have f2 : S2.n = 2 ∧ S2.next = 3 ∧ S2.torn = false := by rw [h2]; unfold jWrite; rw [if_pos e1]; exact ⟨f1.1, by show S1.next + 1 = 3; rw [f1.2.1], f1.2.2⟩
  have hin2 : ∀ x, x ∈ hs2 → x.bytes.length ≤ 7 := fun x hx => ticks_len x (by
    simp only [hs2, hs3, List.mem_cons, List.not_mem_nil, or_false] at hx ⊢
    rcases hx with h | h
    · exact .inl h
    · exact .inr (.inl h))
  have e2 : jE S2 0 tickE = 0 := jE_ok (L := 7) g2 f2.2.2 (by rw [f2.1]; exact hseg 0 (.inl rfl)) (by decide) hin2 (by decide)
  obtain ⟨S3, h3⟩ : ∃ S3, S3 = jCrash S2 0 tickE 3 := ⟨_, rfl⟩
  have g3 : ∃ r, Good S3 hs2 r := by
    obtain ⟨r', hr⟩ := good_crash (keep := 3) g2 e2
    rw [tick_frame, if_neg (by decide)] at hr
    rw [h3]
    exact ⟨r', hr⟩
  have f3 : S3.n = 2 ∧ S3.next = 3 ∧ S3.torn = true := by rw [h3]; unfold jCrash; rw [if_pos e2]; exact ⟨f2.1, f2.2.1, rfl⟩
  have e3 : jE S3 0 tickE = 14 := by unfold jE; rw [f3.2.2]; rfl
  have s3' : jWrite S3 0 tickE = S3 := by unfold jWrite; rw [if_neg (by rw [e3]; decide)]
  obtain ⟨S4, h4⟩ : ∃ S4, S4 = jRecover S3 hs2 := ⟨_, rfl⟩
  obtain ⟨r3, gr3⟩ := g3
  have g4 : Good S4 hs2 (fun _ => ByteArray.empty) := by rw [h4]; exact good_recover gr3
  have f4 : S4.n = 2 ∧ S4.next = 3 ∧ S4.torn = false := by rw [h4]; exact ⟨f3.1, rfl, rfl⟩
  have e4 : jE S4 0 tickE = 0 := jE_ok (L := 7) g4 f4.2.2 (by rw [f4.1]; exact hseg 0 (.inl rfl)) (by decide) hin2 (by decide)
  obtain ⟨S5, h5⟩ : ∃ S5, S5 = jCrash S4 0 tickE 99 := ⟨_, rfl⟩
  have g5 : ∃ r, Good S5 hs3 r := by
    obtain ⟨r', hr⟩ := good_crash (keep := 99) g4 e4
    rw [tick_frame, if_pos (by decide), f4.2.1] at hr
    rw [h5]
    exact ⟨r', hr⟩
  exact ⟨S1, S2, S3, S4, S5, e0, h1.symm, by rw [f1.2.1]; decide, e1, h2.symm, by rw [f2.2.1]; decide, ⟨_, g2⟩, e2, h3.symm, by rw [f3.2.1]; decide, ⟨_, gr3⟩, e3, s3', h4.symm, by rw [f4.2.1]; decide, e4, h5.symm, g5⟩
end Go.Proofs.YtaamihdibpioaaaGreat.Jr
