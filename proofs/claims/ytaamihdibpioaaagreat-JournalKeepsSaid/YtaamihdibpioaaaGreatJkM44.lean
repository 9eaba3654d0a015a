/- journal: Recover. -/
import Derived.Test.YtaamihdibpioaaaGreatJkM26
import Derived.Test.YtaamihdibpioaaaGreatJkM39
import Derived.Test.YtaamihdibpioaaaGreatJkM43
import Derived.Laws.StructEq
namespace Go.Proofs.YtaamihdibpioaaaGreat.Jr
set_option linter.unusedVariables false
open Go.RowKit Go.Proofs.YtaamihdibpioaaaGreat.Crc Go.Proofs.YtaamihdibpioaaaGreat.Pk

def RecovOut (s : Jt) (H : List He) (j d : Nat) (w : World) (e : Ending) (w' : World) : Prop :=
  ∃ (B : Nat) (v : Value) (us : List Rc), w.heap.size ≤ B ∧ B ≤ w'.heap.size ∧ e = .returned v ∧ Keeps2 w w' j d ∧ JAt w' j d (jRecover s H) ∧ Rowed recE (fun _ => False) B 44 w' us v ∧ us.map Rc.erase = H.map He.rc
theorem readR_row {n : Nat} {rows : List ByteArray} {i : Nat} (hi : i < n) : readR n rows (i : Int) = rowOf rows (i : Int) := by
  unfold readR isSeg
  rw [decide_eq_true (by omega)]
  rfl
theorem seg_big {n : Nat} {rows : List ByteArray} {H : List He} {r : Nat → ByteArray} (hh : Hist n rows H r) (i : Nat) : ∀ p, p ∈ segOf H i → 4 ≤ p.size ∧ p.size ≤ 2000 := fun p hp => by
  obtain ⟨x, hx, rfl⟩ := List.mem_map.1 hp
  have := (hh.ok x (List.mem_filter.1 hx).1).1
  unfold He.pay
  rw [payB_size]
  omega
theorem last_seq {us : List Rc} {H : List He} (h : us.map Rc.erase = H.map He.rc) {k : Nat} (hk : us.length = k + 1) : ∃ (hu : k < us.length), (us[k]'hu).seq + 1 = (nextOf H : Int) := by
  have hl : H.length = k + 1 := by
    have := congrArg List.length h
    rw [List.length_map, List.length_map] at this
    omega
  refine ⟨by omega, ?_⟩
  have h1 : (us.map Rc.erase)[k]? = (H.map He.rc)[k]? := by rw [h]
  rw [List.getElem?_map, List.getElem?_map, List.getElem?_eq_getElem (by omega : k < us.length), List.getElem?_eq_getElem (by omega : k < H.length)] at h1
  have h2 : (us[k]'(by omega)).erase = (H[k]'(by omega)).rc := by simpa using h1
  have h3 := congrArg Rc.seq h2
  have h4 : (us[k]'(by omega)).seq = ((H[k]'(by omega)).seq : Int) := h3
  have h5 : H.getLast? = some (H[k]'(by omega)) := by
    rw [List.getLast?_eq_getElem?, show H.length - 1 = k by omega]
    exact List.getElem?_eq_getElem (by omega)
  unfold nextOf
  rw [h5, h4]
  simp
theorem nextOf_le {H : List He} (hs : ∀ h, h ∈ H → h.seq < 4294967296) : nextOf H ≤ 4294967296 := by
  unfold nextOf
  cases h : H.getLast? with
  | none => simp
  | some x =>
    have := hs x (List.mem_of_getLast? h)
    simp only
    omega
theorem row_at {E : Elem Rc} {w : World} {base : Nat} {v : Value} {us : List Rc} (h : w.ownsRow base 44 19 v us.length (recE.row us)) {k : Nat} (hk : k < us.length) :
    ∃ g c, v = .slice (some ⟨g, 0, none⟩) us.length c ∧ us.length ≤ c ∧ base ≤ g ∧ g < w.heap.size ∧ w.cell? ⟨g, k * 19, none⟩ = some (.int .i64 (us[k]'hk).seq) := by
  have hh := h
  rcases h.2 with ⟨rfl, h0⟩ | ⟨g, cap, cur, rfl, hb, hg, hc, _⟩
  · omega
  · refine ⟨g, cap, rfl, hc, hb, Blk.lt hg, ?_⟩
    have hrow : (recE.row us)[k * 19]? = some (.int .i64 (us[k]'hk).seq) := by
      have : ∀ (us : List Rc) (k : Nat) (hk : k < us.length), (recE.row us)[k * 19]? = some (.int .i64 (us[k]'hk).seq) := by
        intro us
        induction us with
        | nil => intro k hk; simp at hk
        | cons u us ih =>
          intro k hk
          cases k with
          | zero => rfl
          | succ k =>
            show (u.cells ++ recE.row us)[(k + 1) * 19]? = _
            rw [List.getElem?_append_right (by rw [Rc.cells_len]; omega), Rc.cells_len, show (k + 1) * 19 - 19 = k * 19 by omega]
            exact ih k (by simpa using hk)
      exact this us k hk
    have := hh.cells (g := g) rfl (k * 19) _ hrow
    rw [Addr.add_lit, Nat.zero_add] at this
    exact this
set_option maxHeartbeats 4000000 in
set_option maxRecDepth 100000 in
theorem recover_any (hsort : SortSpec) (j d : Nat) (s : Jt) (H : List He) (r : Nat → ByteArray) (w : World) (h : JAt w j d s) (hh : Hist s.n s.rows H r) (hs : ∀ h, h ∈ H → h.seq < 4294967296) (hH : H.length ≤ 10000) :
    Calls Tryz.prog 12 #[.pointer (some ⟨j, 0, none⟩)] w fun e w' => RecovOut s H j d w e w' := by
  have c1 := h.jb.cell 1
  simp at c1
  have hn8 := h.dk.n8
  have hcut := fun i (hi : i ≤ s.n) => hist_cut h.dk hh i hi
  have hrd := fun (i : Nat) (hi : i < s.n) (W : World) (hj : JAt W j d ⟨s.n, cutAll s.n s.rows i, s.next, s.torn⟩) => jread_any j d ⟨s.n, cutAll s.n s.rows i, s.next, s.torn⟩ (i : Int) ((cat (segOf H i)).size : Int) (segOf H i) W hj ⟨by omega, by omega⟩ (by
    show allOf (readR s.n (cutAll s.n s.rows i) (i : Int)) = _
    rw [readR_row hi]
    exact (hcut i (by omega)).all hi) (seg_big hh i)
  have hct := fun (i : Nat) (hi : i < s.n) (W : World) (hj : JAt W j d ⟨s.n, cutAll s.n s.rows i, s.next, s.torn⟩) => cut_any d s.n (cutAll s.n s.rows i) (i : Int) ((cat (segOf H i)).size : Int) W hj.db hj.dk
  have hnx := fun (i : Nat) (hi : i < s.n) => show cutR s.n (cutAll s.n s.rows i) (i : Int) ((cat (segOf H i)).size : Int) = cutAll s.n s.rows (i + 1) from by
    show _ = cutR s.n (cutAll s.n s.rows i) (i : Int) (allOf (rowOf (cutAll s.n s.rows i) (i : Int))).2
    rw [(hcut i (by omega)).all hi]
  have hrc := fun (W : World) (hj : JAt W j d ⟨s.n, cutAll s.n s.rows s.n, s.next, s.torn⟩) => records_any hsort j d ⟨s.n, cutAll s.n s.rows s.n, s.next, s.torn⟩ H _ W hj (hcut s.n (Nat.le_refl _)) hs hH
  have hck := fun i => cutAll_dk h.dk i
  have h0 : JAt w j d ⟨s.n, cutAll s.n s.rows 0, s.next, s.torn⟩ := h
  have HNL := Lib.hid (nextOf_le hs)
  obtain ⟨n, hn⟩ : ∃ n, n = s.n := ⟨_, rfl⟩
  rw [← hn] at c1 hn8
  have hjl := h.jb.lt
  have hdl := h.db.lt
  have hjd := h.ne
  have HRD := Lib.hid hrd; have HCT := Lib.hid hct; have HNX := Lib.hid hnx; have HRC := Lib.hid hrc; have HCK := Lib.hid hck; have H0 := Lib.hid h0; have HN := Lib.hid hn; have HHL := Lib.hid hH
  clear hrd hct hnx hrc hck h0 hn hcut hsort h hh hs hH
  go_enter Tryz.func12, Tryz.ntmps12
  go_wp2_with fail
  go_loopw [13] (fun iv wr => ∃ (i : Nat), i ≤ n ∧ iv = .int .i64 (i : Int) ∧ Hid (JAt wr j d ⟨s.n, cutAll s.n s.rows i, s.next, s.torn⟩) ∧ Hid (Keeps2 w wr j d)) (fun iv _ => n - (intOf iv).toNat)
  case atStart => exact ⟨0, by omega, rfl, H0, Lib.hid (Keeps2.refl _ _ _)⟩
  case round =>
    obtain ⟨i, hi, rfl, HJ, HK⟩ := hrel
    by_cases hlt : i < n
    · have hk1 : (i : Int) < (n : Int) := by omega
      have his : i < s.n := by rw [← HN.out]; exact hlt
      have HR1 := Lib.hid (HRD.out i his wr HJ.out)
      go_wp2_with fail
      refine HR1.out.mono ?_
      rintro e w1 ⟨B1, v1, us1, hB1, rfl, hb1, hr1, hm1⟩
      obtain ⟨ax1, cx1, rfl⟩ := hr1.form
      have hj1 := HJ.out.below hb1
      have HC1 := Lib.hid (HCT.out i his w1 hj1)
      have HJ1 := Lib.hid hj1; have HK1 := Lib.hid (HK.out.trans (Keeps2.of_below hb1 j d))
      have c0 := hj1.jb.cell 0
      simp at c0
      clear hb1 hr1 hm1 hj1 HR1 hB1
      go_wp2_with fail
      refine HC1.out.mono ?_
      rintro e w2 ⟨rfl, ho2, hd2⟩
      have HK2 := Lib.hid (HK1.out.trans (Keeps2.of_only2 ho2))
      have hj2 : JAt w2 j d ⟨s.n, cutAll s.n s.rows (i + 1), s.next, s.torn⟩ := ⟨HJ1.out.jb.grown ho2 (by simp; exact hjd), by rw [HNX.out i his] at hd2; exact hd2, HCK.out (i + 1)⟩
      have HJ2 := Lib.hid hj2
      clear hj2 ho2 hd2 HC1 c0
      go_wp2
      go_roundw
      case rel => exact ⟨i + 1, by omega, rfl, HJ2, HK2⟩
      case measure => simp [intOf]; omega
    · obtain rfl : i = n := by omega
      have hk1 : ¬ ((i : Int) < (i : Int)) := by omega
      have hjn : JAt wr j d ⟨s.n, cutAll s.n s.rows s.n, s.next, s.torn⟩ := by
        have := HJ.out
        rw [HN.out] at this
        exact this
      have HRR := Lib.hid (HRC.out wr hjn)
      have HJN := Lib.hid hjn
      clear hjn
      go_wp2_with fail
      refine HRR.out.mono ?_
      rintro e w1 ⟨B, v, us, hB, hB2, rfl, hb1, hr1, hm1⟩
      obtain ⟨ax, cx, rfl⟩ := hr1.form
      have hj1 := HJN.out.below hb1
      have hK1 := HK.out.trans (Keeps2.of_below hb1 j d)
      have hul : us.length ≤ 10000 := by
        have := congrArg List.length hm1
        rw [List.length_map, List.length_map] at this
        have := HHL.out
        omega
      have hzr := HK.out.size
      have hjB : j < B := by omega
      have j2 := hj1.jb.cell 2; have g2 := hj1.jb.frozen 2; have j3 := hj1.jb.cell 3; have g3 := hj1.jb.frozen 3
      simp at j2 j3
      obtain ⟨W2, hW2⟩ : ∃ W2, W2 = (w1.setCell ⟨j, 3, none⟩ (.bool false)).setCell ⟨j, 2, none⟩ (.int .i64 1) := ⟨_, rfl⟩
      have hjb2 : Blk W2 j 68 #[.pointer (some ⟨d, 0, none⟩), .int .i64 s.n, .int .i64 1, .bool false] := by rw [hW2]; exact (hj1.jb.set_ 3 (.bool false)).set_ 2 (.int .i64 1)
      have hdb2 : Blk W2 d 92 (diskCells s.n (cutAll s.n s.rows s.n)) := by rw [hW2]; exact (hj1.db.far (p := ⟨j, 3, none⟩) (Ne.symm hjd) _).far (p := ⟨j, 2, none⟩) (Ne.symm hjd) _
      have hK2 : Keeps2 w W2 j d := by rw [hW2]; exact hK1.trans (Keeps2.of_only1 (((Only.refl _ _).set_ (p := ⟨j, 3, none⟩) (.inl rfl) _).set_ (p := ⟨j, 2, none⟩) (.inl rfl) _))
      have hr2 : Rowed recE (fun _ => False) B 44 W2 us (.slice ax us.length cx) := by
        rw [hW2]
        exact (hr1.set_ (p := ⟨j, 3, none⟩) (fun b hb => hb.elim) hjB _).set_ (p := ⟨j, 2, none⟩) (fun b hb => hb.elim) hjB _
      have hz2 : W2.heap.size = w1.heap.size := by rw [hW2]; simp [World.setCell]
      have hdk := hj1.dk
      have HW2 := Lib.hid hW2; have HJB := Lib.hid hjb2; have HDB := Lib.hid hdb2; have HK2 := Lib.hid hK2; have HR2 := Lib.hid hr2; have HM := Lib.hid hm1; have HDK := Lib.hid hdk; have HBw : Hid (w.heap.size ≤ B ∧ B ≤ W2.heap.size) := Lib.hid ⟨by omega, by omega⟩
      clear hW2 hjb2 hdb2 hK2 hr2 hm1 hdk hb1 hr1 hj1 hK1 hB hB2 HRR hz2
      go_upto_region 11 with fail
      rw [← HW2.out]
      clear j2 g2 j3 g3
      obtain ⟨m, hm⟩ : ∃ m, m = us.length := ⟨_, rfl⟩
      by_cases h0 : us.length = 0
      · have hnx : nextOf H = 1 := by
          have := congrArg List.length HM.out
          rw [List.length_map, List.length_map, h0] at this
          rw [List.eq_nil_of_length_eq_zero this.symm]
          rfl
        have HJF : Hid (JAt W2 j d (jRecover s H)) := Lib.hid (by
          refine ⟨?_, HDB.out, HDK.out⟩
          show Blk W2 j 68 #[_, _, .int .i64 ((nextOf H : Nat) : Int), _]
          rw [hnx]
          exact HJB.out)
        have hr := HR2.out
        rw [h0] at hr ⊢
        have HR3 := Lib.hid hr
        clear hm hnx hr
        go_wp2
        go_ret
        exact ⟨B, _, us, HBw.out.1, HBw.out.2, rfl, HK2.out, HJF.out, HR3.out, HM.out⟩
      · obtain ⟨k, hk⟩ : ∃ k, us.length = k + 1 := ⟨us.length - 1, by omega⟩
        obtain ⟨hku, hseq⟩ := last_seq HM.out hk
        obtain ⟨g, c, hv, hcap, hgB, hgl, hcell⟩ := row_at (E := recE) HR2.out.items hku
        injection hv with hv1 hv2 hv3
        subst hv1 hv3
        obtain ⟨q, hq⟩ : ∃ q, q = (us[k]'hku).seq := ⟨_, rfl⟩
        rw [← hq] at hseq hcell
        have hr := HR2.out
        rw [hk] at hr hcap ⊢
        have HR3 := Lib.hid hr
        have j2 := HJB.out.cell 2; have g2 := HJB.out.frozen 2
        simp at j2
        have hnl := HNL.out
        have hq1 : -9223372036854775808 ≤ q + 1 := by omega
        have hq2 : q + 1 ≤ 9223372036854775807 := by omega
        have hw1 : IntKind.i64.wrap (q + 1) = q + 1 := IntWalk.i64_in _ ⟨hq1, hq2⟩
        have hkl : k ≤ 9999 := by omega
        have hk0 : (0 : Int) < ((k : Int) + 1) := by omega
        have hjW : j < W2.heap.size := HJB.out.lt
        have HJF : Hid (JAt (W2.setCell ⟨j, 2, none⟩ (.int .i64 (q + 1))) j d (jRecover s H) ∧ Keeps2 w (W2.setCell ⟨j, 2, none⟩ (.int .i64 (q + 1))) j d ∧ Rowed recE (fun _ => False) B 44 (W2.setCell ⟨j, 2, none⟩ (.int .i64 (q + 1))) us (.slice (some ⟨g, 0, none⟩) (k + 1) cx)) := Lib.hid (by
          refine ⟨⟨?_, HDB.out.far (p := ⟨j, 2, none⟩) (Ne.symm hjd) _, HDK.out⟩, HK2.out.trans (Keeps2.of_only1 ((Only.refl _ _).set_ (p := ⟨j, 2, none⟩) (.inl rfl) _)), HR3.out.set_ (p := ⟨j, 2, none⟩) (fun b hb => hb.elim) hjB _⟩
          show Blk _ j 68 #[_, _, .int .i64 ((nextOf H : Nat) : Int), _]
          rw [← hseq]
          exact HJB.out.set_ 2 _)
        have HBz : Hid (B ≤ (W2.setCell ⟨j, 2, none⟩ (.int .i64 (q + 1))).heap.size) := Lib.hid (by simp [World.setCell]; exact HBw.out.2)
        clear hm hk hku hseq hq hr h0 hul HRD HCT HNX HRC HCK hnl HNL
        go_wp2
        go_ret
        exact ⟨B, _, us, HBw.out.1, HBz.out, rfl, HJF.out.2.1, HJF.out.1, HJF.out.2.2, HM.out⟩
end Go.Proofs.YtaamihdibpioaaaGreat.Jr

/- The document's answers of layer 13: are two commands the same; is one small (printed by wip/gen_rf4.py). -/
namespace Go.Proofs.YtaamihdibpioaaaGreat.Rf
set_option linter.unusedVariables false
open Go.RowKit Go.Proofs.YtaamihdibpioaaaGreat.Pk

def cmSmall (c : Cm) : Bool := c.key.smallB && c.v.smallB
def cmSame (a b : Cm) : Bool := decide (a.ints = b.ints) && a.key.rsame b.key && a.v.rsame b.v
theorem inst_eq (a b c d : Int) (W : World) : (binOp .eql 32 (.agg #[.int .i64 a, .int .i64 b]) (.agg #[.int .i64 c, .int .i64 d])).run Tryz.prog W = .ok (.bool (decide (a = c) && decide (b = d))) W := by
  have hS : Tryz.prog.underlying 32 = some (.struct (Tryz.prog.fieldsOf 32)) := by kernel_rfl
  have hp : Tryz.prog.stoodInHeld 32 = false := by kernel_rfl
  have hF : (Tryz.prog.fieldsOf 32).toList.map (fun f => (f.name == "_", f.type, f.offset)) = [(false, 3, 0), (false, 3, 1)] := by kernel_rfl
  have hi : Tryz.prog.underlying 3 = some (.int .i64) := Tryz.underlying3
  rw [run_eql_struct, show (10000 : Nat) = 9998 + 1 + 1 from rfl, run_equalIn_agg W 9999 32 _ _ hS hp]
  obtain ⟨f1, f2, hl⟩ : ∃ f1 f2, (Tryz.prog.fieldsOf 32).toList = [f1, f2] := by
    match h : (Tryz.prog.fieldsOf 32).toList with
    | [f1, f2] => exact ⟨f1, f2, rfl⟩
    | [] => rw [h] at hF; simp at hF
    | [_] => rw [h] at hF; simp at hF
    | _ :: _ :: _ :: _ => rw [h] at hF; simp at hF
  rw [hl] at hF ⊢
  simp only [List.map_cons, List.map_nil, List.cons.injEq, Prod.mk.injEq, and_true] at hF
  obtain ⟨⟨n1, t1, o1⟩, n2, t2, o2⟩ := hF
  have n1' : f1.name ≠ "_" := by simpa using n1
  have n2' : f2.name ≠ "_" := by simpa using n2
  simp only [Op.eqFields, n1', n2', ne_eq, not_false_eq_true, if_true, t1, o1, t2, o2, Sem.run_bind]
  by_cases h1 : a = c <;> by_cases h2 : b = d <;> simp [h1, h2, part, run_equalIn_int _ _ _ _ _ _ _ hi, Sem.run_pure]
theorem rsame_def (a b : Cm) : cmSame a b = (decide (a.k = b.k) && (decide (a.nd = b.nd) && ((decide (a.il = b.il) && decide (a.inn = b.inn)) && (decide (a.n = b.n) && (a.key.rsame b.key && a.v.rsame b.v))))) := by
  unfold cmSame Cm.ints
  by_cases h1 : a.k = b.k <;> by_cases h2 : a.nd = b.nd <;> by_cases h3 : a.il = b.il <;> by_cases h4 : a.inn = b.inn <;> by_cases h5 : a.n = b.n <;> simp [h1, h2, h3, h4, h5]

set_option maxHeartbeats 4000000 in
set_option maxRecDepth 100000 in
theorem samec_any (a b : Cm) (w : World) (ha : a.In w) (hb : b.In w) : Calls Tryz.prog 13 #[a.agg, b.agg] w fun e w' => BoolBelow (cmSame a b) w e w' := by
  obtain ⟨p4, q4, e1⟩ := ha.2.1.nslice
  obtain ⟨p5, q5, e2⟩ := ha.2.1.xslice
  obtain ⟨r4, t4, e3⟩ := ha.2.2.nslice
  obtain ⟨r5, t5, e4⟩ := ha.2.2.xslice
  obtain ⟨P4, Q4, f1⟩ := hb.2.1.nslice
  obtain ⟨P5, Q5, f2⟩ := hb.2.1.xslice
  obtain ⟨R4, T4, f3⟩ := hb.2.2.nslice
  obtain ⟨R5, T5, f4⟩ := hb.2.2.xslice
  obtain ⟨C, hC⟩ : ∃ C, C = w.heap.size := ⟨_, rfl⟩
  obtain ⟨W, hW⟩ : ∃ W, W = (w.alloc (.cells a.cells.toArray 39)).alloc (.cells b.cells.toArray 39) := ⟨_, rfl⟩
  have hbW : Below w.heap.size w W := by rw [hW]; exact ((Below.refl _ _).alloc (Nat.le_refl _) _).alloc (by simp) _
  have hba : Blk W C 39 a.cells.toArray := by rw [hW, hC]; exact (Blk.new _ _ _).alloc _
  have hbb : Blk W (C + 1) 39 b.cells.toArray := by
    rw [hW, hC]
    have := Blk.new (w.alloc (.cells a.cells.toArray 39)) 39 b.cells.toArray
    rw [alloc_size'] at this
    exact this
  have haW := ha.below hbW
  have hbW' := hb.below hbW
  have hcell : ∀ w', Below W.heap.size W w' → Blk w' C 39 #[.int .i64 a.k, .int .i64 a.nd, .int .i64 a.il, .int .i64 a.inn, .int .i64 a.n, .int .i64 a.key.k, .int .i64 a.key.n, .float .f64 a.key.f, .string a.key.s, .slice p4 a.key.ns.length q4, .slice p5 a.key.xs.length q5, .int .i64 a.v.k, .int .i64 a.v.n, .float .f64 a.v.f, .string a.v.s, .slice r4 a.v.ns.length t4, .slice r5 a.v.xs.length t5] ∧ Blk w' (C + 1) 39 #[.int .i64 b.k, .int .i64 b.nd, .int .i64 b.il, .int .i64 b.inn, .int .i64 b.n, .int .i64 b.key.k, .int .i64 b.key.n, .float .f64 b.key.f, .string b.key.s, .slice P4 b.key.ns.length Q4, .slice P5 b.key.xs.length Q5, .int .i64 b.v.k, .int .i64 b.v.n, .float .f64 b.v.f, .string b.v.s, .slice R4 b.v.ns.length T4, .slice R5 b.v.xs.length T5] := fun w' ho => ⟨cmd_blk (hba.below ho hba.lt) e1 e2 e3 e4, cmd_blk (hbb.below ho hbb.lt) f1 f2 f3 f4⟩
  have hk := fun (w' : World) (ho : Below W.heap.size W w') => rsamev_any a.key b.key w' (haW.2.1.below ho) (hbW'.2.1.below ho)
  have hv := fun (w' : World) (ho : Below W.heap.size W w') => rsamev_any a.v b.v w' (haW.2.2.below ho) (hbW'.2.2.below ho)
  rw [show a.key.agg = .agg #[.int .i64 a.key.k, .int .i64 a.key.n, .float .f64 a.key.f, .string a.key.s, .slice p4 a.key.ns.length q4, .slice p5 a.key.xs.length q5] from by unfold Val.agg; rw [e1, e2],
    show b.key.agg = .agg #[.int .i64 b.key.k, .int .i64 b.key.n, .float .f64 b.key.f, .string b.key.s, .slice P4 b.key.ns.length Q4, .slice P5 b.key.xs.length Q5] from by unfold Val.agg; rw [f1, f2]] at hk
  rw [show a.v.agg = .agg #[.int .i64 a.v.k, .int .i64 a.v.n, .float .f64 a.v.f, .string a.v.s, .slice r4 a.v.ns.length t4, .slice r5 a.v.xs.length t5] from by unfold Val.agg; rw [e3, e4],
    show b.v.agg = .agg #[.int .i64 b.v.k, .int .i64 b.v.n, .float .f64 b.v.f, .string b.v.s, .slice R4 b.v.ns.length T4, .slice R5 b.v.xs.length T5] from by unfold Val.agg; rw [f3, f4]] at hv
  have hR := rsame_def a b
  obtain ⟨R, hR0⟩ : ∃ R, R = cmSame a b := ⟨_, rfl⟩
  rw [← hR0] at hR ⊢
  obtain ⟨KS, hKS⟩ : ∃ KS, KS = a.key.rsame b.key := ⟨_, rfl⟩
  obtain ⟨VS, hVS⟩ : ∃ VS, VS = a.v.rsame b.v := ⟨_, rfl⟩
  rw [← hKS, ← hVS] at hR
  simp only [← hKS] at hk
  simp only [← hVS] at hv
  obtain ⟨II, hII⟩ : ∃ II, II = (decide (a.il = b.il) && decide (a.inn = b.inn)) := ⟨_, rfl⟩
  have hin := fun W => inst_eq a.il a.inn b.il b.inn W
  simp only [← hII] at hin hR
  unfold Cm.cells Val.cells at hW
  unfold Cm.agg Cm.cells Val.cells
  rw [e1, e2, e3, e4, f1, f2, f3, f4] at hW
  rw [e1, e2, e3, e4, f1, f2, f3, f4]
  simp only [List.cons_append, List.nil_append] at hW ⊢
  have HW := Lib.hid hW; have HB := Lib.hid hbW; have HC := Lib.hid hC; have HX := Lib.hid hcell; have HK := Lib.hid hk; have HV := Lib.hid hv; have HR := Lib.hid hR
  clear hW hbW hC hba hbb haW hbW' hcell hk hv hR hR0 hKS hVS hII e1 e2 e3 e4 f1 f2 f3 f4 ha hb
  go_enter Tryz.func13, Tryz.ntmps13
  try simp only [lapp_cons, lapp_nil]
  go_upto_region 1 with fail
  rw [← HW.out, ← HC.out]
  obtain ⟨hX, hY⟩ := HX.out W (Below.refl _ _)
  have x0 := hX.cell 0; have x1 := hX.cell 1; have x2 := hX.cell 2; have x3 := hX.cell 3; have x4 := hX.cell 4; have x5 := hX.cell 5; have x6 := hX.cell 6; have x7 := hX.cell 7; have x8 := hX.cell 8; have x9 := hX.cell 9; have x10 := hX.cell 10
  have y0 := hY.cell 0; have y1 := hY.cell 1; have y2 := hY.cell 2; have y3 := hY.cell 3; have y4 := hY.cell 4; have y5 := hY.cell 5; have y6 := hY.cell 6; have y7 := hY.cell 7; have y8 := hY.cell 8; have y9 := hY.cell 9; have y10 := hY.cell 10
  simp only [List.getElem?_toArray, List.getElem?_cons_zero, List.getElem?_cons_succ] at x0 y0 x1 y1 x2 y2 x3 y3 x4 y4 x5 y5 x6 y6 x7 y7 x8 y8 x9 y9 x10 y10
  clear hX hY
  by_cases c1 : a.k = b.k
  rotate_left
  · have t0 : ((a.k : Int) == b.k) = false := by simpa using c1
    have HRF := Lib.hid (show R = false from by rw [HR.out]; simp [c1])
    clear c1
    go_wp2
    go_ret
    exact ⟨by rw [HRF.out]; rfl, HB.out⟩
  have t0 : ((a.k : Int) == b.k) = true := by simpa using c1
  by_cases c2 : a.nd = b.nd
  rotate_left
  · have t1 : ((a.nd : Int) == b.nd) = false := by simpa using c2
    have HRF := Lib.hid (show R = false from by rw [HR.out]; simp [c2])
    clear c2
    go_wp2
    go_ret
    exact ⟨by rw [HRF.out]; rfl, HB.out⟩
  have t1 : ((a.nd : Int) == b.nd) = true := by simpa using c2
  cases hI : II
  · rw [hI] at hin
    have HRF := Lib.hid (show R = false from by rw [HR.out]; simp [hI])
    clear hI
    go_wp2
    go_ret
    exact ⟨by rw [HRF.out]; rfl, HB.out⟩
  rw [hI] at hin
  by_cases c4 : a.n = b.n
  rotate_left
  · have t3 : ((a.n : Int) == b.n) = false := by simpa using c4
    have HRF := Lib.hid (show R = false from by rw [HR.out]; simp [c4])
    clear c4
    go_wp2
    go_ret
    exact ⟨by rw [HRF.out]; rfl, HB.out⟩
  have t3 : ((a.n : Int) == b.n) = true := by simpa using c4
  have HR1 := Lib.hid (show R = (KS && VS) from by rw [HR.out, hI]; simp [c1, c2, c4])
  clear HR hI c1 c2 c4
  go_wp2_with fail
  refine (HK.out W (Below.refl _ _)).mono ?_
  rintro e w1 ⟨rfl, hb1⟩
  have HB1 := Lib.hid hb1
  obtain ⟨hX, hY⟩ := HX.out w1 hb1
  clear hb1 x5 x6 x7 x8 x9 x10 y5 y6 y7 y8 y9 y10
  have x11 := hX.cell 11; have x12 := hX.cell 12; have x13 := hX.cell 13; have x14 := hX.cell 14; have x15 := hX.cell 15; have x16 := hX.cell 16
  have y11 := hY.cell 11; have y12 := hY.cell 12; have y13 := hY.cell 13; have y14 := hY.cell 14; have y15 := hY.cell 15; have y16 := hY.cell 16
  simp only [List.getElem?_toArray, List.getElem?_cons_zero, List.getElem?_cons_succ] at x11 y11 x12 y12 x13 y13 x14 y14 x15 y15 x16 y16
  clear hX hY
  cases KS with
  | false =>
    have HRF := Lib.hid (show R = false from by rw [HR1.out]; simp)
    go_wp2
    go_ret
    exact ⟨by rw [HRF.out]; rfl, HB.out.trans (HB1.out.mono HB.out.size)⟩
  | true =>
    have HRF := Lib.hid (show R = VS from by rw [HR1.out]; simp)
    go_wp2_with fail
    refine (HV.out w1 HB1.out).mono ?_
    rintro e w2 ⟨rfl, hb2⟩
    have HB2 := Lib.hid (HB.out.trans ((HB1.out.mono HB.out.size).trans (hb2.mono (Nat.le_trans HB.out.size HB1.out.size))))
    clear hb2
    go_wp2
    go_ret
    exact ⟨by rw [HRF.out]; rfl, HB2.out⟩
set_option maxHeartbeats 4000000 in
set_option maxRecDepth 100000 in
theorem smallc_any (a : Cm) (w : World) (ha : a.In w) : Calls Tryz.prog 24 #[a.agg] w fun e w' => BoolBelow (cmSmall a) w e w' := by
  obtain ⟨p4, q4, e1⟩ := ha.2.1.nslice
  obtain ⟨p5, q5, e2⟩ := ha.2.1.xslice
  obtain ⟨r4, t4, e3⟩ := ha.2.2.nslice
  obtain ⟨r5, t5, e4⟩ := ha.2.2.xslice
  obtain ⟨C, hC⟩ : ∃ C, C = w.heap.size := ⟨_, rfl⟩
  obtain ⟨W, hW⟩ : ∃ W, W = w.alloc (.cells a.cells.toArray 39) := ⟨_, rfl⟩
  have hbW : Below w.heap.size w W := by rw [hW]; exact (Below.refl _ _).alloc (Nat.le_refl _) _
  have hba : Blk W C 39 a.cells.toArray := by rw [hW, hC]; exact Blk.new _ _ _
  have haW := ha.below hbW
  have hcell : ∀ w', Below W.heap.size W w' → Blk w' C 39 #[.int .i64 a.k, .int .i64 a.nd, .int .i64 a.il, .int .i64 a.inn, .int .i64 a.n, .int .i64 a.key.k, .int .i64 a.key.n, .float .f64 a.key.f, .string a.key.s, .slice p4 a.key.ns.length q4, .slice p5 a.key.xs.length q5, .int .i64 a.v.k, .int .i64 a.v.n, .float .f64 a.v.f, .string a.v.s, .slice r4 a.v.ns.length t4, .slice r5 a.v.xs.length t5] := fun w' ho => cmd_blk (hba.below ho hba.lt) e1 e2 e3 e4
  have hk := fun (w' : World) (ho : Below W.heap.size W w') => small_any a.key w' (haW.2.1.below ho)
  have hv := fun (w' : World) (ho : Below W.heap.size W w') => small_any a.v w' (haW.2.2.below ho)
  rw [show a.key.agg = .agg #[.int .i64 a.key.k, .int .i64 a.key.n, .float .f64 a.key.f, .string a.key.s, .slice p4 a.key.ns.length q4, .slice p5 a.key.xs.length q5] from by unfold Val.agg; rw [e1, e2]] at hk
  rw [show a.v.agg = .agg #[.int .i64 a.v.k, .int .i64 a.v.n, .float .f64 a.v.f, .string a.v.s, .slice r4 a.v.ns.length t4, .slice r5 a.v.xs.length t5] from by unfold Val.agg; rw [e3, e4]] at hv
  unfold cmSmall
  obtain ⟨KS, hKS⟩ : ∃ KS, KS = a.key.smallB := ⟨_, rfl⟩
  obtain ⟨VS, hVS⟩ : ∃ VS, VS = a.v.smallB := ⟨_, rfl⟩
  rw [← hKS, ← hVS]
  simp only [← hKS] at hk
  simp only [← hVS] at hv
  unfold Cm.cells Val.cells at hW
  unfold Cm.agg Cm.cells Val.cells
  rw [e1, e2, e3, e4] at hW
  rw [e1, e2, e3, e4]
  simp only [List.cons_append, List.nil_append] at hW ⊢
  have HW := Lib.hid hW; have HB := Lib.hid hbW; have HC := Lib.hid hC; have HX := Lib.hid hcell; have HK := Lib.hid hk; have HV := Lib.hid hv
  clear hW hbW hC hba haW hcell hk hv hKS hVS e1 e2 e3 e4 ha
  go_enter Tryz.func24, Tryz.ntmps24
  go_upto_region 1 with fail
  rw [← HW.out, ← HC.out]
  have hX := HX.out W (Below.refl _ _)
  have x5 := hX.cell 5; have x6 := hX.cell 6; have x7 := hX.cell 7; have x8 := hX.cell 8; have x9 := hX.cell 9; have x10 := hX.cell 10
  simp only [List.getElem?_toArray, List.getElem?_cons_zero, List.getElem?_cons_succ] at x5 x6 x7 x8 x9 x10
  clear hX
  go_wp2_with fail
  refine (HK.out W (Below.refl _ _)).mono ?_
  rintro e w1 ⟨rfl, hb1⟩
  have HB1 := Lib.hid hb1
  have hX := HX.out w1 hb1
  clear hb1 x5 x6 x7 x8 x9 x10
  have x11 := hX.cell 11; have x12 := hX.cell 12; have x13 := hX.cell 13; have x14 := hX.cell 14; have x15 := hX.cell 15; have x16 := hX.cell 16
  simp only [List.getElem?_toArray, List.getElem?_cons_zero, List.getElem?_cons_succ] at x11 x12 x13 x14 x15 x16
  clear hX
  cases KS with
  | false =>
    go_wp2
    go_ret
    exact ⟨by simp, HB.out.trans (HB1.out.mono HB.out.size)⟩
  | true =>
    go_wp2_with fail
    refine (HV.out w1 HB1.out).mono ?_
    rintro e w2 ⟨rfl, hb2⟩
    have HB2 := Lib.hid (HB.out.trans ((HB1.out.mono HB.out.size).trans (hb2.mono (Nat.le_trans HB.out.size HB1.out.size))))
    clear hb2
    go_wp2
    go_ret
    exact ⟨by simp, HB2.out⟩
end Go.Proofs.YtaamihdibpioaaaGreat.Rf
