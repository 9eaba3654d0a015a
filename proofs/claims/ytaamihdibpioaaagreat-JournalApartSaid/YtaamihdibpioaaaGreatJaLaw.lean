/- How many bytes a label's segment has hangs on its own commands alone. No conditions. -/
import Derived.Test.YtaamihdibpioaaaGreatJaM47
import Derived.Test.YtaamihdibpioaaaGreatJaM53
import Derived.Test.YtaamihdibpioaaaGreatJaM45
import Derived.Test.YtaamihdibpioaaaGreatJaM48
import Derived.Test.YtaamihdibpioaaaGreatJaM14
import Derived.BigGuardPart
namespace Go.Proofs.YtaamihdibpioaaaGreat.journalApart
set_option linter.unusedVariables false
open Go.RowKit Go.ChangeShapes Go.WideShapes Go.Proofs.YtaamihdibpioaaaGreat.Jr Go.Proofs.YtaamihdibpioaaaGreat.Pk Go.Proofs.YtaamihdibpioaaaGreat.Rf Go.Proofs.YtaamihdibpioaaaGreat.Crc

/-- How the statement brings a number to 0 .. 2. -/
def m3 (x : Int) : Int := wrap64 ((IntKind.u64.wrap x).tmod 3)
theorem m3_nat (x : Int) : ∃ k : Nat, m3 x = (k : Int) ∧ k < 3 := by
  unfold m3
  rw [IntKind.wrap_u64]
  have h0 : 0 ≤ x % 18446744073709551616 := by omega
  rw [Int.tmod_eq_emod_of_nonneg h0]
  rw [IntWalk.wrap64_in _ (by omega)]
  exact ⟨(x % 18446744073709551616 % 3).toNat, by omega, by omega⟩
/-- What holds behind so many calls. -/
structure AInv (w : World) (ja da jb db lab i : Nat) (wr : World) : Prop where
  ex : ∃ (sa : Jt) (Ha : List He) (sb : Jt) (Hb : List He), Ap w lab Ha Hb ∧ JInv sa Ha i ∧ JInv sb Hb i ∧ JAt wr ja da sa ∧ JAt wr jb db sb
  below : Below w.heap.size w wr
theorem built_cmd (c : Cm) : Tryz.prog.builtSlice 39 1 [(0, .agg c.cells.toArray)] = some c.cells.toArray := by kernel_rfl
theorem cmd_facts : (Tryz.prog.info? 39).map (fun i => (i.zero, i.size, i.bytes)) = some (some (.agg #[.int .i64 0, .int .i64 0, .int .i64 0, .int .i64 0, .int .i64 0, .int .i64 0, .int .i64 0, .float .f64 0, .string ByteArray.empty, .slice none 0 0, .slice none 0 0, .int .i64 0, .int .i64 0, .float .f64 0, .string ByteArray.empty, .slice none 0 0, .slice none 0 0]), 17, 216) := by kernel_rfl
theorem cmd_read (w : World) (c : Cm) : Reads (w.alloc (.cells c.cells.toArray 39)) (w.heap.size + 1) 17 (some ⟨w.heap.size, 0, none⟩) 1 c.cells :=
  ⟨by rw [Cm.cells_len], fun _ => ⟨_, rfl, by simp, cells_new w c.cells 39⟩⟩
/-- One more of those of the label. -/
theorem mine_more {w6 w7 w8 : World} {cs : List Cm} {ka : Option Addr} {kc : Nat} {v' : Value} {c : Cm}
    (hb : Below w6.heap.size w6 w7) (hR : Rowed cmE (fun b => b < w6.heap.size) w6.heap.size 39 w7 cs (.slice ka cs.length kc)) (hc : c.In w6)
    (ho : w8.ownsRow w6.heap.size 39 17 v' (cs.length + 1) (cmE.row cs ++ c.cells))
    (hg : (w7.alloc (.cells c.cells.toArray 39)).grownBy w8 (Value.slice ka cs.length kc).ownBlock)
    (hor : v'.ownBlock = (Value.slice ka cs.length kc).ownBlock ∨ v'.ownBlock = some (w7.alloc (.cells c.cells.toArray 39)).heap.size) :
    Rowed cmE (fun b => b < w6.heap.size) w6.heap.size 39 w8 (cs ++ [c]) v' ∧ Below w6.heap.size w6 w8 := by
  obtain ⟨W, hW⟩ : ∃ W, W = w7.alloc (.cells c.cells.toArray 39) := ⟨_, rfl⟩
  rw [← hW] at hg hor
  have h7 : Below w7.heap.size w7 W := by rw [hW]; exact (Below.refl _ _).alloc (Nat.le_refl _) _
  have h6 : Below w6.heap.size w6 W := hb.trans (h7.mono hb.size)
  have hR6 := hR.below h7
  have hown : ∀ k, (Value.slice ka cs.length kc).ownBlock = some k → w6.heap.size ≤ k := fun k hk => own_ge hR.items hk
  exact ⟨Rowed.item (Z := W.heap.size) hR6 (fun b hb => hb) h6.size (hc.below h6) (cmE.mono (cmE.lt (show cmE.In w6 c from hc)) (fun b hb => .inl hb)) h6.size (fun b hb => own_lt hR6.items hb) ho hg hor, h6.grown hg h6.size hown⟩
theorem cm_row_get : ∀ (us : List Cm) (i j : Nat) (hi : i < us.length) (hj : j < 17), (cmE.row us)[i * 17 + j]? = (us[i]'hi).cells[j]?
  | [], i, j, hi, _ => absurd hi (by simp)
  | u :: us, 0, j, _, hj => by
    show (u.cells ++ cmE.row us)[0 * 17 + j]? = _
    rw [Nat.zero_mul, Nat.zero_add, List.getElem?_append_left (by rw [Cm.cells_len]; exact hj)]
    rfl
  | u :: us, i + 1, j, hi, hj => by
    show (u.cells ++ cmE.row us)[(i + 1) * 17 + j]? = _
    rw [List.getElem?_append_right (by rw [Cm.cells_len]; omega), Cm.cells_len, show (i + 1) * 17 + j - 17 = i * 17 + j by omega]
    exact cm_row_get us i j (by simpa using hi) hj
theorem cm_range {w : World} {base n : Nat} {a : Option Addr} {c : Nat} {us : List Cm} (h : w.ownsRow base 39 17 (.slice a n c) us.length (cmE.row us)) {k : Nat} (hk : k < us.length) :
    ∃ g, a = some ⟨g, 0, none⟩ ∧ us.length ≤ c ∧ g < w.heap.size ∧ w.rangeAt g (k * 17) (us[k]'hk).cells := by
  have hh := h
  rcases h.2 with ⟨h1, h0⟩ | ⟨g, cap, cur, hv, hb, hg, hc, _⟩
  · omega
  · injection hv with e1 e2 e3
    subst e1 e3
    refine ⟨g, rfl, hc, Blk.lt hg, fun j v hv => ?_⟩
    have hj : j < 17 := by
      have := (List.getElem?_eq_some_iff.1 hv).1
      rwa [Cm.cells_len] at this
    have := hh.cells (g := g) rfl (k * 17 + j) v (by rw [cm_row_get us k j hk hj]; exact hv)
    rw [Addr.add_lit, Nat.zero_add] at this
    exact this
theorem JAt.two {w w' : World} {j d j' d' Z : Nat} {s : Jt} (h : JAt w j d s) (k : Keeps2 w w' j' d') (h1 : j < Z ∧ d < Z ∧ Z ≤ j' ∧ Z ≤ d' ∨ j' < Z ∧ d' < Z ∧ Z ≤ j ∧ Z ≤ d) : JAt w' j d s := h.keep k (by omega) (by omega) (by omega) (by omega)
set_option maxHeartbeats 4000000 in
set_option maxRecDepth 100000 in
theorem law_any (us : List JOp) (vp : Option Addr) (vc : Nat) (lb : Int) (w : World) (hv : OpsIn w vp vc us) : Calls Tryz.prog 4 #[.slice vp us.length vc, .int .i64 lb] w fun e w' => TrueBelow w e w' := by
  have hsf := run_store_flt
  obtain ⟨i0, hi0, hz0, hz1, hz2⟩ := info_parts cmd_facts
  have HI0 := Lib.hid hi0; have HIZ := Lib.hid hz0; have HIS := Lib.hid hz1; have HIB0 := Lib.hid hz2
  clear hi0 hz0 hz1 hz2
  obtain ⟨L, hL⟩ : ∃ L, L = us.length := ⟨_, rfl⟩
  rw [← hL]
  have hm : ∀ x, wrap64 ((IntKind.u64.wrap x).tmod 3) = m3 x := fun _ => rfl
  obtain ⟨lab, hlab, hlab3⟩ := m3_nat lb
  have hLb : L ≤ 586406201480 := by rw [hL]; exact hv.len
  have hLc : L ≤ vc := by rw [hL]; exact hv.cap
  have HL := Lib.hid hL; have HV := Lib.hid hv
  clear hL hv
  go_enter Tryz.func4, Tryz.ntmps4
  go_wp2_with fail
  refine (jnew_ok 3 w (by decide) (by decide)).mono ?_
  rintro e w1 ⟨ja, da, hja, hda, rfl, hb1, hJ1⟩
  have B1 := Lib.hid hb1; have J1 := Lib.hid hJ1
  clear hb1 hJ1
  go_wp2_with fail
  refine (jnew_ok 3 w1 (by decide) (by decide)).mono ?_
  rintro e w2 ⟨jb, db, hjb1, hdb1, rfl, hb2, hJ2⟩
  have B2 := Lib.hid (B1.out.trans (hb2.mono B1.out.size)); have JA2 := Lib.hid (J1.out.below hb2); have JB2 := Lib.hid hJ2
  clear hb2 hJ2
  obtain ⟨Z, hZ⟩ : ∃ Z, Z = w1.heap.size := ⟨_, rfl⟩
  rw [← hZ] at hjb1 hdb1
  have hjaZ : ja < Z := by rw [hZ]; exact J1.out.jb.lt
  have hdaZ : da < Z := by rw [hZ]; exact J1.out.db.lt
  have hwZ : w.heap.size ≤ Z := by rw [hZ]; exact B1.out.size
  have hjb : w.heap.size ≤ jb := Nat.le_trans hwZ hjb1
  have hdb : w.heap.size ≤ db := Nat.le_trans hwZ hdb1
  clear hZ
  go_wp2_with fail
  refine (awake18_any _).mono ?_
  rintro e w3 ⟨rfl, hl⟩
  have B3 := Lib.hid (B2.out.trans (hl.mono B2.out.size)); have JA3 := Lib.hid (JA2.out.below hl); have JB3 := Lib.hid (JB2.out.below hl)
  clear hl
  go_wp2_with fail
  rw [HL.out]
  have hvl := long_any us vp vc w3 ((HV.out.below B3.out))
  refine hvl.mono ?_
  rw [← HL.out]
  rintro e w4 ⟨rfl, hl⟩
  have B4 := Lib.hid (B3.out.trans (hl.mono B3.out.size)); have JA4 := Lib.hid (JA3.out.below hl); have JB4 := Lib.hid (JB3.out.below hl)
  clear hl hvl
  cases hlo : longB us with
  | true =>
    go_wp2_with fail
    refine (awake18_any _).mono ?_
    rintro e w5 ⟨rfl, hl⟩
    have B5 := Lib.hid (B4.out.trans (hl.mono B4.out.size))
    clear hl
    go_wp2_with fail
    go_ret
    exact ⟨rfl, B5.out⟩
  | false =>
    have hL3 : L ≤ 300 := by
      rw [HL.out]
      unfold longB at hlo
      simp at hlo
      omega
    clear hlo
    go_wp2_with fail
    go_loopw [45] (fun iv wr => ∃ i : Nat, iv = .int .i64 (i : Int) ∧ i ≤ L ∧ Hid (AInv w ja da jb db lab i wr)) (fun iv _ => L - (intOf iv).toNat)
    case atStart => exact ⟨0, rfl, by omega, Lib.hid ⟨⟨jNew 3, [], jNew 3, [], Ap.nil w lab, JInv.new, JInv.new, JA4.out, JB4.out⟩, B4.out⟩⟩
    case round =>
      obtain ⟨i, rfl, hi, HK⟩ := hrel
      by_cases hlt : i < L
      · have hil : i < us.length := by rw [← HL.out]; exact hlt
        obtain ⟨sa, Ha, sb, Hb, hAp, hIa, hIb, hJa, hJb⟩ := HK.out.ex
        have hBL := HK.out.below
        obtain ⟨b, f, rfl, hpv0, hbl, hin0⟩ := HV.out.at_ i hil
        obtain ⟨v, hvd⟩ : ∃ v, v = us[i]'hil := ⟨_, rfl⟩
        rw [← hvd] at hpv0 hin0
        have hcc : ∀ j, j < 20 → wr.cell? ⟨b, f + i * 20 + j, none⟩ = v.cells[j]? := fun j hj => (hBL.cell (p := ⟨b, f + i * 20 + j, none⟩) hbl).trans (hpv0 j hj)
        obtain ⟨k, hkl, hk3⟩ := m3_nat v.label
        obtain ⟨X, hX⟩ : ∃ X, X = wr.heap.size := ⟨_, rfl⟩
        obtain ⟨W, hW⟩ : ∃ W, W = wr.alloc (.cells v.cells.toArray 41) := ⟨_, rfl⟩
        obtain ⟨W2, hW2⟩ : ∃ W2, W2 = W.setCell ⟨X, 1, none⟩ (.int .i64 (k : Int)) := ⟨_, rfl⟩
        have hbW : Below wr.heap.size wr W := by rw [hW]; exact (Below.refl _ _).alloc (Nat.le_refl _) _
        have hbk1 : Blk W X 41 v.cells.toArray := by rw [hW, hX]; exact Blk.new _ _ _
        have hbW2 : Below wr.heap.size wr W2 := by rw [hW2]; exact hbW.setCell (by rw [hX]; exact Nat.le_refl _) _
        have hbk : Blk W2 X 41 ({ v with label := (k : Int) } : JOp).cells.toArray := by rw [hW2]; exact hbk1.set_ 1 _
        have hzr : Z ≤ wr.heap.size := Nat.le_of_lt (Nat.lt_of_le_of_lt hjb1 hJb.jb.lt)
        have hXj : ja < X ∧ da < X ∧ jb < X ∧ db < X := by rw [hX]; exact ⟨hJa.jb.lt, hJa.db.lt, hJb.jb.lt, hJb.db.lt⟩
        have hXZ : Z ≤ X := by rw [hX]; exact hzr
        have hk0 : (0 : Int) ≤ (i : Int) := by omega
        have hk1 : (i : Int) < (L : Int) := by omega
        have x0 := hbk1.cell 0; have x1 := hbk1.cell 1; have f1 := hbk1.frozen 1
        rw [show v.cells.toArray[0]? = some (.int .i64 v.kind) from rfl] at x0
        rw [show v.cells.toArray[1]? = some (.int .i64 v.label) from rfl] at x1
        have HW := Lib.hid hW; have HW2 := Lib.hid hW2; have HBW := Lib.hid (hBL.trans (hbW2.mono hBL.size)); have HBK := Lib.hid hbk
        have HRA := Lib.hid (op_range hcc); have HXZ := Lib.hid (show X < W2.heap.size from hbk.lt)
        have HJA := Lib.hid (hJa.below hbW2); have HJB := Lib.hid (hJb.below hbW2); have HIA := Lib.hid hIa; have HIB := Lib.hid hIb; have HAP := Lib.hid hAp
        have HCI := Lib.hid hin0.2.2.2; have HCI2 := Lib.hid (hin0.2.2.2.below HBW.out); have hHX := Lib.hid hX
        obtain ⟨hx1, hx2, hx3, hx4⟩ := hXj
        clear hpv0 hcc hin0 hvd hW hW2 hbW hbW2 hbk hbk1 hJa hJb hIa hIb hAp hX
        go_upto_region 10 with (first
          | (refine wpList_load_mid rfl 41 _ rfl b (f + i * 20) rfl v.cells _ HRA.out Tryz.underlying41 rfl op_info ?_)
          | (refine wpList_store_new 41 _ _ v.cells.toArray _ rfl rfl HW.out rfl rfl op_info rfl (op_one v) ?_; rw [← hHX.out])
          | fail)
        rw [← HW2.out]
        clear x0 x1 f1
        have x0 := HBK.out.cell 0
        rw [show ({ v with label := (k : Int) } : JOp).cells.toArray[0]? = some (.int .i64 v.kind) from rfl] at x0
        by_cases hk2 : v.kind = 2
        · have t2 : ((v.kind : Int) == 2) = true := by simp [hk2]
          clear hk2
          by_cases hkl2 : k = lab
          · subst hkl2
            obtain ⟨Ha', Hb', hA', hCa, hCb⟩ := ap_crash HAP.out HIA.out HIB.out hk3 HCI.out v.keep
            have HAP' := Lib.hid hA'; have HCA := Lib.hid hCa; have HCB := Lib.hid hCb
            clear hA' hCa hCb
            --LEAF 1
            have x0 := HBK.out.cell 0; have x1 := HBK.out.cell 1; have x2 := HBK.out.cell 2
            rw [show ({ v with label := (k : Int) } : JOp).cells.toArray[0]? = some (.int .i64 v.kind) from rfl] at x0
            rw [show ({ v with label := (k : Int) } : JOp).cells.toArray[1]? = some (.int .i64 (k : Int)) from rfl] at x1
            rw [show ({ v with label := (k : Int) } : JOp).cells.toArray[2]? = some (.int .i64 v.keep) from rfl] at x2
            have HCHBK := Lib.hid (op_cmd HBK.out)
            have HCR := Lib.hid (jcrash_any ja da sa (k : Int) v.c v.keep W2 HJA.out (by have := HIA.out.next; omega) HCI2.out)
            go_wp2_with (first
              | (refine wpList_load_mid rfl 39 _ rfl X 3 rfl v.c.cells _ HCHBK.out Tryz.underlying39 rfl cmd_info ?_)
              | (refine HCR.out.mono ?_))
            rintro e w5 ⟨rfl, hJ5, hK5⟩
            have HB5 := Lib.hid (HBW.out.trans (hK5.below hja hda HBW.out.size))
            have HJ5 := Lib.hid hJ5; have HJB5 := Lib.hid (JAt.two HJB.out hK5 (Z := Z) (by omega)); have HBK5 := Lib.hid (hK5.blk HBK.out (by omega) (by omega))
            have HX5 := Lib.hid (Nat.le_trans HXZ.out hK5.size)
            clear x0 x1 x2 hJ5 hK5 HCR HCHBK
            obtain ⟨ra, hra⟩ := HCA.out.hist
            have HRV := Lib.hid (recover_any sort_recs ja da (jCrash sa (k : Int) v.c.enc v.keep) Ha' ra w5 HJ5.out hra (fun h hh => by have := HCA.out.seqs h hh; omega) (by have := HCA.out.len; omega))
            clear hra
            go_wp2_with fail
            refine HRV.out.mono ?_
            rintro e w6 ⟨B2, lv, us2, hB2, hB3', rfl, hK6, hJ6, hr6, hm6⟩
            obtain ⟨la, lc, rfl⟩ := hr6.form
            have HB6 := Lib.hid (HB5.out.trans (hK6.below hja hda HB5.out.size))
            have HJ6 := Lib.hid hJ6; have HJB6 := Lib.hid (JAt.two HJB5.out hK6 (Z := Z) (by omega)); have HBK6 := Lib.hid (hK6.blk HBK5.out (by omega) (by omega))
            have HX6 := Lib.hid (Nat.le_trans HX5.out hK6.size)
            clear hJ6 hK6 hr6 hm6 hB2 hB3' HRV
            have x0 := HBK6.out.cell 0; have x1 := HBK6.out.cell 1; have x2 := HBK6.out.cell 2
            rw [show ({ v with label := (k : Int) } : JOp).cells.toArray[0]? = some (.int .i64 v.kind) from rfl] at x0
            rw [show ({ v with label := (k : Int) } : JOp).cells.toArray[1]? = some (.int .i64 (k : Int)) from rfl] at x1
            rw [show ({ v with label := (k : Int) } : JOp).cells.toArray[2]? = some (.int .i64 v.keep) from rfl] at x2
            have HCHBK6 := Lib.hid (op_cmd HBK6.out)
            have HCR := Lib.hid (jcrash_any jb db sb (k : Int) v.c v.keep w6 HJB6.out (by have := HIB.out.next; omega) (HCI.out.below HB6.out))
            have t3 : ((k : Int) == (k : Int)) = true := by simp
            go_wp2_with (first
              | (refine wpList_load_mid rfl 39 _ rfl X 3 rfl v.c.cells _ HCHBK6.out Tryz.underlying39 rfl cmd_info ?_)
              | (refine HCR.out.mono ?_))
            rintro e w7 ⟨rfl, hJ7, hK7⟩
            have HB7 := Lib.hid (HB6.out.trans (hK7.below hjb hdb HB6.out.size))
            have HJ7 := Lib.hid hJ7; have HJA7 := Lib.hid (JAt.two HJ6.out hK7 (Z := Z) (by omega))
            clear x0 x1 x2 hJ7 hK7 HCR HCHBK6
            obtain ⟨rb, hrb⟩ := HCB.out.hist
            have HRV := Lib.hid (recover_any sort_recs jb db (jCrash sb (k : Int) v.c.enc v.keep) Hb' rb w7 HJ7.out hrb (fun h hh => by have := HCB.out.seqs h hh; omega) (by have := HCB.out.len; omega))
            clear hrb
            go_wp2_with fail
            refine HRV.out.mono ?_
            rintro e w8 ⟨B3, lv3, us3, hB4, hB5', rfl, hK8, hJ8, hr8, hm8⟩
            obtain ⟨la3, lc3, rfl⟩ := hr8.form
            have HB8 := Lib.hid (HB7.out.trans (hK8.below hjb hdb HB7.out.size))
            have HJ8 := Lib.hid hJ8; have HJA8 := Lib.hid (JAt.two HJA7.out hK8 (Z := Z) (by omega))
            clear hJ8 hK8 hr8 hm8 hB4 hB5' HRV
            go_wp2
            go_roundw
            case rel => exact ⟨i + 1, by go_num, by omega, Lib.hid ⟨⟨_, Ha', _, Hb', HAP'.out, HCA.out.inv, HCB.out.inv, HJA8.out, HJ8.out⟩, HB8.out⟩⟩
            case measure => simp [intOf]; omega
          · obtain ⟨Ha', hA', hCa⟩ := ap_crash_o HAP.out HIA.out hkl2 v.c v.keep
            have HAP' := Lib.hid hA'; have HCA := Lib.hid hCa
            clear hA' hCa
            --LEAF 2
            have x0 := HBK.out.cell 0; have x1 := HBK.out.cell 1; have x2 := HBK.out.cell 2
            rw [show ({ v with label := (k : Int) } : JOp).cells.toArray[0]? = some (.int .i64 v.kind) from rfl] at x0
            rw [show ({ v with label := (k : Int) } : JOp).cells.toArray[1]? = some (.int .i64 (k : Int)) from rfl] at x1
            rw [show ({ v with label := (k : Int) } : JOp).cells.toArray[2]? = some (.int .i64 v.keep) from rfl] at x2
            have HCHBK := Lib.hid (op_cmd HBK.out)
            have HCR := Lib.hid (jcrash_any ja da sa (k : Int) v.c v.keep W2 HJA.out (by have := HIA.out.next; omega) HCI2.out)
            go_wp2_with (first
              | (refine wpList_load_mid rfl 39 _ rfl X 3 rfl v.c.cells _ HCHBK.out Tryz.underlying39 rfl cmd_info ?_)
              | (refine HCR.out.mono ?_))
            rintro e w5 ⟨rfl, hJ5, hK5⟩
            have HB5 := Lib.hid (HBW.out.trans (hK5.below hja hda HBW.out.size))
            have HJ5 := Lib.hid hJ5; have HJB5 := Lib.hid (JAt.two HJB.out hK5 (Z := Z) (by omega)); have HBK5 := Lib.hid (hK5.blk HBK.out (by omega) (by omega))
            have HX5 := Lib.hid (Nat.le_trans HXZ.out hK5.size)
            clear x0 x1 x2 hJ5 hK5 HCR HCHBK
            obtain ⟨ra, hra⟩ := HCA.out.hist
            have HRV := Lib.hid (recover_any sort_recs ja da (jCrash sa (k : Int) v.c.enc v.keep) Ha' ra w5 HJ5.out hra (fun h hh => by have := HCA.out.seqs h hh; omega) (by have := HCA.out.len; omega))
            clear hra
            go_wp2_with fail
            refine HRV.out.mono ?_
            rintro e w6 ⟨B2, lv, us2, hB2, hB3', rfl, hK6, hJ6, hr6, hm6⟩
            obtain ⟨la, lc, rfl⟩ := hr6.form
            have HB6 := Lib.hid (HB5.out.trans (hK6.below hja hda HB5.out.size))
            have HJ6 := Lib.hid hJ6; have HJB6 := Lib.hid (JAt.two HJB5.out hK6 (Z := Z) (by omega)); have HBK6 := Lib.hid (hK6.blk HBK5.out (by omega) (by omega))
            have HX6 := Lib.hid (Nat.le_trans HX5.out hK6.size)
            clear hJ6 hK6 hr6 hm6 hB2 hB3' HRV
            have x0 := HBK6.out.cell 0; have x1 := HBK6.out.cell 1; have x2 := HBK6.out.cell 2
            rw [show ({ v with label := (k : Int) } : JOp).cells.toArray[0]? = some (.int .i64 v.kind) from rfl] at x0
            rw [show ({ v with label := (k : Int) } : JOp).cells.toArray[1]? = some (.int .i64 (k : Int)) from rfl] at x1
            rw [show ({ v with label := (k : Int) } : JOp).cells.toArray[2]? = some (.int .i64 v.keep) from rfl] at x2
            have HCHBK6 := Lib.hid (op_cmd HBK6.out)
            have t3 : ((k : Int) == (lab : Int)) = false := by simp; omega
            go_wp2
            go_roundw
            case rel => exact ⟨i + 1, by go_num, by omega, Lib.hid ⟨⟨_, Ha', sb, Hb, HAP'.out, HCA.out.inv, HIB.out.more, HJ6.out, HJB6.out⟩, HB6.out⟩⟩
            case measure => simp [intOf]; omega
        · have t2 : ((v.kind : Int) == 2) = false := by simpa using hk2
          clear hk2
          by_cases hkl2 : k = lab
          · subst hkl2
            obtain ⟨Ha', Hb', hA', hCa, hCb⟩ := ap_write HAP.out HIA.out HIB.out hk3 HCI.out
            have HAP' := Lib.hid hA'; have HWA := Lib.hid hCa; have HWB := Lib.hid hCb
            clear hA' hCa hCb
            --LEAF 3
            have x0 := HBK.out.cell 0; have x1 := HBK.out.cell 1; have x2 := HBK.out.cell 2
            rw [show ({ v with label := (k : Int) } : JOp).cells.toArray[0]? = some (.int .i64 v.kind) from rfl] at x0
            rw [show ({ v with label := (k : Int) } : JOp).cells.toArray[1]? = some (.int .i64 (k : Int)) from rfl] at x1
            rw [show ({ v with label := (k : Int) } : JOp).cells.toArray[2]? = some (.int .i64 v.keep) from rfl] at x2
            have HCHBK := Lib.hid (op_cmd HBK.out)
            have HCR := Lib.hid (jwrite_any ja da sa (k : Int) v.c W2 HJA.out (by have := HIA.out.next; omega) HCI2.out)
            go_wp2_with (first
              | (refine wpList_load_mid rfl 39 _ rfl X 3 rfl v.c.cells _ HCHBK.out Tryz.underlying39 rfl cmd_info ?_)
              | (refine HCR.out.mono ?_))
            rintro e w5 ⟨rfl, hJ5, hK5⟩
            have HB5 := Lib.hid (HBW.out.trans (hK5.below hja hda HBW.out.size))
            have HJ5 := Lib.hid hJ5; have HJB5 := Lib.hid (JAt.two HJB.out hK5 (Z := Z) (by omega)); have HBK5 := Lib.hid (hK5.blk HBK.out (by omega) (by omega))
            have HX5 := Lib.hid (Nat.le_trans HXZ.out hK5.size)
            clear x0 x1 x2 hJ5 hK5 HCR HCHBK
            have x0 := HBK5.out.cell 0; have x1 := HBK5.out.cell 1; have x2 := HBK5.out.cell 2
            rw [show ({ v with label := (k : Int) } : JOp).cells.toArray[0]? = some (.int .i64 v.kind) from rfl] at x0
            rw [show ({ v with label := (k : Int) } : JOp).cells.toArray[1]? = some (.int .i64 (k : Int)) from rfl] at x1
            rw [show ({ v with label := (k : Int) } : JOp).cells.toArray[2]? = some (.int .i64 v.keep) from rfl] at x2
            have HCHBK5 := Lib.hid (op_cmd HBK5.out)
            have HCR := Lib.hid (jwrite_any jb db sb (k : Int) v.c w5 HJB5.out (by have := HIB.out.next; omega) (HCI.out.below HB5.out))
            have t3 : ((k : Int) == (k : Int)) = true := by simp
            go_wp2_with (first
              | (refine wpList_load_mid rfl 39 _ rfl X 3 rfl v.c.cells _ HCHBK5.out Tryz.underlying39 rfl cmd_info ?_)
              | (refine HCR.out.mono ?_))
            rintro e w7 ⟨rfl, hJ7, hK7⟩
            have HB7 := Lib.hid (HB5.out.trans (hK7.below hjb hdb HB5.out.size))
            have HJ7 := Lib.hid hJ7; have HJA7 := Lib.hid (JAt.two HJ5.out hK7 (Z := Z) (by omega))
            clear x0 x1 x2 hJ7 hK7 HCR HCHBK5
            go_wp2
            go_roundw
            case rel => exact ⟨i + 1, by go_num, by omega, Lib.hid ⟨⟨_, Ha', _, Hb', HAP'.out, HWA.out, HWB.out, HJA7.out, HJ7.out⟩, HB7.out⟩⟩
            case measure => simp [intOf]; omega
          · obtain ⟨Ha', hA', hCa⟩ := ap_write_o HAP.out HIA.out hkl2 v.c
            have HAP' := Lib.hid hA'; have HWA := Lib.hid hCa
            clear hA' hCa
            --LEAF 4
            have x0 := HBK.out.cell 0; have x1 := HBK.out.cell 1; have x2 := HBK.out.cell 2
            rw [show ({ v with label := (k : Int) } : JOp).cells.toArray[0]? = some (.int .i64 v.kind) from rfl] at x0
            rw [show ({ v with label := (k : Int) } : JOp).cells.toArray[1]? = some (.int .i64 (k : Int)) from rfl] at x1
            rw [show ({ v with label := (k : Int) } : JOp).cells.toArray[2]? = some (.int .i64 v.keep) from rfl] at x2
            have HCHBK := Lib.hid (op_cmd HBK.out)
            have HCR := Lib.hid (jwrite_any ja da sa (k : Int) v.c W2 HJA.out (by have := HIA.out.next; omega) HCI2.out)
            go_wp2_with (first
              | (refine wpList_load_mid rfl 39 _ rfl X 3 rfl v.c.cells _ HCHBK.out Tryz.underlying39 rfl cmd_info ?_)
              | (refine HCR.out.mono ?_))
            rintro e w5 ⟨rfl, hJ5, hK5⟩
            have HB5 := Lib.hid (HBW.out.trans (hK5.below hja hda HBW.out.size))
            have HJ5 := Lib.hid hJ5; have HJB5 := Lib.hid (JAt.two HJB.out hK5 (Z := Z) (by omega)); have HBK5 := Lib.hid (hK5.blk HBK.out (by omega) (by omega))
            have HX5 := Lib.hid (Nat.le_trans HXZ.out hK5.size)
            clear x0 x1 x2 hJ5 hK5 HCR HCHBK
            have x0 := HBK5.out.cell 0; have x1 := HBK5.out.cell 1; have x2 := HBK5.out.cell 2
            rw [show ({ v with label := (k : Int) } : JOp).cells.toArray[0]? = some (.int .i64 v.kind) from rfl] at x0
            rw [show ({ v with label := (k : Int) } : JOp).cells.toArray[1]? = some (.int .i64 (k : Int)) from rfl] at x1
            rw [show ({ v with label := (k : Int) } : JOp).cells.toArray[2]? = some (.int .i64 v.keep) from rfl] at x2
            have HCHBK5 := Lib.hid (op_cmd HBK5.out)
            have t3 : ((k : Int) == (lab : Int)) = false := by simp; omega
            go_wp2
            go_roundw
            case rel => exact ⟨i + 1, by go_num, by omega, Lib.hid ⟨⟨_, Ha', sb, Hb, HAP'.out, HWA.out, HIB.out.more, HJ5.out, HJB5.out⟩, HB5.out⟩⟩
            case measure => simp [intOf]; omega
      · obtain rfl : i = L := by omega
        --LEAF 5
        obtain ⟨sa, Ha, sb, Hb, hAp, hIa, hIb, hJa, hJb⟩ := HK.out.ex
        have hBL := HK.out.below
        obtain ⟨ra, hha, hsa⟩ := hIa.seqs
        obtain ⟨rb, hhb, hsb⟩ := hIb.seqs
        have HRV := Lib.hid (records_any sort_recs ja da sa Ha ra wr hJa hha (fun h hh => by have := hsa h hh; omega) (by have := hIa.len; omega))
        have HRB := Lib.hid (fun (Y : World) (hJ : JAt Y jb db sb) => records_any sort_recs jb db sb Hb rb Y hJ hhb (fun h hh => by have := hsb h hh; omega) (by have := hIb.len; omega))
        have hsz : (readR sa.n sa.rows (lab : Int)).size = (readR sb.n sb.rows (lab : Int)).size := by
          rw [hIa.n, hIb.n, readR_row hlab3, readR_row hlab3]
          exact hAp.rows hIa hIb hlab3
        have HSZ := Lib.hid hsz; have HAP := Lib.hid hAp; have HJA := Lib.hid hJa; have HJB := Lib.hid hJb; have HBL := Lib.hid hBL; have HIA := Lib.hid hIa; have HIB := Lib.hid hIb
        have t1 : decide ((i : Int) < (i : Int)) = false := by simp
        clear hha hsa hhb hsb hsz hAp hIa hIb hJa hJb hBL hlt
        go_wp2_with fail
        refine HRV.out.mono ?_
        rintro e w6 ⟨B2, lv, us2, hB2, hB3', rfl, hb6, hr6, hm6⟩
        obtain ⟨la, lc, rfl⟩ := hr6.form
        have HB6 := Lib.hid (HBL.out.trans (hb6.mono HBL.out.size)); have HJA6 := Lib.hid (HJA.out.below hb6); have HJB6 := Lib.hid (HJB.out.below hb6)
        have HRU := Lib.hid hr6; have HM6 := Lib.hid hm6
        have hul : us2.length = Ha.length := by simpa using congrArg List.length hm6
        obtain ⟨M, hM⟩ : ∃ M, M = us2.length := ⟨_, rfl⟩
        have hM3 : M ≤ 300 := by rw [hM, hul]; have := HIA.out.len; omega
        rw [← hM]
        have HMU := Lib.hid hM
        clear hb6 hr6 hm6 hM hul HRV hB2 hB3'
        go_wp2_with fail
        go_loopw [11, 102] (fun mv iv wr => ∃ k : Nat, iv = .int .i64 (k : Int) ∧ k ≤ M ∧ Hid (Rowed cmE (fun b => b < w6.heap.size) w6.heap.size 39 wr (mineL lab (us2.take k)) mv) ∧ Hid (Below w6.heap.size w6 wr)) (fun _ iv _ => M - (intOf iv).toNat)
        case atStart => exact ⟨0, rfl, by omega, Lib.hid (rowed_start _), Lib.hid (Below.refl _ _)⟩
        case round =>
          obtain ⟨k, rfl, hkM, HRM, HBR⟩ := hrel
          by_cases hkl : k < M
          · have hku : k < us2.length := by rw [← HMU.out]; exact hkl
            have hru := HRU.out.items
            obtain ⟨lg, rfl, hlc, hlB, hlg, hlr⟩ := rec_range hru hku
            rw [← HMU.out] at hlc
            obtain ⟨u, hu⟩ : ∃ u, u = us2[k]'hku := ⟨_, rfl⟩
            rw [← hu] at hlr
            have hui : u.In w6 := by rw [hu]; exact hr_in HRU.out hku
            obtain ⟨X, hX⟩ : ∃ X, X = wr.heap.size := ⟨_, rfl⟩
            obtain ⟨W, hW⟩ : ∃ W, W = wr.alloc (.cells u.cells.toArray 44) := ⟨_, rfl⟩
            have hbk : Blk W X 44 u.cells.toArray := by rw [hW, hX]; exact Blk.new _ _ _
            have hbW : Below wr.heap.size wr W := by rw [hW]; exact (Below.refl _ _).alloc (Nat.le_refl _) _
            have hk0 : (0 : Int) ≤ (k : Int) := by omega
            have hk1 : (k : Int) < (M : Int) := by omega
            have HLR := Lib.hid (show wr.rangeAt lg (k * 19) u.cells from fun j v hv => (HBR.out.cell hlg).trans (hlr j v hv))
            have HRC := Lib.hid (show W.rangeAt X 2 u.c.cells from by have := range_part (rc_range hbk) (rc_cmd u); rwa [Nat.zero_add] at this)
            have x1 := hbk.cell 1
            rw [show u.cells.toArray[1]? = some (.int .i64 u.label) from rfl] at x1
            have htk : us2.take (k + 1) = us2.take k ++ [u] := by rw [hu, List.take_succ_eq_append_getElem hku]
            have hms := mine_snoc lab (us2.take k) u
            rw [← htk] at hms
            have HMS := Lib.hid hms
            have hml : (mineL lab (us2.take k)).length ≤ 300 := by
              unfold mineL
              rw [List.length_map]
              refine Nat.le_trans (List.length_filter_le _ _) ?_
              rw [List.length_take]
              omega
            have HRM2 := Lib.hid (HRM.out.below hbW); have HBR2 := Lib.hid (HBR.out.trans (hbW.mono HBR.out.size))
            obtain ⟨cs, hcs⟩ : ∃ cs, cs = mineL lab (us2.take k) := ⟨_, rfl⟩
            rw [← hcs] at HMS HRM2 hml
            have hrm := HRM2.out
            obtain ⟨ka, kc, hmv⟩ := hrm.form
            subst hmv
            have HOW := Lib.hid (World.ownsRow.alloc hrm.items (.cells u.c.cells.toArray 39))
            have HW := Lib.hid hW; have hHX := Lib.hid hX; have HUI := Lib.hid hui; have hZ6 := HBR2.out.size
            clear hlr hu hW hX hbk hbW htk hms hrm hru HRM hui hcs
            by_cases hul : u.label = (lab : Int)
            · have t3 : ((u.label : Int) == (lab : Int)) = true := by simp [hul]
              rw [if_pos hul] at HMS
              clear hul
              --LEAF 6
              go_wp2_with (first
                | (refine wpList_load_mid rfl 44 _ rfl lg (k * 19) rfl u.cells _ HLR.out Tryz.underlying44 rfl rec_info ?_)
                | (refine wpList_store_new 44 _ _ u.cells.toArray _ rfl rfl HW.out rfl rfl rec_info rfl (rec_one2 _) ?_; rw [← hHX.out])
                | (refine wpList_load_mid rfl 39 _ rfl X 2 rfl u.c.cells _ HRC.out Tryz.underlying39 rfl cmd_info ?_)
                | (refine wpList_buildSliceAs 49 39 1 _ u.c.cells.toArray [(0, .agg u.c.cells.toArray)] rfl rfl (by kernel_rfl) Tryz.underlying49 (built_cmd u.c) ?_)
                | (refine wpList_append_any _ rfl _ _ 49 rfl w6.heap.size 39 i0 _ 17 216 Tryz.underlying49 HI0.out HIZ.out HIS.out HIB0.out rfl (by decide) _ cs.length (cmE.row cs) rfl HOW.out (W.heap.size + 1) _ 1 1 _ rfl (cmd_read W u.c) (cmE.one u.c) (by unfold maxLen; omega) (by omega) (by simp; exact Nat.le_succ_of_le hZ6) ?_
                   intro kv' w8 ho hg hor
                   have HM := Lib.hid (mine_more HBR2.out HRM2.out HUI.out.2.2 ho hg hor)
                   obtain ⟨ka', kc', rfl⟩ := row_form ho
                   clear ho hg hor)
                | fail)
              go_roundw
              case rel => exact ⟨k + 1, by go_num, by omega, Lib.hid (by rw [HMS.out]; exact HM.out.1), Lib.hid HM.out.2⟩
              case measure => simp [intOf]; omega
            · have t3 : ((u.label : Int) == (lab : Int)) = false := by simpa using hul
              rw [if_neg hul] at HMS
              clear hul HOW
              --LEAF 7
              go_wp2_with (first
                | (refine wpList_load_mid rfl 44 _ rfl lg (k * 19) rfl u.cells _ HLR.out Tryz.underlying44 rfl rec_info ?_)
                | (refine wpList_store_new 44 _ _ u.cells.toArray _ rfl rfl HW.out rfl rfl rec_info rfl (rec_one2 _) ?_; rw [← hHX.out])
                | fail)
              go_roundw
              case rel => exact ⟨k + 1, by go_num, by omega, Lib.hid (by rw [HMS.out]; exact HRM2.out), HBR2⟩
              case measure => simp [intOf]; omega
          · obtain rfl : k = M := by omega
            --LEAF 8
            have t2 : decide ((k : Int) < (k : Int)) = false := by simp
            have HRB9 := Lib.hid (HRB.out wr (HJB6.out.below HBR.out))
            have HRM0 : Hid (Rowed cmE (fun b => b < w6.heap.size) w6.heap.size 39 wr (mineL lab us2) _) := Lib.hid (by have := HRM.out; rw [HMU.out, List.take_length] at this; exact this)
            obtain ⟨ka, kc, hmv⟩ := HRM0.out.form
            subst hmv
            clear hkl
            go_wp2_with fail
            refine HRB9.out.mono ?_
            rintro e w9 ⟨B4, lv9, ls, hB4, hB4', rfl, hb9, hr9, hm9⟩
            obtain ⟨la9, lc9, rfl⟩ := hr9.form
            have hll := ap_len HAP.out HM6.out hm9
            obtain ⟨cs, hcs⟩ : ∃ cs, cs = mineL lab us2 := ⟨_, rfl⟩
            have HSM := Lib.hid (ap_same HAP.out HM6.out hm9)
            have hz9 := HBR.out.size
            have HRM9 := Lib.hid (HRM0.out.below hb9); have HJA9 := Lib.hid ((HJA6.out.below HBR.out).below hb9); have HJB9 := Lib.hid ((HJB6.out.below HBR.out).below hb9)
            have HB9 := Lib.hid ((HB6.out.trans (HBR.out.mono HB6.out.size)).trans (hb9.mono (Nat.le_trans HB6.out.size HBR.out.size)))
            have HR9 := Lib.hid hr9
            have hcl : cs.length ≤ 300 := by
              rw [hcs]
              unfold mineL
              rw [List.length_map]
              refine Nat.le_trans (List.length_filter_le _ _) ?_
              rw [← HMU.out]
              exact hM3
            rw [← hcs] at HSM HRM9 hll ⊢
            rw [hll]
            have HLL := Lib.hid hll
            have HS1 := Lib.hid (size_any ja da sa (lab : Int) w9 HJA9.out); have HS2 := Lib.hid (size_any jb db sb (lab : Int) w9 HJB9.out)
            rw [HSZ.out] at HS1
            clear hb9 hr9 hm9 hB4 hB4' HRB9 HRB hll hcs HRM0
            have t4 : ((cs.length : Int) != (cs.length : Int)) = false := by simp
            have t5 : (((readR sb.n sb.rows (lab : Int)).size : Int) != ((readR sb.n sb.rows (lab : Int)).size : Int)) = false := by simp
            go_wp2_with fail
            refine HS1.out.mono ?_
            rintro e w10 ⟨rfl, rfl⟩
            go_wp2_with fail
            refine HS2.out.mono ?_
            rintro e w10 ⟨rfl, rfl⟩
            go_wp2_with fail
            go_loopw [134] (fun iv wr => ∃ q : Nat, iv = .int .i64 (q : Int) ∧ q ≤ cs.length ∧ Hid (Below w9.heap.size w9 wr)) (fun iv _ => cs.length - (intOf iv).toNat)
            case atStart => exact ⟨0, rfl, by omega, Lib.hid (Below.refl _ _)⟩
            case round =>
              obtain ⟨q, rfl, hqM, HBR⟩ := hrel
              by_cases hql : q < cs.length
              · have hqu : q < ls.length := by rw [HLL.out]; exact hql
                have hrl := HR9.out.items
                obtain ⟨lg, rfl, hlc, hlB, hlg, hlr⟩ := rec_range hrl hqu
                have hrk := HRM9.out.items
                obtain ⟨kg, rfl, hkc, hkg, hkr⟩ := cm_range hrk hql
                rw [HLL.out] at hlc
                have HF1 : Hid (∀ Y, Below w9.heap.size w9 Y → (Instr.loadAt 39 (.pointer (some ⟨lg, q * 19 + 2, none⟩))).run Tryz.prog Y = .ok (ls[q]'hqu).c.agg Y) := Lib.hid (fun Y hY =>
                  run_loadAt_mid Y lg (q * 19 + 2) 39 _ _ (fun j v hv => by rw [hY.cell (p := ⟨lg, q * 19 + 2 + j, none⟩) hlg]; exact range_part hlr (rc_cmd _) j v hv) Tryz.underlying39 rfl cmd_info)
                have HF2 : Hid (∀ Y, Below w9.heap.size w9 Y → (Instr.loadAt 39 (.pointer (some ⟨kg, q * 17, none⟩))).run Tryz.prog Y = .ok (cs[q]'hql).agg Y) := Lib.hid (fun Y hY =>
                  run_loadAt_mid Y kg (q * 17) 39 _ _ (fun j v hv => by rw [hY.cell (p := ⟨kg, q * 17 + j, none⟩) hkg]; exact hkr j v hv) Tryz.underlying39 rfl cmd_info)
                have hci : (cs[q]'hql).In w9 := (HRM9.out.each _ (List.getElem_mem hql)).1
                have HSC : Hid (∀ Y, Below w9.heap.size w9 Y → Calls Tryz.prog 13 #[(ls[q]'hqu).c.agg, (cs[q]'hql).agg] Y fun e w' => BoolBelow true Y e w') := Lib.hid (fun Y hY => by
                  have := samec_any (ls[q]'hqu).c (cs[q]'hql) Y ((hr_in HR9.out hqu).2.2.below hY) (hci.below hY)
                  rw [HSM.out q hqu hql] at this
                  exact this)
                obtain ⟨A1, hA1⟩ : ∃ A1, A1 = (ls[q]'hqu).c.agg := ⟨_, rfl⟩
                obtain ⟨A2, hA2⟩ : ∃ A2, A2 = (cs[q]'hql).agg := ⟨_, rfl⟩
                rw [← hA1] at HF1 HSC
                rw [← hA2] at HF2 HSC
                have hk0 : (0 : Int) ≤ (q : Int) := by omega
                have hk1 : (q : Int) < (cs.length : Int) := by omega
                clear hlr hkr hrl hrk hA1 hA2 hci
                --LEAF 9
                go_upto_region 33 with fail
                refine wp_region_held_drew (S := (fun Y => Below w9.heap.size w9 Y)) (by kernel_rfl) (HBR.out.drew) (fun hHeld => ?_)
                refine held_take (i := 0) (d := some 137) (v := ?_) rfl rfl (by kernel_rfl) (by kernel_rfl) (by kernel_rfl) (fun _ _ _ h => h) (by rfl) ?_ hHeld ?_
                rotate_left
                · (intro w hSw; (try dsimp only at hSw); go_simp; try with_reducible rfl)
                try simp only [Act.put, List.setIfInBounds_toArray, List.set_cons_zero, List.set_cons_succ]
                refine held_take (i := 1) (d := some 138) (v := ?_) rfl rfl (by kernel_rfl) (by kernel_rfl) (by kernel_rfl) (fun _ _ _ h => h) (by rfl) ?_ hHeld ?_
                rotate_left
                · (intro w hSw; (try dsimp only at hSw); go_simp; try with_reducible rfl)
                try simp only [Act.put, List.setIfInBounds_toArray, List.set_cons_zero, List.set_cons_succ]
                refine held_take (i := 2) (d := some 139) (v := ?_) rfl rfl (by kernel_rfl) (by kernel_rfl) (by kernel_rfl) (fun _ _ _ h => h) (by rfl) ?_ hHeld ?_
                rotate_left
                · (intro w hSw; (try dsimp only at hSw); go_simp; try with_reducible rfl)
                try simp only [Act.put, List.setIfInBounds_toArray, List.set_cons_zero, List.set_cons_succ]
                refine held_take (i := 3) (d := some 140) (v := ?_) rfl rfl (by kernel_rfl) (by kernel_rfl) (by kernel_rfl) (fun _ _ _ h => h) (by rfl) ?_ hHeld ?_
                rotate_left
                · (intro w hSw; (try dsimp only at hSw); go_simp; try with_reducible rfl)
                try simp only [Act.put, List.setIfInBounds_toArray, List.set_cons_zero, List.set_cons_succ]
                refine held_take (i := 4) (d := some 141) (v := A1) rfl rfl (by kernel_rfl) (by kernel_rfl) (by kernel_rfl) (fun _ _ _ h => h) (by rfl) (fun w hSw => exec_load _ _ rfl (HF1.out w hSw)) hHeld ?_
                try simp only [Act.put, List.setIfInBounds_toArray, List.set_cons_zero, List.set_cons_succ]
                refine held_take (i := 5) (d := some 142) (v := ?_) rfl rfl (by kernel_rfl) (by kernel_rfl) (by kernel_rfl) (fun _ _ _ h => h) (by rfl) ?_ hHeld ?_
                rotate_left
                · (intro w hSw; (try dsimp only at hSw); go_simp; try with_reducible rfl)
                try simp only [Act.put, List.setIfInBounds_toArray, List.set_cons_zero, List.set_cons_succ]
                refine held_take (i := 6) (d := some 143) (v := ?_) rfl rfl (by kernel_rfl) (by kernel_rfl) (by kernel_rfl) (fun _ _ _ h => h) (by rfl) ?_ hHeld ?_
                rotate_left
                · (intro w hSw; (try dsimp only at hSw); go_simp; try with_reducible rfl)
                try simp only [Act.put, List.setIfInBounds_toArray, List.set_cons_zero, List.set_cons_succ]
                refine held_take (i := 7) (d := some 144) (v := ?_) rfl rfl (by kernel_rfl) (by kernel_rfl) (by kernel_rfl) (fun _ _ _ h => h) (by rfl) ?_ hHeld ?_
                rotate_left
                · (intro w hSw; (try dsimp only at hSw); go_simp; try with_reducible rfl)
                try simp only [Act.put, List.setIfInBounds_toArray, List.set_cons_zero, List.set_cons_succ]
                refine held_take (i := 8) (d := some 145) (v := A2) rfl rfl (by kernel_rfl) (by kernel_rfl) (by kernel_rfl) (fun _ _ _ h => h) (by rfl) (fun w hSw => exec_load _ _ rfl (HF2.out w hSw)) hHeld ?_
                try simp only [Act.put, List.setIfInBounds_toArray, List.set_cons_zero, List.set_cons_succ]
                refine held_only (i := 9) (by kernel_rfl) rfl (by rfl) (fun K hK => ?_)
                go_simp
                go_at_call 13
                refine (HSC.out _ hHeld).mono ?_
                rintro e9 w10 ⟨rfl, hb10⟩
                refine hK.out _ _ (hHeld.trans (hb10.mono hHeld.size)) (fun hHeld => ?_)
                clear hK K hb10
                try simp only [Act.put, List.setIfInBounds_toArray, List.set_cons_zero, List.set_cons_succ]
                refine held_take (i := 10) (d := some 147) (v := ?_) rfl rfl (by kernel_rfl) (by kernel_rfl) (by kernel_rfl) (fun _ _ _ h => h) (by rfl) ?_ hHeld ?_
                rotate_left
                · (intro w hSw; (try dsimp only at hSw); go_simp; try with_reducible rfl)
                try simp only [Act.put, List.setIfInBounds_toArray, List.set_cons_zero, List.set_cons_succ]
                refine wpAnyH_done (by kernel_rfl) ?_ _
                have HBF := Lib.hid hHeld
                clear hHeld
                go_wp2
                go_roundw
                case rel => exact ⟨q + 1, by go_num, by omega, HBF⟩
                case measure => simp [intOf]; omega
              · obtain rfl : q = cs.length := by omega
                have t6 : decide ((cs.length : Int) < (cs.length : Int)) = false := by simp
                clear hql
                --LEAF 10
                go_wp2
                go_ret
                exact ⟨rfl, HB9.out.trans (HBR.out.mono HB9.out.size)⟩
set_option maxRecDepth 100000 in
theorem walk {H : Type} {enc : TypeId × Value → H} {W : World} {base : Nat} {args : Array Value} {ds : List (DataW H)} {ps : List MemPlace}
    (h : Handed enc Tryz.prog W base Tryz.f4.params.toList args ds ps) : Calls Tryz.prog 4 args W fun e w' => TrueBelow W e w' := by
  rw [Tryz.params4] at h
  have hval := h.val
  obtain ⟨v0, vs0, d0, ds0, p0, q0, hargs, rfl, rfl, h0, r0⟩ := trodAll_cons h.trod
  obtain ⟨v1, vs1, d1, ds1, p1, q1, rfl, rfl, rfl, h1, r1⟩ := trodAll_cons r0
  obtain ⟨rfl, rfl, rfl⟩ := trodAll_nil r1
  obtain rfl : args = #[v0, v1] := by cases args; simp_all
  obtain ⟨us, vp, c, rfl, hv⟩ := arg_jops (hval 0 22 v0 rfl rfl) h0 0 h.fits rfl rfl
  obtain ⟨a1, rfl, rfl, rfl, w1⟩ := open_int Tryz.underlying3 (hval 1 3 v1 rfl rfl) h1
  exact law_any us vp c a1 W hv


set_option maxRecDepth 100000 in
theorem lifted (os : Os) (started : os.Started) (H : Type) (enc : TypeId × Value → H) :
    ReturnsInHanded {} Tryz.checked os 4 .any (Rows.journalApartSpec.pre6 enc Tryz.prog Tryz.f4 Rows.journalApartRow.domain false) (Rows.journalApartSpec.post enc Tryz.prog Tryz.f4 false true false false) := by
  refine returnsInHanded_of_change_sized (C := Tryz.checked) own started (by kernel_rfl) Tryz.func4
    (ChangeSpec.witness6 (enc := enc) (C := Tryz.checked) false ⟨#[], #[.slice none 0 0, .int .i64 0], []⟩ 8 (by kernel_rfl) (by kernel_rfl) (by kernel_rfl) (by kernel_rfl)) ?_
  intro W base args ds gs before hval hW _ hsz _
  refine (walk (handed_of hval hW rfl rfl hsz)).mono fun e W' ⟨he, hb⟩ => ?_
  subst he
  exact ⟨_, rfl, law_post hW rfl laidOut (by kernel_rfl) rfl Tryz.underlying4 (fun ds' h => by match ds', h with | [_, _], _ => rfl) hb⟩

theorem over : Rows.journalApartRow.holds Tryz.pinned (OpenSpec.ofChange Rows.journalApartSpec) :=
  OpenClaim.holds_of_wide 4 Tryz.f4 rfl rfl rfl rfl rfl rfl rfl ⟨rfl, rfl, rfl, rfl, rfl⟩ rfl rfl rfl rfl rfl (by kernel_rfl) Tryz.func4 (by kernel_rfl)
    (of_decide_eq_true (by kernel_rfl)) (by unfold Func.isWrapper; first | (rw [if_pos (by decide +kernel)]; kernel_rfl) | (rw [if_neg (by decide +kernel)]; exact ⟨rfl, rfl⟩))
    (fun os started H enc _ => lifted os started H enc)

theorem proved : Rows.JournalApartSaid :=
  over
#print axioms proved
end Go.Proofs.YtaamihdibpioaaaGreat.journalApart
