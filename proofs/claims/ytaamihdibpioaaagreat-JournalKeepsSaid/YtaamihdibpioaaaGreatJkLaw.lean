/- Whatever was written is read again, in order, behind each crash. No conditions. -/
import Derived.Test.YtaamihdibpioaaaGreatJkM47
import Derived.Test.YtaamihdibpioaaaGreatJkM53
import Derived.Test.YtaamihdibpioaaaGreatJkM45
import Derived.Test.YtaamihdibpioaaaGreatJkM48
import Derived.Test.YtaamihdibpioaaaGreatJkM14
import Derived.BigGuardPart
namespace Go.Proofs.YtaamihdibpioaaaGreat.journalKeeps
set_option linter.unusedVariables false
open Go.RowKit Go.ChangeShapes Go.WideShapes Go.Proofs.YtaamihdibpioaaaGreat.Jr Go.Proofs.YtaamihdibpioaaaGreat.Pk Go.Proofs.YtaamihdibpioaaaGreat.Rf Go.Proofs.YtaamihdibpioaaaGreat.Crc

/-- How the statement brings a number to 0 .. 7. -/
def m8 (x : Int) : Int := wrap64 ((IntKind.u64.wrap x).tmod 8)
theorem m8_range (x : Int) : 0 ≤ m8 x ∧ m8 x < 8 := by
  unfold m8
  rw [IntKind.wrap_u64]
  have h0 : 0 ≤ x % 18446744073709551616 := by omega
  rw [Int.tmod_eq_emod_of_nonneg h0]
  rw [IntWalk.wrap64_in _ (by omega)]
  omega
/-- What holds behind so many calls. -/
structure KInv (w : World) (B j d n i : Nat) (kv : Value) (wr : World) : Prop where
  ex : ∃ (s : Jt) (H : List He) (r : Nat → ByteArray) (ks : List Rc), s.n = n ∧ s.torn = false ∧ Jr.Good s H r ∧ s.next ≤ i + 1 ∧ H.length ≤ i ∧ JAt wr j d s ∧ KeptIs w H ks ∧ Rowed recE (fun b => b < w.heap.size) B 44 wr ks kv
  below : Below w.heap.size w wr
  size : B ≤ wr.heap.size
set_option maxHeartbeats 40000000 in
set_option maxRecDepth 100000 in
theorem law_any (n : Int) (us : List JOp) (vp : Option Addr) (vc : Nat) (w : World) (hv : OpsIn w vp vc us) : Calls Tryz.prog 3 #[.int .i64 n, .slice vp us.length vc] w fun e w' => TrueBelow w e w' := by
  have hsf := run_store_flt
  obtain ⟨i0, hi0, hz0, hz1, hz2⟩ := info_parts rec_facts
  have HI0 := Lib.hid hi0; have HIZ := Lib.hid hz0; have HIS := Lib.hid hz1; have HIB := Lib.hid hz2
  clear hi0 hz0 hz1 hz2
  obtain ⟨L, hL⟩ : ∃ L, L = us.length := ⟨_, rfl⟩
  rw [← hL]
  have hm : ∀ x, wrap64 ((IntKind.u64.wrap x).tmod 8) = m8 x := fun _ => rfl
  obtain ⟨hm0, hm8⟩ := m8_range n
  obtain ⟨N, hN⟩ : ∃ N : Nat, 1 + m8 n = (N : Int) := ⟨(1 + m8 n).toNat, by omega⟩
  have hN1 : 1 ≤ N := by omega
  have hN8 : N ≤ 8 := by omega
  have hLb : L ≤ 586406201480 := by rw [hL]; exact hv.len
  have hLc : L ≤ vc := by rw [hL]; exact hv.cap
  have HL := Lib.hid hL; have HV := Lib.hid hv
  clear hL hv
  go_enter Tryz.func3, Tryz.ntmps3
  go_wp2_with fail
  refine (jnew_ok N _ hN1 hN8).mono ?_
  rintro e w1 ⟨j, d, hj, hd, rfl, hb1, hJ1⟩
  have B1 := Lib.hid hb1; have J1 := Lib.hid hJ1
  clear hb1 hJ1
  go_wp2_with fail
  refine (awake18_any _).mono ?_
  rintro e w2 ⟨rfl, hl⟩
  have B2 := Lib.hid (B1.out.trans (hl.mono B1.out.size)); have J2 := Lib.hid (J1.out.below hl); have HZ2 := Lib.hid hl.size
  clear hl
  go_wp2_with fail
  rw [HL.out]
  have hvl := long_any us vp vc w2 ((HV.out.below B2.out))
  refine hvl.mono ?_
  rw [← HL.out]
  rintro e w3 ⟨rfl, hl⟩
  have B3 := Lib.hid (B2.out.trans (hl.mono B2.out.size)); have J3 := Lib.hid (J2.out.below hl); have HZ3 := Lib.hid (Nat.le_trans HZ2.out hl.size)
  clear hl hvl
  cases hlo : longB us with
  | true =>
    go_wp2_with fail
    refine (awake18_any _).mono ?_
    rintro e w4 ⟨rfl, hl⟩
    have B4 := Lib.hid (B3.out.trans (hl.mono B3.out.size))
    clear hl
    go_wp2_with fail
    go_ret
    exact ⟨rfl, B4.out⟩
  | false =>
    have hL3 : L ≤ 300 := by
      rw [HL.out]
      unfold longB at hlo
      simp at hlo
      omega
    clear hlo
    obtain ⟨B, hB⟩ : ∃ B, B = w1.heap.size := ⟨_, rfl⟩
    have hjB : j < B := by rw [hB]; exact J1.out.jb.lt
    have hdB : d < B := by rw [hB]; exact J1.out.db.lt
    have hwB : w.heap.size ≤ B := by rw [hB]; exact B1.out.size
    have hB3 : B ≤ w3.heap.size := by
      rw [hB]
      exact HZ3.out
    clear hB
    go_wp2_with fail
    go_loopw [7, 41] (fun kv iv wr => ∃ i : Nat, iv = .int .i64 (i : Int) ∧ i ≤ L ∧ Hid (KInv w B j d N i kv wr)) (fun _ iv _ => L - (intOf iv).toNat)
    case atStart => exact ⟨0, rfl, by omega, Lib.hid ⟨⟨jNew N, [], _, [], rfl, rfl, good_new hN1 hN8, Nat.le_refl _, Nat.le_refl _, J3.out, KeptIs.nil w, rowed_start _⟩, B3.out, hB3⟩⟩
    case round =>
      obtain ⟨i, rfl, hi, HK⟩ := hrel
      by_cases hlt : i < L
      · have hil : i < us.length := by rw [← HL.out]; exact hlt
        obtain ⟨s, H, r, ks, hsn, hst, hG, hnx, hHl, hJ, hKe, hRo⟩ := HK.out.ex
        have hkl : ks.length ≤ 300 := by rw [hKe.len]; omega
        have hBL := HK.out.below
        have hBs := HK.out.size
        obtain ⟨b, f, rfl, hpv0, hbl, hin0⟩ := HV.out.at_ i hil
        obtain ⟨v, hvd⟩ : ∃ v, v = us[i]'hil := ⟨_, rfl⟩
        rw [← hvd] at hpv0 hin0
        have hin := hin0.below hBL
        have hcc : ∀ j, j < 20 → wr.cell? ⟨b, f + i * 20 + j, none⟩ = v.cells[j]? := fun j hj => (hBL.cell (p := ⟨b, f + i * 20 + j, none⟩) hbl).trans (hpv0 j hj)
        obtain ⟨W, hW⟩ : ∃ W, W = wr.alloc (.cells v.cells.toArray 41) := ⟨_, rfl⟩
        have hbW : Below wr.heap.size wr W := by rw [hW]; exact (Below.refl _ _).alloc (Nat.le_refl _) _
        have hbk : Blk W wr.heap.size 41 v.cells.toArray := by rw [hW]; exact Blk.new _ _ _
        obtain ⟨K, hK⟩ : ∃ K, K = jE s v.label v.c.enc := ⟨_, rfl⟩
        have hk0 : (0 : Int) ≤ (i : Int) := by omega
        have hk1 : (i : Int) < (L : Int) := by omega
        have x0 := hbk.cell 0; have x1 := hbk.cell 1; have x2 := hbk.cell 2
        rw [show v.cells.toArray[0]? = some (.int .i64 v.kind) from rfl] at x0
        rw [show v.cells.toArray[1]? = some (.int .i64 v.label) from rfl] at x1
        rw [show v.cells.toArray[2]? = some (.int .i64 v.keep) from rfl] at x2
        have hcI := hin.2.2.2.below hbW
        have HW := Lib.hid hW; have HBW := Lib.hid (hBL.trans (hbW.mono hBL.size)); have HBK := Lib.hid hbk
        have HRA := Lib.hid (op_range hcc); have HRC := Lib.hid (op_cmd hbk)
        have HWR := Lib.hid (by have := jwrite_any j d s v.label v.c W (hJ.below hbW) (by omega) hcI; rw [← hK] at this; exact this)
        have HCR := Lib.hid (by have := jcrash_any j d s v.label v.c v.keep W (hJ.below hbW) (by omega) hcI; rw [← hK] at this; exact this)
        have HRO := Lib.hid (hRo.below hbW); have HG := Lib.hid hG; have HKE := Lib.hid hKe; have HCI := Lib.hid hin0.2.2.2; have HLB := Lib.hid hin0.2.1; have HJ := Lib.hid (hJ.below hbW)
        have HSN := Lib.hid hsn; have HST := Lib.hid hst; have HKE0 := Lib.hid hK; have HWL := Lib.hid (show W.heap.size = wr.heap.size + 1 from by rw [hW, alloc_size'])
        obtain ⟨ka, kc, rfl⟩ := hRo.form
        clear hpv0 hcc hin hin0 hvd hW hbW hbk hJ hcI hRo hG hKe hsn hst hK
        by_cases hk1 : v.kind = 1
        · have t1 : ((v.kind : Int) == 1) = true := by simp [hk1]
          clear hk1
          go_wp2_with (first
            | (refine wpList_load_mid rfl 41 _ rfl b (f + i * 20) rfl v.cells _ HRA.out Tryz.underlying41 rfl op_info ?_)
            | (refine wpList_store_new 41 _ _ v.cells.toArray _ rfl rfl HW.out rfl rfl op_info rfl (op_one v) ?_)
            | (refine wpList_load_mid rfl 39 _ rfl wr.heap.size 3 rfl v.c.cells _ HRC.out Tryz.underlying39 rfl cmd_info ?_)
            | (refine HWR.out.mono ?_))
          rintro e w5 ⟨rfl, hJ5, hK5⟩
          have hC5 : Blk w5 wr.heap.size 41 v.cells.toArray := hK5.blk HBK.out (by omega) (by omega)
          have hR5 : Rowed recE (fun b => b < w.heap.size) B 44 w5 ks (.slice ka ks.length kc) := HRO.out.keep (fun b hb hlt => hK5.block b hlt (by omega) (by omega)) hK5.size
          have HB5 := Lib.hid (HBW.out.trans (hK5.below hj hd HBW.out.size))
          have HJ5 := Lib.hid hJ5
          have hz5 := hK5.size
          clear x0 x1 x2
          have x1 := hC5.cell 1
          rw [show v.cells.toArray[1]? = some (.int .i64 v.label) from rfl] at x1
          have HR5 := Lib.hid hR5; have HC5 := Lib.hid (op_cmd hC5)
          --REST
          have hB5 : B ≤ w5.heap.size := by have := HWL.out; omega
          clear hJ5 hK5 hC5
          by_cases hK0 : K = 0
          · have t2 : ((K : Int) == 0) = true := by simp [hK0]
            --LEAF 1
            obtain ⟨H', hG', hn', ht', hx', hl', hK'⟩ := keep_write (i := i) HG.out HST.out (HKE0.out.symm.trans hK0) HKE.out HCI.out hnx hHl
            have HG' := Lib.hid hG'; have HN' := Lib.hid (hn'.trans HSN.out); have HT' := Lib.hid ht'; have HX' := Lib.hid hx'; have HL' := Lib.hid hl'; have HK' := Lib.hid hK'
            have HOW := Lib.hid (World.ownsRow.alloc hR5.items (.cells (Rc.mk 0 v.label v.c).cells.toArray 44))
            clear hK0 hG' hn' ht' hx' hl' hK' hR5
            go_wp2_with (first
              | (refine wpList_load_mid rfl 39 _ rfl wr.heap.size 3 rfl v.c.cells _ HC5.out Tryz.underlying39 rfl cmd_info ?_)
              | (refine wpList_build_as 44 _ (Rc.mk 0 v.label v.c).cells.toArray [(1, .int .i64 v.label), (2, .agg v.c.cells.toArray)] rfl rfl (by kernel_rfl) (built_rec v.label v.c) ?_)
              | (refine wpList_buildSliceAs 30 44 1 _ (Rc.mk 0 v.label v.c).cells.toArray [(0, .agg (Rc.mk 0 v.label v.c).cells.toArray)] rfl rfl (by kernel_rfl) Tryz.underlying30 (built_recs v.label v.c) ?_)
              | (refine wpList_append_any _ rfl _ _ 30 rfl B 44 i0 _ 19 232 Tryz.underlying30 HI0.out HIZ.out HIS.out HIB.out rfl (by decide) _ ks.length (recE.row ks) rfl HOW.out (w5.heap.size + 1) _ 1 1 _ rfl (recs_read w5 ⟨0, v.label, v.c⟩) (recE.one ⟨0, v.label, v.c⟩) (by unfold maxLen; omega) (by omega) (by simp; exact Nat.le_succ_of_le hB5) ?_
                 intro kv' w8 ho hg hor
                 have HM := Lib.hid (kept_more HB5.out hwB hB5 hjB hdB HJ5.out HR5.out HCI.out HLB.out ho hg hor)
                 obtain ⟨ka', kc', rfl⟩ := row_form ho
                 clear ho hg hor)
              | fail)
            go_roundw
            case rel => exact ⟨i + 1, by go_num, by omega, Lib.hid ⟨⟨_, H', r, _, HN'.out, HT'.out, HG'.out, HX'.out, HL'.out, HM.out.2.2.1, HK'.out, by simpa using HM.out.1⟩, HM.out.2.1, HM.out.2.2.2⟩⟩
            case measure => simp [intOf]; omega
          · have t2 : ((K : Int) == 0) = false := by simpa using hK0
            --LEAF 2
            have hJ6 := HJ5.out
            have hw : jWrite s v.label v.c.enc = s := by unfold jWrite; rw [if_neg (by rw [← HKE0.out]; exact hK0)]
            rw [hw] at hJ6
            have HJ6 := Lib.hid hJ6
            clear hK0 hJ6 hw hR5
            go_wp2
            go_roundw
            case rel => exact ⟨i + 1, by go_num, by omega, Lib.hid ⟨⟨s, H, r, ks, HSN.out, HST.out, HG.out, by omega, by omega, HJ6.out, HKE.out, HR5.out⟩, HB5.out, hB5⟩⟩
            case measure => simp [intOf]; omega
        · have t1 : ((v.kind : Int) == 1) = false := by simpa using hk1
          by_cases hk2 : v.kind = 2
          · have t2 : ((v.kind : Int) == 2) = true := by simp [hk2]
            clear hk1 hk2
            go_wp2_with (first
              | (refine wpList_load_mid rfl 41 _ rfl b (f + i * 20) rfl v.cells _ HRA.out Tryz.underlying41 rfl op_info ?_)
              | (refine wpList_store_new 41 _ _ v.cells.toArray _ rfl rfl HW.out rfl rfl op_info rfl (op_one v) ?_)
              | (refine wpList_load_mid rfl 39 _ rfl wr.heap.size 3 rfl v.c.cells _ HRC.out Tryz.underlying39 rfl cmd_info ?_)
              | (refine HCR.out.mono ?_))
            rintro e w5 ⟨rfl, hJ5, hK5⟩
            have hC5 : Blk w5 wr.heap.size 41 v.cells.toArray := hK5.blk HBK.out (by omega) (by omega)
            have hR5 : Rowed recE (fun b => b < w.heap.size) B 44 w5 ks (.slice ka ks.length kc) := HRO.out.keep (fun b hb hlt => hK5.block b hlt (by omega) (by omega)) hK5.size
            have HB5 := Lib.hid (HBW.out.trans (hK5.below hj hd HBW.out.size))
            have HJ5 := Lib.hid hJ5
            have hz5 := hK5.size
            clear x0 x1 x2
            have HR5 := Lib.hid hR5; have HC5 := Lib.hid hC5
            have hB5 : B ≤ w5.heap.size := by have := HWL.out; omega
            clear hJ5 hK5 hC5 hR5
            by_cases hK0 : K = 0
            · have t3 : ((K : Int) != 0) = false := by simp [hK0]
              obtain ⟨H', r', hG', hn', hs', hx', hl', hK'⟩ := keep_crash (i := i) (keep := v.keep) HG.out HST.out (HKE0.out.symm.trans hK0) HKE.out HCI.out hnx hHl
              have HRV := Lib.hid (recover_any sort_recs j d (jCrash s v.label v.c.enc v.keep) H' r' w5 HJ5.out hG'.hist (fun h hh => by have := hs' h hh; omega) (by omega))
              have HG' := Lib.hid (good_recover hG'); have HN' := Lib.hid (hn'.trans HSN.out); have HX' := Lib.hid hx'; have HL' := Lib.hid hl'; have HK' := Lib.hid hK'
              clear hK0 hG' hn' hs' hx' hl' hK'
              go_wp2_with fail
              refine HRV.out.mono ?_
              rintro e w6 ⟨B2, lv, us2, hB2, hB3', rfl, hK6, hJ6, hr6, hm6⟩
              obtain ⟨la, lc, rfl⟩ := hr6.form
              have hul : us2.length = H'.length := by simpa using congrArg List.length hm6
              have hC6 : Blk w6 wr.heap.size 41 v.cells.toArray := hK6.blk HC5.out (by omega) (by omega)
              have hR6 : Rowed recE (fun b => b < w.heap.size) B 44 w6 ks (.slice ka ks.length kc) := HR5.out.keep (fun b hb hlt => hK6.block b hlt (by omega) (by omega)) hK6.size
              have HB6 := Lib.hid (HB5.out.trans (hK6.below hj hd HB5.out.size))
              have HJ6 := Lib.hid hJ6
              have hz6 := hK6.size
              have x1 := hC6.cell 1
              rw [show v.cells.toArray[1]? = some (.int .i64 v.label) from rfl] at x1
              have HR6 := Lib.hid hR6; have HC6 := Lib.hid (op_cmd hC6)
              have HOW := Lib.hid (World.ownsRow.alloc hR6.items (.cells (Rc.mk 0 v.label v.c).cells.toArray 44))
              have hB6 : B ≤ w6.heap.size := by omega
              clear hJ6 hK6 hC6 hR6 hr6 hm6 HRV hB2 hB3'
              rcases HK'.out with ⟨hA, hKA⟩ | ⟨hA, hKA⟩
              · have hu2 : us2.length = ks.length + 1 := hul.trans hA
                --LEAF 3
                rw [hu2]
                have HKA := Lib.hid hKA
                clear hul hA hKA hu2 HK'
                go_wp2_with (first
                  | (refine wpList_load_mid rfl 39 _ rfl wr.heap.size 3 rfl v.c.cells _ HC6.out Tryz.underlying39 rfl cmd_info ?_)
                  | (refine wpList_build_as 44 _ (Rc.mk 0 v.label v.c).cells.toArray [(1, .int .i64 v.label), (2, .agg v.c.cells.toArray)] rfl rfl (by kernel_rfl) (built_rec v.label v.c) ?_)
                  | (refine wpList_buildSliceAs 30 44 1 _ (Rc.mk 0 v.label v.c).cells.toArray [(0, .agg (Rc.mk 0 v.label v.c).cells.toArray)] rfl rfl (by kernel_rfl) Tryz.underlying30 (built_recs v.label v.c) ?_)
                  | (refine wpList_append_any _ rfl _ _ 30 rfl B 44 i0 _ 19 232 Tryz.underlying30 HI0.out HIZ.out HIS.out HIB.out rfl (by decide) _ ks.length (recE.row ks) rfl HOW.out (w6.heap.size + 1) _ 1 1 _ rfl (recs_read w6 ⟨0, v.label, v.c⟩) (recE.one ⟨0, v.label, v.c⟩) (by unfold maxLen; omega) (by omega) (by simp; exact Nat.le_succ_of_le hB6) ?_
                     intro kv' w8 ho hg hor
                     have HM := Lib.hid (kept_more HB6.out hwB hB6 hjB hdB HJ6.out HR6.out HCI.out HLB.out ho hg hor)
                     obtain ⟨ka', kc', rfl⟩ := row_form ho
                     clear ho hg hor)
                  | fail)
                go_roundw
                case rel => exact ⟨i + 1, by go_num, by omega, Lib.hid ⟨⟨jRecover (jCrash s v.label v.c.enc v.keep) H', H', _, _, HN'.out, rfl, HG'.out, HX'.out, HL'.out, HM.out.2.2.1, HKA.out, by simpa using HM.out.1⟩, HM.out.2.1, HM.out.2.2.2⟩⟩
                case measure => simp [intOf]; omega
              · have hu2 : us2.length = ks.length := hul.trans hA
                --LEAF 4
                rw [hu2]
                have HKA := Lib.hid hKA
                clear hul hA hKA hu2 HK' x1
                go_wp2
                go_roundw
                case rel => exact ⟨i + 1, by go_num, by omega, Lib.hid ⟨⟨jRecover (jCrash s v.label v.c.enc v.keep) H', H', _, ks, HN'.out, rfl, HG'.out, HX'.out, HL'.out, HJ6.out, HKA.out, HR6.out⟩, HB6.out, hB6⟩⟩
                case measure => simp [intOf]; omega
            · have t3 : ((K : Int) != 0) = true := by simpa using hK0
              --LEAF 5
              have hJ6 := HJ5.out
              have hw : jCrash s v.label v.c.enc v.keep = s := by unfold jCrash; rw [if_neg (by rw [← HKE0.out]; exact hK0)]
              rw [hw] at hJ6
              have HJ6 := Lib.hid hJ6
              clear hK0 hJ6 hw
              go_wp2
              go_roundw
              case rel => exact ⟨i + 1, by go_num, by omega, Lib.hid ⟨⟨s, H, r, ks, HSN.out, HST.out, HG.out, by omega, by omega, HJ6.out, HKE.out, HR5.out⟩, HB5.out, hB5⟩⟩
              case measure => simp [intOf]; omega
          · have t2 : ((v.kind : Int) == 2) = false := by simpa using hk2
            --LEAF 6
            have HJ0 := Lib.hid HJ.out
            clear hk1 hk2
            go_wp2_with (first
              | (refine wpList_load_mid rfl 41 _ rfl b (f + i * 20) rfl v.cells _ HRA.out Tryz.underlying41 rfl op_info ?_)
              | (refine wpList_store_new 41 _ _ v.cells.toArray _ rfl rfl HW.out rfl rfl op_info rfl (op_one v) ?_)
              | fail)
            go_roundw
            case rel => exact ⟨i + 1, by go_num, by omega, Lib.hid ⟨⟨s, H, r, ks, HSN.out, HST.out, HG.out, by omega, by omega, HJ0.out, HKE.out, HRO.out⟩, HBW.out, by have := HWL.out; omega⟩⟩
            case measure => simp [intOf]; omega
      · obtain rfl : i = L := by omega
        --LEAF 7
        obtain ⟨s, H, r, ks, hsn, hst, hG, hnx, hHl, hJ, hKe, hRo⟩ := HK.out.ex
        have hBL := HK.out.below
        have hBs := HK.out.size
        have HRV := Lib.hid (recover_any sort_recs j d s H r wr hJ hG.hist (fun h hh => by have := hG.below h hh; rw [hst] at this; simp at this; omega) (by omega))
        obtain ⟨ka, kc, rfl⟩ := hRo.form
        have HUP := Lib.hid hG.hist.up; have HRO := Lib.hid hRo; have HKE := Lib.hid hKe; have HBL := Lib.hid hBL
        have t1 : decide ((i : Int) < (i : Int)) = false := by simp
        have hzr := hBL.size
        clear hG hJ hRo hKe hBL hst hsn hlt
        go_wp2_with fail
        refine HRV.out.mono ?_
        rintro e w6 ⟨B2, lv, us2, hB2, hB3', rfl, hK6, hJ6, hr6, hm6⟩
        obtain ⟨la, lc, rfl⟩ := hr6.form
        have hul : us2.length = ks.length := (by simpa using congrArg List.length hm6 : us2.length = H.length).trans HKE.out.len.symm
        have hR6 : Rowed recE (fun b => b < w.heap.size) B 44 w6 ks (.slice ka ks.length kc) := HRO.out.keep (fun b hb hlt => hK6.block b hlt (by omega) (by omega)) hK6.size
        have hzi := hK6.size
        have HB6 := Lib.hid (HBL.out.trans (hK6.below hj hd HBL.out.size))
        have HRW := Lib.hid hR6; have HRU := Lib.hid hr6; have HM6 := Lib.hid hm6
        obtain ⟨M, hM⟩ : ∃ M, M = ks.length := ⟨_, rfl⟩
        have hM3 : M ≤ 300 := by rw [hM, HKE.out.len]; omega
        rw [hul, ← hM]
        have HMK := Lib.hid hM; have HMU := Lib.hid (hM.trans hul.symm)
        clear hR6 hr6 hm6 hK6 hJ6 hul hM HRV HRO
        go_wp2_with fail
        go_loopw [106] (fun iv wr => ∃ k : Nat, iv = .int .i64 (k : Int) ∧ k ≤ M ∧ Hid (Below w6.heap.size w6 wr)) (fun iv _ => M - (intOf iv).toNat)
        case atStart => exact ⟨0, rfl, by omega, Lib.hid (Below.refl _ _)⟩
        case round =>
          obtain ⟨k, rfl, hkM, HBR⟩ := hrel
          by_cases hkl : k < M
          · have hku : k < us2.length := by rw [← HMU.out]; exact hkl
            have hkk : k < ks.length := by rw [← HMK.out]; exact hkl
            have hru := HRU.out.items
            obtain ⟨lg, rfl, hlc, hlB, hlg, hlr⟩ := rec_range hru hku
            have hrk := HRW.out.items
            obtain ⟨kg, rfl, hkc, hkB, hkg, hkr⟩ := rec_range hrk hkk
            rw [← HMU.out] at hlc
            rw [← HMK.out] at hkc
            obtain ⟨hlab, hcm⟩ := kept_same HKE.out HM6.out k hku hkk
            obtain ⟨X, hX⟩ : ∃ X, X = wr.heap.size := ⟨_, rfl⟩
            obtain ⟨W, hW⟩ : ∃ W, W = wr.alloc (.cells (us2[k]'hku).cells.toArray 44) := ⟨_, rfl⟩
            have hk0 : (0 : Int) ≤ (k : Int) := by omega
            have hk1 : (k : Int) < (M : Int) := by omega
            have HLR := Lib.hid (show wr.rangeAt lg (k * 19) (us2[k]'hku).cells from fun j v hv => (HBR.out.cell hlg).trans (hlr j v hv))
            have HSW : Hid ((fun Y => Below w6.heap.size w6 Y ∧ Blk Y X 44 (us2[k]'hku).cells.toArray) W.drew) := Lib.hid (by
              rw [hW, hX]
              exact ⟨(HBR.out.alloc HBR.out.size _).drew, (Blk.new _ _ _).drew⟩)
            have hlb2 : i64r (us2[k]'hku).label := (hr_in HRU.out hku).2.1
            have HF1 : Hid (∀ Y, (Below w6.heap.size w6 Y ∧ Blk Y X 44 (us2[k]'hku).cells.toArray) → Y.cell? ⟨X, 1, none⟩ = some (.int .i64 (us2[k]'hku).label)) := Lib.hid (fun Y hY => (hY.2.cell 1).trans rfl)
            have HF2 : Hid (∀ Y, (Below w6.heap.size w6 Y ∧ Blk Y X 44 (us2[k]'hku).cells.toArray) → Y.cell? ⟨kg, k * 19 + 1, none⟩ = some (.int .i64 (us2[k]'hku).label)) := Lib.hid (fun Y hY => by
              rw [hY.1.cell (p := ⟨kg, k * 19 + 1, none⟩) hkg, hkr 1 _ rfl, hlab])
            have HF3 : Hid (∀ Y, (Below w6.heap.size w6 Y ∧ Blk Y X 44 (us2[k]'hku).cells.toArray) → (Instr.loadAt 39 (.pointer (some ⟨X, 2, none⟩))).run Tryz.prog Y = .ok (us2[k]'hku).c.agg Y) := Lib.hid (fun Y hY =>
              run_loadAt_mid Y X 2 39 _ _ (by have := range_part (rc_range hY.2) (rc_cmd _); rwa [Nat.zero_add] at this) Tryz.underlying39 rfl cmd_info)
            have HF4 : Hid (∀ Y, (Below w6.heap.size w6 Y ∧ Blk Y X 44 (us2[k]'hku).cells.toArray) → (Instr.loadAt 39 (.pointer (some ⟨kg, k * 19 + 2, none⟩))).run Tryz.prog Y = .ok (ks[k]'hkk).c.agg Y) := Lib.hid (fun Y hY =>
              run_loadAt_mid Y kg (k * 19 + 2) 39 _ _ (fun j v hv => by rw [hY.1.cell (p := ⟨kg, k * 19 + 2 + j, none⟩) hkg]; exact range_part hkr (rc_cmd _) j v hv) Tryz.underlying39 rfl cmd_info)
            have HSC : Hid (∀ Y, (Below w6.heap.size w6 Y ∧ Blk Y X 44 (us2[k]'hku).cells.toArray) → Calls Tryz.prog 13 #[(us2[k]'hku).c.agg, (ks[k]'hkk).c.agg] Y fun e w' => BoolBelow true Y e w') := Lib.hid (fun Y hY => by
              have := samec_any (us2[k]'hku).c (ks[k]'hkk).c Y ((hr_in HRU.out hku).2.2.below hY.1) ((hr_in HRW.out hkk).2.2.below hY.1)
              rw [hcm] at this
              exact this)
            have HF5 : Hid (∀ Y, (Below w6.heap.size w6 Y ∧ Blk Y X 44 (us2[k]'hku).cells.toArray) → Y.cell? ⟨X, 0, none⟩ = some (.int .i64 (us2[k]'hku).seq)) := Lib.hid (fun Y hY => (hY.2.cell 0).trans rfl)
            have HW := Lib.hid hW
            obtain ⟨L1, hL1⟩ : ∃ L1, L1 = (us2[k]'hku).label := ⟨_, rfl⟩
            obtain ⟨A1, hA1⟩ : ∃ A1, A1 = (us2[k]'hku).c.agg := ⟨_, rfl⟩
            obtain ⟨A2, hA2⟩ : ∃ A2, A2 = (ks[k]'hkk).c.agg := ⟨_, rfl⟩
            obtain ⟨Q1, hQ1⟩ : ∃ Q1, Q1 = (us2[k]'hku).seq := ⟨_, rfl⟩
            rw [← hL1] at HF1 HF2
            rw [← hA1] at HF3 HSC
            rw [← hA2] at HF4 HSC
            rw [← hQ1] at HF5
            have hHX := Lib.hid hX; have HQ1 := Lib.hid hQ1; have HRS := Lib.hid hlr
            clear hlr hkr hlab hcm hW hX hru hrk hL1 hA1 hA2 hQ1 hlb2
            by_cases hz : k = 0
            · subst hz
              --LEAF 8
              have t2 : decide ((0 : Int) < ((0 : Nat) : Int)) = false := by simp
              go_upto_region 27 with (first
                | (refine wpList_load_mid rfl 44 _ rfl lg (0 * 19) rfl (us2[0]'hku).cells _ HLR.out Tryz.underlying44 rfl rec_info ?_)
                | (refine wpList_store_new 44 _ _ (us2[0]'hku).cells.toArray _ rfl rfl HW.out rfl rfl rec_info rfl (rec_one2 _) ?_; rw [← hHX.out])
                | fail)
              refine wp_region_held_drew (S := (fun Y => Below w6.heap.size w6 Y ∧ Blk Y X 44 (us2[0]'hku).cells.toArray)) (by kernel_rfl) (HSW.out) (fun hHeld => ?_)
              refine held_take (i := 0) (d := some 111) (v := ?_) rfl rfl (by kernel_rfl) (by kernel_rfl) (by kernel_rfl) (fun _ _ _ h => h) (by rfl) ?_ hHeld ?_
              rotate_left
              · (intro w hSw; (try dsimp only at hSw); go_simp; try with_reducible rfl)
              try simp only [Act.put, List.setIfInBounds_toArray, List.set_cons_zero, List.set_cons_succ]
              refine held_take (i := 1) (d := some 112) (v := ?_) rfl rfl (by kernel_rfl) (by kernel_rfl) (by kernel_rfl) (fun _ _ _ h => h) (by rfl) ?_ hHeld ?_
              rotate_left
              · (intro w hSw; (try dsimp only at hSw); have y1 := HF1.out w hSw; have y2 := HF2.out w hSw; go_simp; try with_reducible rfl)
              try simp only [Act.put, List.setIfInBounds_toArray, List.set_cons_zero, List.set_cons_succ]
              refine held_take (i := 2) (d := some 113) (v := ?_) rfl rfl (by kernel_rfl) (by kernel_rfl) (by kernel_rfl) (fun _ _ _ h => h) (by rfl) ?_ hHeld ?_
              rotate_left
              · (intro w hSw; (try dsimp only at hSw); go_simp; try with_reducible rfl)
              try simp only [Act.put, List.setIfInBounds_toArray, List.set_cons_zero, List.set_cons_succ]
              refine held_take (i := 3) (d := some 114) (v := ?_) rfl rfl (by kernel_rfl) (by kernel_rfl) (by kernel_rfl) (fun _ _ _ h => h) (by rfl) ?_ hHeld ?_
              rotate_left
              · (intro w hSw; (try dsimp only at hSw); go_simp; try with_reducible rfl)
              try simp only [Act.put, List.setIfInBounds_toArray, List.set_cons_zero, List.set_cons_succ]
              refine held_take (i := 4) (d := some 115) (v := ?_) rfl rfl (by kernel_rfl) (by kernel_rfl) (by kernel_rfl) (fun _ _ _ h => h) (by rfl) ?_ hHeld ?_
              rotate_left
              · (intro w hSw; (try dsimp only at hSw); go_simp; try with_reducible rfl)
              try simp only [Act.put, List.setIfInBounds_toArray, List.set_cons_zero, List.set_cons_succ]
              refine held_take (i := 5) (d := some 116) (v := ?_) rfl rfl (by kernel_rfl) (by kernel_rfl) (by kernel_rfl) (fun _ _ _ h => h) (by rfl) ?_ hHeld ?_
              rotate_left
              · (intro w hSw; (try dsimp only at hSw); go_simp; try with_reducible rfl)
              try simp only [Act.put, List.setIfInBounds_toArray, List.set_cons_zero, List.set_cons_succ]
              refine held_take (i := 6) (d := some 117) (v := ?_) rfl rfl (by kernel_rfl) (by kernel_rfl) (by kernel_rfl) (fun _ _ _ h => h) (by rfl) ?_ hHeld ?_
              rotate_left
              · (intro w hSw; (try dsimp only at hSw); have y1 := HF1.out w hSw; have y2 := HF2.out w hSw; go_simp; try with_reducible rfl)
              try simp only [Act.put, List.setIfInBounds_toArray, List.set_cons_zero, List.set_cons_succ]
              refine held_take (i := 7) (d := some 118) (v := ?_) rfl rfl (by kernel_rfl) (by kernel_rfl) (by kernel_rfl) (fun _ _ _ h => h) (by rfl) ?_ hHeld ?_
              rotate_left
              · (intro w hSw; (try dsimp only at hSw); go_simp; try with_reducible rfl)
              try simp only [Act.put, List.setIfInBounds_toArray, List.set_cons_zero, List.set_cons_succ]
              refine held_take (i := 8) (d := some 119) (v := ?_) rfl rfl (by kernel_rfl) (by kernel_rfl) (by kernel_rfl) (fun _ _ _ h => h) (by rfl) ?_ hHeld ?_
              rotate_left
              · (intro w hSw; (try dsimp only at hSw); go_simp; try with_reducible rfl)
              try simp only [Act.put, List.setIfInBounds_toArray, List.set_cons_zero, List.set_cons_succ]
              refine held_take (i := 9) (d := some 120) (v := ?_) rfl rfl (by kernel_rfl) (by kernel_rfl) (by kernel_rfl) (fun _ _ _ h => h) (by rfl) ?_ hHeld ?_
              rotate_left
              · (intro w hSw; (try dsimp only at hSw); go_simp; try with_reducible rfl)
              try simp only [Act.put, List.setIfInBounds_toArray, List.set_cons_zero, List.set_cons_succ]
              refine held_take (i := 10) (d := some 121) (v := A1) rfl rfl (by kernel_rfl) (by kernel_rfl) (by kernel_rfl) (fun _ _ _ h => h) (by rfl) (fun w hSw => exec_load _ _ rfl (HF3.out w hSw)) hHeld ?_
              try simp only [Act.put, List.setIfInBounds_toArray, List.set_cons_zero, List.set_cons_succ]
              refine held_take (i := 11) (d := some 122) (v := ?_) rfl rfl (by kernel_rfl) (by kernel_rfl) (by kernel_rfl) (fun _ _ _ h => h) (by rfl) ?_ hHeld ?_
              rotate_left
              · (intro w hSw; (try dsimp only at hSw); go_simp; try with_reducible rfl)
              try simp only [Act.put, List.setIfInBounds_toArray, List.set_cons_zero, List.set_cons_succ]
              refine held_take (i := 12) (d := some 123) (v := ?_) rfl rfl (by kernel_rfl) (by kernel_rfl) (by kernel_rfl) (fun _ _ _ h => h) (by rfl) ?_ hHeld ?_
              rotate_left
              · (intro w hSw; (try dsimp only at hSw); go_simp; try with_reducible rfl)
              try simp only [Act.put, List.setIfInBounds_toArray, List.set_cons_zero, List.set_cons_succ]
              refine held_take (i := 13) (d := some 124) (v := ?_) rfl rfl (by kernel_rfl) (by kernel_rfl) (by kernel_rfl) (fun _ _ _ h => h) (by rfl) ?_ hHeld ?_
              rotate_left
              · (intro w hSw; (try dsimp only at hSw); go_simp; try with_reducible rfl)
              try simp only [Act.put, List.setIfInBounds_toArray, List.set_cons_zero, List.set_cons_succ]
              refine held_take (i := 14) (d := some 125) (v := ?_) rfl rfl (by kernel_rfl) (by kernel_rfl) (by kernel_rfl) (fun _ _ _ h => h) (by rfl) ?_ hHeld ?_
              rotate_left
              · (intro w hSw; (try dsimp only at hSw); go_simp; try with_reducible rfl)
              try simp only [Act.put, List.setIfInBounds_toArray, List.set_cons_zero, List.set_cons_succ]
              refine held_take (i := 15) (d := some 126) (v := A2) rfl rfl (by kernel_rfl) (by kernel_rfl) (by kernel_rfl) (fun _ _ _ h => h) (by rfl) (fun w hSw => exec_load _ _ rfl (HF4.out w hSw)) hHeld ?_
              try simp only [Act.put, List.setIfInBounds_toArray, List.set_cons_zero, List.set_cons_succ]
              refine held_only (i := 16) (by kernel_rfl) rfl (by rfl) (fun K hK => ?_)
              go_simp
              go_at_call 13
              refine (HSC.out _ hHeld).mono ?_
              rintro e9 w9 ⟨rfl, hb9⟩
              refine hK.out _ _ ⟨hHeld.1.trans (hb9.mono hHeld.1.size), hHeld.2.below hb9 hHeld.2.lt⟩ (fun hHeld => ?_)
              clear hK K hb9
              try simp only [Act.put, List.setIfInBounds_toArray, List.set_cons_zero, List.set_cons_succ]
              refine held_take (i := 17) (d := some 128) (v := ?_) rfl rfl (by kernel_rfl) (by kernel_rfl) (by kernel_rfl) (fun _ _ _ h => h) (by rfl) ?_ hHeld ?_
              rotate_left
              · (intro w hSw; (try dsimp only at hSw); go_simp; try with_reducible rfl)
              try simp only [Act.put, List.setIfInBounds_toArray, List.set_cons_zero, List.set_cons_succ]
              refine held_take (i := 18) (d := some 129) (v := ?_) rfl rfl (by kernel_rfl) (by kernel_rfl) (by kernel_rfl) (fun _ _ _ h => h) (by rfl) ?_ hHeld ?_
              rotate_left
              · (intro w hSw; (try dsimp only at hSw); go_simp; try with_reducible rfl)
              try simp only [Act.put, List.setIfInBounds_toArray, List.set_cons_zero, List.set_cons_succ]
              refine held_take (i := 19) (d := some 130) (v := ?_) rfl rfl (by kernel_rfl) (by kernel_rfl) (by kernel_rfl) (fun _ _ _ h => h) (by rfl) ?_ hHeld ?_
              rotate_left
              · (intro w hSw; (try dsimp only at hSw); go_simp; try with_reducible rfl)
              try simp only [Act.put, List.setIfInBounds_toArray, List.set_cons_zero, List.set_cons_succ]
              refine held_take (i := 20) (d := some 131) (v := ?_) rfl rfl (by kernel_rfl) (by kernel_rfl) (by kernel_rfl) (fun _ _ _ h => h) (by rfl) ?_ hHeld ?_
              rotate_left
              · (intro w hSw; (try dsimp only at hSw); go_simp; try with_reducible rfl)
              try simp only [Act.put, List.setIfInBounds_toArray, List.set_cons_zero, List.set_cons_succ]
              refine held_take (i := 21) (d := some 132) (v := ?_) rfl rfl (by kernel_rfl) (by kernel_rfl) (by kernel_rfl) (fun _ _ _ h => h) (by rfl) ?_ hHeld ?_
              rotate_left
              · (intro w hSw; (try dsimp only at hSw); go_simp; try with_reducible rfl)
              try simp only [Act.put, List.setIfInBounds_toArray, List.set_cons_zero, List.set_cons_succ]
              refine held_take (i := 22) (d := some 133) (v := ?_) rfl rfl (by kernel_rfl) (by kernel_rfl) (by kernel_rfl) (fun _ _ _ h => h) (by rfl) ?_ hHeld ?_
              rotate_left
              · (intro w hSw; (try dsimp only at hSw); go_simp; try with_reducible rfl)
              try simp only [Act.put, List.setIfInBounds_toArray, List.set_cons_zero, List.set_cons_succ]
              refine held_skip (i := 23) (d := some 134) rfl rfl (by kernel_rfl) (by kernel_rfl) (by kernel_rfl) (fun _ _ _ h => h) (by rfl) hHeld ?_
              try simp only [Act.put, List.setIfInBounds_toArray, List.set_cons_zero, List.set_cons_succ]
              refine held_skip (i := 24) (d := some 135) rfl rfl (by kernel_rfl) (by kernel_rfl) (by kernel_rfl) (fun _ _ _ h => h) (by rfl) hHeld ?_
              try simp only [Act.put, List.setIfInBounds_toArray, List.set_cons_zero, List.set_cons_succ]
              refine held_skip (i := 25) (d := some 136) rfl rfl (by kernel_rfl) (by kernel_rfl) (by kernel_rfl) (fun _ _ _ h => h) (by rfl) hHeld ?_
              try simp only [Act.put, List.setIfInBounds_toArray, List.set_cons_zero, List.set_cons_succ]
              refine held_skip (i := 26) (d := some 137) rfl rfl (by kernel_rfl) (by kernel_rfl) (by kernel_rfl) (fun _ _ _ h => h) (by rfl) hHeld ?_
              try simp only [Act.put, List.setIfInBounds_toArray, List.set_cons_zero, List.set_cons_succ]
              refine held_skip (i := 27) (d := some 138) rfl rfl (by kernel_rfl) (by kernel_rfl) (by kernel_rfl) (fun _ _ _ h => h) (by rfl) hHeld ?_
              try simp only [Act.put, List.setIfInBounds_toArray, List.set_cons_zero, List.set_cons_succ]
              refine held_skip (i := 28) (d := some 139) rfl rfl (by kernel_rfl) (by kernel_rfl) (by kernel_rfl) (fun _ _ _ h => h) (by rfl) hHeld ?_
              try simp only [Act.put, List.setIfInBounds_toArray, List.set_cons_zero, List.set_cons_succ]
              refine held_skip (i := 29) (d := some 140) rfl rfl (by kernel_rfl) (by kernel_rfl) (by kernel_rfl) (fun _ _ _ h => h) (by rfl) hHeld ?_
              try simp only [Act.put, List.setIfInBounds_toArray, List.set_cons_zero, List.set_cons_succ]
              refine held_skip (i := 30) (d := some 141) rfl rfl (by kernel_rfl) (by kernel_rfl) (by kernel_rfl) (fun _ _ _ h => h) (by rfl) hHeld ?_
              try simp only [Act.put, List.setIfInBounds_toArray, List.set_cons_zero, List.set_cons_succ]
              refine held_skip (i := 31) (d := some 142) rfl rfl (by kernel_rfl) (by kernel_rfl) (by kernel_rfl) (fun _ _ _ h => h) (by rfl) hHeld ?_
              try simp only [Act.put, List.setIfInBounds_toArray, List.set_cons_zero, List.set_cons_succ]
              refine held_take (i := 32) (d := some 143) (v := ?_) rfl rfl (by kernel_rfl) (by kernel_rfl) (by kernel_rfl) (fun _ _ _ h => h) (by rfl) ?_ hHeld ?_
              rotate_left
              · (intro w hSw; (try dsimp only at hSw); go_simp; try with_reducible rfl)
              try simp only [Act.put, List.setIfInBounds_toArray, List.set_cons_zero, List.set_cons_succ]
              refine held_take (i := 33) (d := some 144) (v := ?_) rfl rfl (by kernel_rfl) (by kernel_rfl) (by kernel_rfl) (fun _ _ _ h => h) (by rfl) ?_ hHeld ?_
              rotate_left
              · (intro w hSw; (try dsimp only at hSw); go_simp; try with_reducible rfl)
              try simp only [Act.put, List.setIfInBounds_toArray, List.set_cons_zero, List.set_cons_succ]
              refine wpAnyH_done (by kernel_rfl) ?_ _
              have HBF := Lib.hid hHeld.1
              clear hHeld
              go_wp2
              go_roundw
              case rel => exact ⟨0 + 1, by go_num, by omega, HBF⟩
              case measure => simp [intOf]; omega
            · obtain ⟨q, rfl⟩ : ∃ q, k = q + 1 := ⟨k - 1, by omega⟩
              --LEAF 9
              have hqu : q < us2.length := by omega
              have HF6 : Hid (∀ Y, (Below w6.heap.size w6 Y ∧ Blk Y X 44 (us2[q + 1]'hku).cells.toArray) → Y.cell? ⟨lg, q * 19, none⟩ = some (.int .i64 (us2[q]'hqu).seq)) := Lib.hid (fun Y hY => by
                rw [hY.1.cell (p := ⟨lg, q * 19, none⟩) hlg]
                obtain ⟨lg', e, _, _, _, hr'⟩ := rec_range HRU.out.items hqu
                injection e with e; injection e with e
                subst e
                exact hr' 0 _ rfl)
              have hrise := seqs_rise HUP.out HM6.out q hku
              rw [← HQ1.out] at hrise
              obtain ⟨Q2, hQ2⟩ : ∃ Q2, Q2 = (us2[q]'hqu).seq := ⟨_, rfl⟩
              rw [← hQ2] at HF6 hrise
              have t2 : decide ((0 : Int) < ((q + 1 : Nat) : Int)) = true := decide_eq_true (by omega)
              have t3 : decide (Q1 ≤ Q2) = false := by simp; omega
              have hw1 : IntKind.i64.wrap (q : Int) = (q : Int) := IntWalk.i64_in _ (by omega)
              have hq1 : (q : Int) < (M : Int) := by omega
              have hk2 : (0 : Int) ≤ (q : Int) + 1 := by omega
              have hk3 : (q : Int) + 1 < (M : Int) := by omega
              have hq0 : (0 : Int) ≤ (q : Int) := by omega
              clear hrise hQ2 hz
              go_upto_region 27 with (first
                | (refine wpList_load_mid rfl 44 _ rfl lg ((q + 1) * 19) rfl (us2[q + 1]'hku).cells _ HLR.out Tryz.underlying44 rfl rec_info ?_)
                | (refine wpList_store_new 44 _ _ (us2[q + 1]'hku).cells.toArray _ rfl rfl HW.out rfl rfl rec_info rfl (rec_one2 _) ?_; rw [← hHX.out])
                | fail)
              refine wp_region_held_drew (S := (fun Y => Below w6.heap.size w6 Y ∧ Blk Y X 44 (us2[q + 1]'hku).cells.toArray)) (by kernel_rfl) (HSW.out) (fun hHeld => ?_)
              refine held_take (i := 0) (d := some 111) (v := ?_) rfl rfl (by kernel_rfl) (by kernel_rfl) (by kernel_rfl) (fun _ _ _ h => h) (by rfl) ?_ hHeld ?_
              rotate_left
              · (intro w hSw; (try dsimp only at hSw); go_simp; try with_reducible rfl)
              try simp only [Act.put, List.setIfInBounds_toArray, List.set_cons_zero, List.set_cons_succ]
              refine held_take (i := 1) (d := some 112) (v := ?_) rfl rfl (by kernel_rfl) (by kernel_rfl) (by kernel_rfl) (fun _ _ _ h => h) (by rfl) ?_ hHeld ?_
              rotate_left
              · (intro w hSw; (try dsimp only at hSw); have y1 := HF1.out w hSw; have y2 := HF2.out w hSw; go_simp; try with_reducible rfl)
              try simp only [Act.put, List.setIfInBounds_toArray, List.set_cons_zero, List.set_cons_succ]
              refine held_take (i := 2) (d := some 113) (v := ?_) rfl rfl (by kernel_rfl) (by kernel_rfl) (by kernel_rfl) (fun _ _ _ h => h) (by rfl) ?_ hHeld ?_
              rotate_left
              · (intro w hSw; (try dsimp only at hSw); go_simp; try with_reducible rfl)
              try simp only [Act.put, List.setIfInBounds_toArray, List.set_cons_zero, List.set_cons_succ]
              refine held_take (i := 3) (d := some 114) (v := ?_) rfl rfl (by kernel_rfl) (by kernel_rfl) (by kernel_rfl) (fun _ _ _ h => h) (by rfl) ?_ hHeld ?_
              rotate_left
              · (intro w hSw; (try dsimp only at hSw); go_simp; try with_reducible rfl)
              try simp only [Act.put, List.setIfInBounds_toArray, List.set_cons_zero, List.set_cons_succ]
              refine held_take (i := 4) (d := some 115) (v := ?_) rfl rfl (by kernel_rfl) (by kernel_rfl) (by kernel_rfl) (fun _ _ _ h => h) (by rfl) ?_ hHeld ?_
              rotate_left
              · (intro w hSw; (try dsimp only at hSw); go_simp; try with_reducible rfl)
              try simp only [Act.put, List.setIfInBounds_toArray, List.set_cons_zero, List.set_cons_succ]
              refine held_take (i := 5) (d := some 116) (v := ?_) rfl rfl (by kernel_rfl) (by kernel_rfl) (by kernel_rfl) (fun _ _ _ h => h) (by rfl) ?_ hHeld ?_
              rotate_left
              · (intro w hSw; (try dsimp only at hSw); go_simp; try with_reducible rfl)
              try simp only [Act.put, List.setIfInBounds_toArray, List.set_cons_zero, List.set_cons_succ]
              refine held_take (i := 6) (d := some 117) (v := ?_) rfl rfl (by kernel_rfl) (by kernel_rfl) (by kernel_rfl) (fun _ _ _ h => h) (by rfl) ?_ hHeld ?_
              rotate_left
              · (intro w hSw; (try dsimp only at hSw); have y1 := HF1.out w hSw; have y2 := HF2.out w hSw; go_simp; try with_reducible rfl)
              try simp only [Act.put, List.setIfInBounds_toArray, List.set_cons_zero, List.set_cons_succ]
              refine held_take (i := 7) (d := some 118) (v := ?_) rfl rfl (by kernel_rfl) (by kernel_rfl) (by kernel_rfl) (fun _ _ _ h => h) (by rfl) ?_ hHeld ?_
              rotate_left
              · (intro w hSw; (try dsimp only at hSw); go_simp; try with_reducible rfl)
              try simp only [Act.put, List.setIfInBounds_toArray, List.set_cons_zero, List.set_cons_succ]
              refine held_take (i := 8) (d := some 119) (v := ?_) rfl rfl (by kernel_rfl) (by kernel_rfl) (by kernel_rfl) (fun _ _ _ h => h) (by rfl) ?_ hHeld ?_
              rotate_left
              · (intro w hSw; (try dsimp only at hSw); go_simp; try with_reducible rfl)
              try simp only [Act.put, List.setIfInBounds_toArray, List.set_cons_zero, List.set_cons_succ]
              refine held_take (i := 9) (d := some 120) (v := ?_) rfl rfl (by kernel_rfl) (by kernel_rfl) (by kernel_rfl) (fun _ _ _ h => h) (by rfl) ?_ hHeld ?_
              rotate_left
              · (intro w hSw; (try dsimp only at hSw); go_simp; try with_reducible rfl)
              try simp only [Act.put, List.setIfInBounds_toArray, List.set_cons_zero, List.set_cons_succ]
              refine held_take (i := 10) (d := some 121) (v := A1) rfl rfl (by kernel_rfl) (by kernel_rfl) (by kernel_rfl) (fun _ _ _ h => h) (by rfl) (fun w hSw => exec_load _ _ rfl (HF3.out w hSw)) hHeld ?_
              try simp only [Act.put, List.setIfInBounds_toArray, List.set_cons_zero, List.set_cons_succ]
              refine held_take (i := 11) (d := some 122) (v := ?_) rfl rfl (by kernel_rfl) (by kernel_rfl) (by kernel_rfl) (fun _ _ _ h => h) (by rfl) ?_ hHeld ?_
              rotate_left
              · (intro w hSw; (try dsimp only at hSw); go_simp; try with_reducible rfl)
              try simp only [Act.put, List.setIfInBounds_toArray, List.set_cons_zero, List.set_cons_succ]
              refine held_take (i := 12) (d := some 123) (v := ?_) rfl rfl (by kernel_rfl) (by kernel_rfl) (by kernel_rfl) (fun _ _ _ h => h) (by rfl) ?_ hHeld ?_
              rotate_left
              · (intro w hSw; (try dsimp only at hSw); go_simp; try with_reducible rfl)
              try simp only [Act.put, List.setIfInBounds_toArray, List.set_cons_zero, List.set_cons_succ]
              refine held_take (i := 13) (d := some 124) (v := ?_) rfl rfl (by kernel_rfl) (by kernel_rfl) (by kernel_rfl) (fun _ _ _ h => h) (by rfl) ?_ hHeld ?_
              rotate_left
              · (intro w hSw; (try dsimp only at hSw); go_simp; try with_reducible rfl)
              try simp only [Act.put, List.setIfInBounds_toArray, List.set_cons_zero, List.set_cons_succ]
              refine held_take (i := 14) (d := some 125) (v := ?_) rfl rfl (by kernel_rfl) (by kernel_rfl) (by kernel_rfl) (fun _ _ _ h => h) (by rfl) ?_ hHeld ?_
              rotate_left
              · (intro w hSw; (try dsimp only at hSw); go_simp; try with_reducible rfl)
              try simp only [Act.put, List.setIfInBounds_toArray, List.set_cons_zero, List.set_cons_succ]
              refine held_take (i := 15) (d := some 126) (v := A2) rfl rfl (by kernel_rfl) (by kernel_rfl) (by kernel_rfl) (fun _ _ _ h => h) (by rfl) (fun w hSw => exec_load _ _ rfl (HF4.out w hSw)) hHeld ?_
              try simp only [Act.put, List.setIfInBounds_toArray, List.set_cons_zero, List.set_cons_succ]
              refine held_only (i := 16) (by kernel_rfl) rfl (by rfl) (fun K hK => ?_)
              go_simp
              go_at_call 13
              refine (HSC.out _ hHeld).mono ?_
              rintro e9 w9 ⟨rfl, hb9⟩
              refine hK.out _ _ ⟨hHeld.1.trans (hb9.mono hHeld.1.size), hHeld.2.below hb9 hHeld.2.lt⟩ (fun hHeld => ?_)
              clear hK K hb9
              try simp only [Act.put, List.setIfInBounds_toArray, List.set_cons_zero, List.set_cons_succ]
              refine held_take (i := 17) (d := some 128) (v := ?_) rfl rfl (by kernel_rfl) (by kernel_rfl) (by kernel_rfl) (fun _ _ _ h => h) (by rfl) ?_ hHeld ?_
              rotate_left
              · (intro w hSw; (try dsimp only at hSw); go_simp; try with_reducible rfl)
              try simp only [Act.put, List.setIfInBounds_toArray, List.set_cons_zero, List.set_cons_succ]
              refine held_take (i := 18) (d := some 129) (v := ?_) rfl rfl (by kernel_rfl) (by kernel_rfl) (by kernel_rfl) (fun _ _ _ h => h) (by rfl) ?_ hHeld ?_
              rotate_left
              · (intro w hSw; (try dsimp only at hSw); go_simp; try with_reducible rfl)
              try simp only [Act.put, List.setIfInBounds_toArray, List.set_cons_zero, List.set_cons_succ]
              refine held_take (i := 19) (d := some 130) (v := ?_) rfl rfl (by kernel_rfl) (by kernel_rfl) (by kernel_rfl) (fun _ _ _ h => h) (by rfl) ?_ hHeld ?_
              rotate_left
              · (intro w hSw; (try dsimp only at hSw); go_simp; try with_reducible rfl)
              try simp only [Act.put, List.setIfInBounds_toArray, List.set_cons_zero, List.set_cons_succ]
              refine held_take (i := 20) (d := some 131) (v := ?_) rfl rfl (by kernel_rfl) (by kernel_rfl) (by kernel_rfl) (fun _ _ _ h => h) (by rfl) ?_ hHeld ?_
              rotate_left
              · (intro w hSw; (try dsimp only at hSw); go_simp; try with_reducible rfl)
              try simp only [Act.put, List.setIfInBounds_toArray, List.set_cons_zero, List.set_cons_succ]
              refine held_take (i := 21) (d := some 132) (v := ?_) rfl rfl (by kernel_rfl) (by kernel_rfl) (by kernel_rfl) (fun _ _ _ h => h) (by rfl) ?_ hHeld ?_
              rotate_left
              · (intro w hSw; (try dsimp only at hSw); go_simp; try with_reducible rfl)
              try simp only [Act.put, List.setIfInBounds_toArray, List.set_cons_zero, List.set_cons_succ]
              refine held_take (i := 22) (d := some 133) (v := ?_) rfl rfl (by kernel_rfl) (by kernel_rfl) (by kernel_rfl) (fun _ _ _ h => h) (by rfl) ?_ hHeld ?_
              rotate_left
              · (intro w hSw; (try dsimp only at hSw); go_simp; try with_reducible rfl)
              try simp only [Act.put, List.setIfInBounds_toArray, List.set_cons_zero, List.set_cons_succ]
              refine held_take (i := 23) (d := some 134) (v := ?_) rfl rfl (by kernel_rfl) (by kernel_rfl) (by kernel_rfl) (fun _ _ _ h => h) (by rfl) ?_ hHeld ?_
              rotate_left
              · (intro w hSw; (try dsimp only at hSw); go_simp; try with_reducible rfl)
              try simp only [Act.put, List.setIfInBounds_toArray, List.set_cons_zero, List.set_cons_succ]
              refine held_take (i := 24) (d := some 135) (v := ?_) rfl rfl (by kernel_rfl) (by kernel_rfl) (by kernel_rfl) (fun _ _ _ h => h) (by rfl) ?_ hHeld ?_
              rotate_left
              · (intro w hSw; (try dsimp only at hSw); go_simp; try with_reducible rfl)
              try simp only [Act.put, List.setIfInBounds_toArray, List.set_cons_zero, List.set_cons_succ]
              refine held_take (i := 25) (d := some 136) (v := ?_) rfl rfl (by kernel_rfl) (by kernel_rfl) (by kernel_rfl) (fun _ _ _ h => h) (by rfl) ?_ hHeld ?_
              rotate_left
              · (intro w hSw; (try dsimp only at hSw); go_simp; try with_reducible rfl)
              try simp only [Act.put, List.setIfInBounds_toArray, List.set_cons_zero, List.set_cons_succ]
              refine held_take (i := 26) (d := some 137) (v := ?_) rfl rfl (by kernel_rfl) (by kernel_rfl) (by kernel_rfl) (fun _ _ _ h => h) (by rfl) ?_ hHeld ?_
              rotate_left
              · (intro w hSw; (try dsimp only at hSw); go_simp; try with_reducible rfl)
              try simp only [Act.put, List.setIfInBounds_toArray, List.set_cons_zero, List.set_cons_succ]
              refine held_take (i := 27) (d := some 138) (v := ?_) rfl rfl (by kernel_rfl) (by kernel_rfl) (by kernel_rfl) (fun _ _ _ h => h) (by rfl) ?_ hHeld ?_
              rotate_left
              · (intro w hSw; (try dsimp only at hSw); go_simp; try with_reducible rfl)
              try simp only [Act.put, List.setIfInBounds_toArray, List.set_cons_zero, List.set_cons_succ]
              refine held_take (i := 28) (d := some 139) (v := ?_) rfl rfl (by kernel_rfl) (by kernel_rfl) (by kernel_rfl) (fun _ _ _ h => h) (by rfl) ?_ hHeld ?_
              rotate_left
              · (intro w hSw; (try dsimp only at hSw); have y1 := HF5.out w hSw; have y2 := HF6.out w hSw; go_simp; try with_reducible rfl)
              try simp only [Act.put, List.setIfInBounds_toArray, List.set_cons_zero, List.set_cons_succ]
              refine held_take (i := 29) (d := some 140) (v := ?_) rfl rfl (by kernel_rfl) (by kernel_rfl) (by kernel_rfl) (fun _ _ _ h => h) (by rfl) ?_ hHeld ?_
              rotate_left
              · (intro w hSw; (try dsimp only at hSw); go_simp; try with_reducible rfl)
              try simp only [Act.put, List.setIfInBounds_toArray, List.set_cons_zero, List.set_cons_succ]
              refine held_take (i := 30) (d := some 141) (v := ?_) rfl rfl (by kernel_rfl) (by kernel_rfl) (by kernel_rfl) (fun _ _ _ h => h) (by rfl) ?_ hHeld ?_
              rotate_left
              · (intro w hSw; (try dsimp only at hSw); have y1 := HF5.out w hSw; have y2 := HF6.out w hSw; go_simp; try with_reducible rfl)
              try simp only [Act.put, List.setIfInBounds_toArray, List.set_cons_zero, List.set_cons_succ]
              refine held_take (i := 31) (d := some 142) (v := ?_) rfl rfl (by kernel_rfl) (by kernel_rfl) (by kernel_rfl) (fun _ _ _ h => h) (by rfl) ?_ hHeld ?_
              rotate_left
              · (intro w hSw; (try dsimp only at hSw); go_simp; try with_reducible rfl)
              try simp only [Act.put, List.setIfInBounds_toArray, List.set_cons_zero, List.set_cons_succ]
              refine held_take (i := 32) (d := some 143) (v := ?_) rfl rfl (by kernel_rfl) (by kernel_rfl) (by kernel_rfl) (fun _ _ _ h => h) (by rfl) ?_ hHeld ?_
              rotate_left
              · (intro w hSw; (try dsimp only at hSw); go_simp; try with_reducible rfl)
              try simp only [Act.put, List.setIfInBounds_toArray, List.set_cons_zero, List.set_cons_succ]
              refine held_take (i := 33) (d := some 144) (v := ?_) rfl rfl (by kernel_rfl) (by kernel_rfl) (by kernel_rfl) (fun _ _ _ h => h) (by rfl) ?_ hHeld ?_
              rotate_left
              · (intro w hSw; (try dsimp only at hSw); go_simp; try with_reducible rfl)
              try simp only [Act.put, List.setIfInBounds_toArray, List.set_cons_zero, List.set_cons_succ]
              refine wpAnyH_done (by kernel_rfl) ?_ _
              have HBF := Lib.hid hHeld.1
              clear hHeld
              go_wp2
              go_roundw
              case rel => exact ⟨q + 1 + 1, by go_num, by omega, HBF⟩
              case measure => simp [intOf]; omega
          · obtain rfl : k = M := by omega
            --LEAF 10
            have t2 : decide ((k : Int) < (k : Int)) = false := by simp
            clear hkl
            go_wp2
            go_ret
            exact ⟨rfl, HB6.out.trans (HBR.out.mono HB6.out.size)⟩

set_option maxRecDepth 100000 in
theorem walk {H : Type} {enc : TypeId × Value → H} {W : World} {base : Nat} {args : Array Value} {ds : List (DataW H)} {ps : List MemPlace}
    (h : Handed enc Tryz.prog W base Tryz.f3.params.toList args ds ps) : Calls Tryz.prog 3 args W fun e w' => TrueBelow W e w' := by
  rw [Tryz.params3] at h
  have hval := h.val
  obtain ⟨v0, vs0, d0, ds0, p0, q0, hargs, rfl, rfl, h0, r0⟩ := trodAll_cons h.trod
  obtain ⟨v1, vs1, d1, ds1, p1, q1, rfl, rfl, rfl, h1, r1⟩ := trodAll_cons r0
  obtain ⟨rfl, rfl, rfl⟩ := trodAll_nil r1
  obtain rfl : args = #[v0, v1] := by cases args; simp_all
  obtain ⟨a0, rfl, rfl, rfl, w0⟩ := open_int Tryz.underlying3 (hval 0 3 v0 rfl rfl) h0
  obtain ⟨us, vp, c, rfl, hv⟩ := arg_jops (hval 1 22 v1 rfl rfl) h1 1 h.fits rfl rfl
  exact law_any a0 us vp c W hv


set_option maxRecDepth 100000 in
theorem lifted (os : Os) (started : os.Started) (H : Type) (enc : TypeId × Value → H) :
    ReturnsInHanded {} Tryz.checked os 3 .any (Rows.journalKeepsSpec.pre6 enc Tryz.prog Tryz.f3 Rows.journalKeepsRow.domain false) (Rows.journalKeepsSpec.post enc Tryz.prog Tryz.f3 false true false false) := by
  refine returnsInHanded_of_change_sized (C := Tryz.checked) own started (by kernel_rfl) Tryz.func3
    (ChangeSpec.witness6 (enc := enc) (C := Tryz.checked) false ⟨#[], #[.int .i64 0, .slice none 0 0], []⟩ 8 (by kernel_rfl) (by kernel_rfl) (by kernel_rfl) (by kernel_rfl)) ?_
  intro W base args ds gs before hval hW _ hsz _
  refine (walk (handed_of hval hW rfl rfl hsz)).mono fun e W' ⟨he, hb⟩ => ?_
  subst he
  exact ⟨_, rfl, law_post hW rfl laidOut (by kernel_rfl) rfl Tryz.underlying4 (fun ds' h => by match ds', h with | [_, _], _ => rfl) hb⟩

theorem over : Rows.journalKeepsRow.holds Tryz.pinned (OpenSpec.ofChange Rows.journalKeepsSpec) :=
  OpenClaim.holds_of_wide 3 Tryz.f3 rfl rfl rfl rfl rfl rfl rfl ⟨rfl, rfl, rfl, rfl, rfl⟩ rfl rfl rfl rfl rfl (by kernel_rfl) Tryz.func3 (by kernel_rfl)
    (of_decide_eq_true (by kernel_rfl)) (by unfold Func.isWrapper; first | (rw [if_pos (by decide +kernel)]; kernel_rfl) | (rw [if_neg (by decide +kernel)]; exact ⟨rfl, rfl⟩))
    (fun os started H enc _ => lifted os started H enc)

theorem proved : Rows.JournalKeepsSaid :=
  over
#print axioms proved
end Go.Proofs.YtaamihdibpioaaaGreat.journalKeeps
