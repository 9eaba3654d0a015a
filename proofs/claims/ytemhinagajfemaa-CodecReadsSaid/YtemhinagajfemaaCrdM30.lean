/- The document's reader: lists and records (printed by wip/gen_refrd.py). -/
import Derived.Test.YtemhinagajfemaaCrdM29
import Derived.BigGuardPart
namespace Go.Proofs.Ytemhinagajfemaa
set_option linter.unusedVariables false
open Go.RowKit


set_option maxHeartbeats 4000000 in
set_option maxRecDepth 100000 in
theorem fV_list (s : ByteArray) (hs : s.size ≤ 100000) (d p m deep g : Nat) (w : World) (hd : deep + d = 12) (hp : p ≤ s.size) (hm : m ≤ 200) (hm1 : m + 1 ≤ 200) (hin : p < s.size) (hk : (byteAt s p).toNat = 5) (ih : ∀ (k : Int) (p m g : Nat) (w : World), p ≤ s.size → m ≤ 200 → RAt w g s p k (m : Int) → Calls Try.prog 81 #[.pointer (some ⟨g, 0, none⟩), .int .i64 ((deep : Int) + 1)] w fun e w' => FValD s d p m k g w e w') (h : RAt w g s p 0 (m : Int)) :
    Calls Try.prog 81 #[.pointer (some ⟨g, 0, none⟩), .int .i64 deep] w fun e w' => FValD s (d + 1) p m 0 g w e w' := by
  have hdw : IntKind.i64.wrap ((deep : Int) + 1) = (deep : Int) + 1 := IntWalk.i64_in _ (by omega)
  obtain ⟨i0, hi0, hz0, hz1, hz2⟩ := info_parts val_facts
  obtain ⟨i1, hi1, hy0, hy1, hy2⟩ := info_parts str_facts
  have HIH := Lib.hid ih
  clear ih

  have hsf := run_store_flt
  obtain ⟨R, hR⟩ : ∃ R, R = w.heap.size := ⟨_, rfl⟩
  obtain ⟨W, hW⟩ : ∃ W, W = w.alloc (.cells #[.int .i64 0, .int .i64 0, .float .f64 0, .string ⟨#[]⟩, .slice none 0 0, .slice none 0 0] 46) := ⟨_, rfl⟩
  have hst : RS1 46 [.int .i64 0, .int .i64 0, .float .f64 0, .string ⟨#[]⟩, .slice none 0 0, .slice none 0 0] w W g R s p 0 (m : Int) := by rw [hR, hW]; exact RS1.start 46 [.int .i64 0, .int .i64 0, .float .f64 0, .string ⟨#[]⟩, .slice none 0 0, .slice none 0 0] h
  have HR := Lib.hid hR; have HW := Lib.hid hW; have HS0 := Lib.hid hst
  clear hR hW hst h
  have HBEG := Lib.hid (fbegin_ok s p m deep g 0 W hm (by omega) hm1 HS0.out.rd)
  have hkt : (decide ((byteAt s p).toNat = 6)) = false := by rw [hk]; rfl
  have hed : rdV s (d + 1) p m = (match readM s (p + 1) with
      | .error k => .error k
      | .ok (n, q) => match rdL s (rdV s d) false n q (m + 1) with
        | .error k => .error k
        | .ok (ns, vs, q2, m2) => .ok (Val.node 5 ns vs, q2, m2)) := by
    unfold rdV; rw [if_neg (by omega), if_neg (by omega), if_neg (by rw [hk]; decide), if_neg (by rw [hk]; decide), if_neg (by rw [hk]; decide), if_neg (by rw [hk]; decide), if_pos (by rw [hk]; decide)]
    simp only [hkt]
    rw [hk]
    rfl
  have HED := Lib.hid hed
  clear hed hkt

  go_enter Try.func81, Try.ntmps81
  go_wp2_with fail
  rw [← HW.out, ← HR.out]

  refine HBEG.out.mono ?_
  rintro e w1 ⟨rfl, ha1, ho1⟩
  have HS1 := Lib.hid (HS0.out.read ha1 ho1)
  clear ha1 ho1 HBEG HW
  have HB1 := Lib.hid (fbyte_k s p ((m + 1 : Nat) : Int) g 5 w1 hs hin HS1.out.rd hk)
  go_wp2_with fail
  refine HB1.out.mono ?_
  rintro e w2 ⟨rfl, ha2, ho2⟩
  have HS2 := Lib.hid (HS1.out.read ha2 ho2)
  clear ha2 ho2 HB1 HS1

  obtain ⟨V, hV⟩ : ∃ V, V = w2.heap.size := ⟨_, rfl⟩
  obtain ⟨W2, hW2⟩ : ∃ W2, W2 = w2.alloc (.cells #[.int .i64 5, .int .i64 0, .float .f64 0, .string ⟨#[]⟩, .slice none 0 0, .slice none 0 0] 46) := ⟨_, rfl⟩
  have hs3 := HS2.out.make [.int .i64 5, .int .i64 0, .float .f64 0, .string ⟨#[]⟩, .slice none 0 0, .slice none 0 0]
  rw [show w2.alloc (.cells [.int .i64 5, .int .i64 0, .float .f64 0, .string ⟨#[]⟩, .slice none 0 0, .slice none 0 0].toArray 46) = W2 from hW2.symm, ← hV] at hs3
  have HS3 := Lib.hid hs3; have HW2 := Lib.hid hW2; have HV := Lib.hid hV
  clear hs3 hW2 hV HS2
  go_upto_region 3 with fail
  rw [← HW2.out, ← HV.out]
  have c0 := HS3.out.cell 0; have ce := HS3.out.err; have hvl := HS3.out.vlt
  simp only [List.getElem?_cons_zero, List.getElem?_cons_succ] at c0
  have HR := Lib.hid (fmany_any s (p + 1) ((m + 1 : Nat) : Int) g W2 hs (by omega) HS3.out.rd)
  go_wp2_with fail
  refine HR.out.mono ?_
  rintro e w3 ⟨ho3, n, q0, k0, rfl, ha3, hq0, hn200, hfin⟩
  have HS4 := Lib.hid (HS3.out.read ha3 ho3)
  have HQ0 := Lib.hid hq0
  have HST0 : Hid ((k0 = 0 ∧ Come s (rdV s d) false n q0 (m + 1) [] [] 0 q0 (m + 1)) ∨ (k0 ≠ 0 ∧ rdV s (d + 1) p m = .error k0)) := Lib.hid (by
    rcases hfin with ⟨h1, h2⟩ | ⟨h1, h2, h3⟩
    · exact .inl ⟨h1, come_start⟩
    · exact .inr ⟨h1, by rw [HED.out, h3]⟩)
  have HRM := Lib.hid hfin
  clear ha3 ho3 HR HS3 c0 ce hvl hfin hq0
  have ce := HS4.out.err
  go_wp2_with fail
  go_loopw [9] (fun iv wr => ∃ (i : Nat) (ns : List ByteArray) (us : List Val) (an ax : Option Addr) (cn cx q m' : Nat) (k : Int), iv = .int .i64 i ∧ i ≤ n ∧ q ≤ s.size ∧ m' ≤ 201 ∧ us.length ≤ n ∧ ns.length ≤ i ∧ Hid (∀ t, t ∈ ns → t.size ≤ 30) ∧ Hid ((k = 0 ∧ k0 = 0 ∧ Come s (rdV s d) false n q0 (m + 1) ns (us.map Val.erase) i q m' ∧ m' ≤ 200) ∨ (k ≠ 0 ∧ rdV s (d + 1) p m = .error k)) ∧ Hid (us.length = i) ∧
    Hid (RS2 46 [.int .i64 0, .int .i64 0, .float .f64 0, .string ⟨#[]⟩, .slice none 0 0, .slice none 0 0] w wr g R V s q k (m' : Int) [.int .i64 5, .int .i64 0, .float .f64 0, .string ⟨#[]⟩, .slice an ns.length cn, .slice ax us.length cx]) ∧ Hid (Gath valE 46 (V + 1) wr ns us (.slice an ns.length cn) (.slice ax us.length cx))) (fun iv _ => n - (intOf iv).toNat)
  case atStart => exact ⟨0, [], [], none, none, 0, 0, q0, m + 1, k0, rfl, by omega, HQ0.out, by omega, by simp, by simp, Lib.hid (fun t ht => by simp at ht), Lib.hid (by rcases HST0.out with ⟨h1, h2⟩ | h; exact .inl ⟨by first | rfl | exact h1, by first | rfl | exact h1, h2, hm1⟩; exact .inr h), Lib.hid rfl, HS4, Lib.hid (gath_start _)⟩
  case round =>
    obtain ⟨i, ns, us, an, ax, cn, cx, q, m', k, rfl, hi, hqs, hm', hul, hnl, HTZ, HREL, HUL, HRS, HG⟩ := hrel
    clear HS4 ce
    try clear c0 hvl
    have c0 := HRS.out.cell 0; have ce := HRS.out.err; have cn0 := HRS.out.cell 4; have cx0 := HRS.out.cell 5; have hvl := HRS.out.vlt
    simp only [List.getElem?_cons_zero, List.getElem?_cons_succ] at c0 cn0 cx0
    by_cases hgo : i < n ∧ k = 0
    · obtain ⟨hlt, hk0⟩ := hgo
      subst hk0
      obtain ⟨hcm, hm200⟩ : Come s (rdV s d) false n q0 (m + 1) ns (us.map Val.erase) i q m' ∧ m' ≤ 200 := by
        rcases HREL.out with ⟨_, _, h⟩ | ⟨h, _⟩
        · exact h
        · exact absurd rfl h
      have HKZ : Hid (k0 = 0) := Lib.hid (by
        rcases HREL.out with ⟨_, h, _⟩ | ⟨h, _⟩
        · exact h
        · exact absurd rfl h)
      have HCM := Lib.hid hcm
      have j1 : decide ((i : Int) < (n : Int)) = true := by simp; omega
      have j2 : decide (i < n) = true := by simp; omega
      clear hcm HREL
      have HRMX : Hid (readM s (p + 1) = .ok (n, q0)) := Lib.hid (by
        rcases HRM.out with ⟨_, h⟩ | ⟨_, h, _⟩
        · exact h
        · omega)
      have HC := Lib.hid (fun (W : World) (h : RAt W g s q 0 (m' : Int)) => HIH.out 0 q m' g W (by omega) hm200 h)
      have HZS := Lib.hid (fun b (hb : (Value.slice an ns.length cn).ownBlock = some b) => HG.out.nlt hb)
      have HZX := Lib.hid (fun b (hb : (Value.slice ax us.length cx).ownBlock = some b) => HG.out.xlt hb)
      go_wp2_with fail
      have hvB : V + 1 ≤ wr.heap.size := HRS.out.vlt
      go_region_law (first
        | (refine step_append_any (w := w6.alloc (.cells #[.int .i64 u.k, .int .i64 u.n, .float .f64 u.f, .string u.s, .slice a4 u.ns.length b4, .slice a5 u.xs.length b5] 46)) rfl (.tmp 66) (.tmp 71) 42 rfl (V + 1) 46 i0 (.agg #[.int .i64 0, .int .i64 0, .float .f64 0, .string ByteArray.empty, .slice none 0 0, .slice none 0 0]) 6 88 Try.underlying42 hi0 hz0 hz1 hz2 rfl (by decide) (.slice ax us.length cx) us.length (valE.row us) rfl HOWN6.out (w6.heap.size + 1) (some ⟨w6.heap.size, 0, none⟩) 1 1 u.cells rfl HRED.out (valE.one u) (by unfold maxLen; omega) (by omega) (by simp; omega) ?_;
           intro v' w8 hown' hgrow hor;
           have hg8 := Gath.item (HG6.out.alloc (.cells #[.int .i64 u.k, .int .i64 u.n, .float .f64 u.f, .string u.s, .slice a4 u.ns.length b4, .slice a5 u.xs.length b5] 46)) (by simp; omega) (HUI.out.below ((Below.refl _ w6).alloc (Nat.le_refl _) (.cells #[.int .i64 u.k, .int .i64 u.n, .float .f64 u.f, .string u.s, .slice a4 u.ns.length b4, .slice a5 u.xs.length b5] 46))) HUS.out hvB HZS.out HZX.out hown' hgrow hor;
           have hr8 := HR6.out.grow hgrow (fun k hk => HG6.out.xge hk);
           obtain ⟨ax', cx', rfl⟩ := own_form hown';
           have c8 := hr8.cell 5; have f8 := hr8.frozen 5; have v8 := hr8.vlt;
           simp only [List.getElem?_cons_zero, List.getElem?_cons_succ] at c8;
           have HG8 := Lib.hid hg8; have HR8 := Lib.hid hr8;
           clear hg8 hr8 hown' hgrow hor)
        | (go_simp; go_at_call 81; refine (HC.out _ (HRS.out.rd.drew)).mono ?_; rintro e w6 ⟨ho6, u, q2, m2, k2, rfl, hui, hus, ha6, hq2, hm2, hfin⟩;
           obtain ⟨a4, b4, k4⟩ := hui.nslice;
           obtain ⟨a5, b5, k5⟩ := hui.xslice;
           unfold Val.agg;
           rw [k4, k5];
           have ho6' := ((Only.refl wr g).drew).trans ho6;
           have hz6 := ho6'.size;
           have hr6 := HRS.out.read ha6 ho6';
           have hg6 := HG.out.only ho6' (by have := hr6.lt; omega);
           have c6 := hr6.cell 5; have v6 := hr6.vlt;
           simp only [List.getElem?_cons_zero, List.getElem?_cons_succ] at c6;
           have hred : Reads (w6.alloc (.cells #[.int .i64 u.k, .int .i64 u.n, .float .f64 u.f, .string u.s, .slice a4 u.ns.length b4, .slice a5 u.xs.length b5] 46)) (w6.heap.size + 1) 6 (some ⟨w6.heap.size, 0, none⟩) 1 u.cells := by
             unfold Val.cells; rw [k4, k5]; exact reads_row w6 _ 46;
           have hown6 := hg6.items.alloc (.cells #[.int .i64 u.k, .int .i64 u.n, .float .f64 u.f, .string u.s, .slice a4 u.ns.length b4, .slice a5 u.xs.length b5] 46);
           have HR6 := Lib.hid hr6; have HG6 := Lib.hid hg6; have HRED := Lib.hid hred; have HOWN6 := Lib.hid hown6; have HUI := Lib.hid hui; have HUS := Lib.hid hus; have HFIN := Lib.hid hfin;
           clear ha6 ho6 ho6' hr6 hg6 hred hown6 hui hus k4 k5 hfin))
      all_goals
        have HRS9 := Lib.hid (HR8.out.set_ 5 (.slice ax' (us.length + 1) cx'))
        have HG9 := Lib.hid (HG8.out.set_ (p := ⟨V, 5, none⟩) (by simp) (.slice ax' (us.length + 1) cx'))
        go_wp2
        go_roundw
        case rel =>
          refine ⟨i + 1, ns, us ++ [u], an, ax', cn, cx', q2, m2, k2, by go_num, by omega, hq2, hm2, by simp [HUL.out]; omega, by omega, HTZ, Lib.hid ?_, Lib.hid (by simp [HUL.out]), by simpa using HRS9, by simpa using HG9⟩
          rw [List.map_append, List.map_cons, List.map_nil]
          rcases HFIN.out with ⟨h1, h2, h3, h4⟩ | ⟨h1, h2, h3⟩ | ⟨h1, h2⟩
          · exact .inl ⟨h2, HKZ.out, HCM.out.next0 hlt h4, h3⟩
          · exact .inr ⟨h2, by rw [HED.out, HRMX.out]; simp only; rw [HCM.out.item_bad0 hlt h3]⟩
          · exact absurd rfl h1
        case measure => simp [intOf]; omega
    · have hout : (i < n ∧ k ≠ 0) ∨ i = n := by
        by_cases h : i < n
        · exact .inl ⟨h, fun hk => hgo ⟨h, hk⟩⟩
        · exact .inr (by omega)
      have HRES : Hid ((k = 0 ∧ i = n ∧ m' ≤ 200 ∧ rdV s (d + 1) p m = .ok (Val.node 5 ns (us.map Val.erase), q, m')) ∨ (k ≠ 0 ∧ rdV s (d + 1) p m = .error k)) := Lib.hid (by
        rcases HREL.out with ⟨h1, hz, h2, h3⟩ | h
        · have hn : i = n := by
            rcases hout with ⟨_, h⟩ | h
            · exact absurd h1 h
            · exact h
          subst hn
          refine .inl ⟨h1, rfl, h3, ?_⟩
          rcases HRM.out with ⟨_, h⟩ | ⟨h, _, _⟩
          · rw [HED.out, h]; simp only; rw [h2.done]
          · exact absurd hz h
        · exact .inr h)
      clear hgo HREL
      rcases hout with ⟨hlt, hk0⟩ | rfl
      · have j1 : decide ((i : Int) < (n : Int)) = true := by simp; omega
        have j2 : decide (i < n) = true := by simp; omega
        have j3 : (k == 0) = false := by simpa using hk0
        clear hk0
        clear c0 cn0 cx0
        have e0 := HRS.out.cell 0; have e1 := HRS.out.cell 1; have e2 := HRS.out.cell 2; have e3 := HRS.out.cell 3; have e4 := HRS.out.cell 4; have e5 := HRS.out.cell 5
        simp only [List.getElem?_cons_zero, List.getElem?_cons_succ] at e0 e1 e2 e3 e4 e5
        have r0 := HRS.out.res.cell 0; have f0 := HRS.out.res.frozen 0; have r1 := HRS.out.res.cell 1; have f1 := HRS.out.res.frozen 1; have r2 := HRS.out.res.cell 2; have f2 := HRS.out.res.frozen 2; have r3 := HRS.out.res.cell 3; have f3 := HRS.out.res.frozen 3; have r4 := HRS.out.res.cell 4; have f4 := HRS.out.res.frozen 4; have r5 := HRS.out.res.cell 5; have f5 := HRS.out.res.frozen 5
        simp only [List.getElem?_toArray, List.getElem?_cons_zero, List.getElem?_cons_succ] at r0 r1 r2 r3 r4 r5
        obtain ⟨WF, hWF⟩ : ∃ WF, WF = ((((((wr.setCell ⟨R, 0, none⟩ (.int .i64 5)).setCell ⟨R, 1, none⟩ (.int .i64 0)).setCell ⟨R, 2, none⟩ (.float .f64 0)).setCell ⟨R, 3, none⟩ (.string ⟨#[]⟩)).setCell ⟨R, 4, none⟩ (.slice an ns.length cn)).setCell ⟨R, 5, none⟩ (.slice ax us.length cx)) := ⟨_, rfl⟩
        have hst := stored6' HRS.out.res (.int .i64 5) (.int .i64 0) (.float .f64 0) (.string ⟨#[]⟩) (.slice an ns.length cn) (.slice ax us.length cx)
        rw [← hWF] at hst
        have HST := Lib.hid hst; have HWF := Lib.hid hWF
        have HRD := Lib.hid (Blk.grown HRS.out.rd hst.2 (by have := HRS.out.glt; simp; omega))
        have HON := Lib.hid (only_far HRS.out.only hst.2 (by rw [HRS.out.eq]; exact Nat.le_refl _))
        clear hWF hst
        go_wp2_with fail
        rw [← HWF.out]
        clear e0 r0 f0 e1 r1 f1 e2 r2 f2 e3 r3 f3 e4 r4 f4 e5 r5 f5
        have e0 := HST.out.1.cell 0; have e1 := HST.out.1.cell 1; have e2 := HST.out.1.cell 2; have e3 := HST.out.1.cell 3; have e4 := HST.out.1.cell 4; have e5 := HST.out.1.cell 5
        simp only [List.getElem?_toArray, List.getElem?_cons_zero, List.getElem?_cons_succ] at e0 e1 e2 e3 e4 e5
        refine bodyPost_ret (v := .agg #[.int .i64 5, .int .i64 0, .float .f64 0, .string ⟨#[]⟩, .slice an ns.length cn, .slice ax us.length cx]) (by simp [results, Try.results81, go_sem, e0, e1, e2, e3, e4, e5]) rfl ?_
        refine fnode_end (R := R) (V := V) HRD.out HON.out (by rw [HWF.out]; exact HG.out.only (stored6' HRS.out.res _ _ _ _ _ _).2 (by have := HRS.out.rlt; omega)) (by rw [← HR.out]; exact Nat.le_of_lt HRS.out.rlt) (by unfold i64r; omega) (by omega) (by omega) HTZ.out hqs hm' ?_
        rcases HRES.out with ⟨h1, _, h3, h4⟩ | h
        · exact .inl ⟨rfl, h1, h3, h4⟩
        · exact .inr (.inl ⟨rfl, h⟩)
      · have j1 : decide ((i : Int) < (i : Int)) = false := by simp
        clear c0 cn0 cx0
        have e0 := HRS.out.cell 0; have e1 := HRS.out.cell 1; have e2 := HRS.out.cell 2; have e3 := HRS.out.cell 3; have e4 := HRS.out.cell 4; have e5 := HRS.out.cell 5
        simp only [List.getElem?_cons_zero, List.getElem?_cons_succ] at e0 e1 e2 e3 e4 e5
        have r0 := HRS.out.res.cell 0; have f0 := HRS.out.res.frozen 0; have r1 := HRS.out.res.cell 1; have f1 := HRS.out.res.frozen 1; have r2 := HRS.out.res.cell 2; have f2 := HRS.out.res.frozen 2; have r3 := HRS.out.res.cell 3; have f3 := HRS.out.res.frozen 3; have r4 := HRS.out.res.cell 4; have f4 := HRS.out.res.frozen 4; have r5 := HRS.out.res.cell 5; have f5 := HRS.out.res.frozen 5
        simp only [List.getElem?_toArray, List.getElem?_cons_zero, List.getElem?_cons_succ] at r0 r1 r2 r3 r4 r5
        obtain ⟨WF, hWF⟩ : ∃ WF, WF = ((((((wr.setCell ⟨R, 0, none⟩ (.int .i64 5)).setCell ⟨R, 1, none⟩ (.int .i64 0)).setCell ⟨R, 2, none⟩ (.float .f64 0)).setCell ⟨R, 3, none⟩ (.string ⟨#[]⟩)).setCell ⟨R, 4, none⟩ (.slice an ns.length cn)).setCell ⟨R, 5, none⟩ (.slice ax us.length cx)) := ⟨_, rfl⟩
        have hst := stored6' HRS.out.res (.int .i64 5) (.int .i64 0) (.float .f64 0) (.string ⟨#[]⟩) (.slice an ns.length cn) (.slice ax us.length cx)
        rw [← hWF] at hst
        have HST := Lib.hid hst; have HWF := Lib.hid hWF
        have HRD := Lib.hid (Blk.grown HRS.out.rd hst.2 (by have := HRS.out.glt; simp; omega))
        have HON := Lib.hid (only_far HRS.out.only hst.2 (by rw [HRS.out.eq]; exact Nat.le_refl _))
        clear hWF hst
        go_wp2_with fail
        rw [← HWF.out]
        clear e0 r0 f0 e1 r1 f1 e2 r2 f2 e3 r3 f3 e4 r4 f4 e5 r5 f5
        have e0 := HST.out.1.cell 0; have e1 := HST.out.1.cell 1; have e2 := HST.out.1.cell 2; have e3 := HST.out.1.cell 3; have e4 := HST.out.1.cell 4; have e5 := HST.out.1.cell 5
        simp only [List.getElem?_toArray, List.getElem?_cons_zero, List.getElem?_cons_succ] at e0 e1 e2 e3 e4 e5
        refine bodyPost_ret (v := .agg #[.int .i64 5, .int .i64 0, .float .f64 0, .string ⟨#[]⟩, .slice an ns.length cn, .slice ax us.length cx]) (by simp [results, Try.results81, go_sem, e0, e1, e2, e3, e4, e5]) rfl ?_
        refine fnode_end (R := R) (V := V) HRD.out HON.out (by rw [HWF.out]; exact HG.out.only (stored6' HRS.out.res _ _ _ _ _ _).2 (by have := HRS.out.rlt; omega)) (by rw [← HR.out]; exact Nat.le_of_lt HRS.out.rlt) (by unfold i64r; omega) (by omega) (by omega) HTZ.out hqs hm' ?_
        rcases HRES.out with ⟨h1, _, h3, h4⟩ | h
        · exact .inl ⟨rfl, h1, h3, h4⟩
        · exact .inr (.inl ⟨rfl, h⟩)

set_option maxHeartbeats 4000000 in
set_option maxRecDepth 100000 in
theorem fV_rec (s : ByteArray) (hs : s.size ≤ 100000) (d p m deep g : Nat) (w : World) (hd : deep + d = 12) (hp : p ≤ s.size) (hm : m ≤ 200) (hm1 : m + 1 ≤ 200) (hin : p < s.size) (hk : (byteAt s p).toNat = 6) (ih : ∀ (k : Int) (p m g : Nat) (w : World), p ≤ s.size → m ≤ 200 → RAt w g s p k (m : Int) → Calls Try.prog 81 #[.pointer (some ⟨g, 0, none⟩), .int .i64 ((deep : Int) + 1)] w fun e w' => FValD s d p m k g w e w') (h : RAt w g s p 0 (m : Int)) :
    Calls Try.prog 81 #[.pointer (some ⟨g, 0, none⟩), .int .i64 deep] w fun e w' => FValD s (d + 1) p m 0 g w e w' := by
  have hdw : IntKind.i64.wrap ((deep : Int) + 1) = (deep : Int) + 1 := IntWalk.i64_in _ (by omega)
  obtain ⟨i0, hi0, hz0, hz1, hz2⟩ := info_parts val_facts
  obtain ⟨i1, hi1, hy0, hy1, hy2⟩ := info_parts str_facts
  have HIH := Lib.hid ih
  clear ih

  have hsf := run_store_flt
  obtain ⟨R, hR⟩ : ∃ R, R = w.heap.size := ⟨_, rfl⟩
  obtain ⟨W, hW⟩ : ∃ W, W = w.alloc (.cells #[.int .i64 0, .int .i64 0, .float .f64 0, .string ⟨#[]⟩, .slice none 0 0, .slice none 0 0] 46) := ⟨_, rfl⟩
  have hst : RS1 46 [.int .i64 0, .int .i64 0, .float .f64 0, .string ⟨#[]⟩, .slice none 0 0, .slice none 0 0] w W g R s p 0 (m : Int) := by rw [hR, hW]; exact RS1.start 46 [.int .i64 0, .int .i64 0, .float .f64 0, .string ⟨#[]⟩, .slice none 0 0, .slice none 0 0] h
  have HR := Lib.hid hR; have HW := Lib.hid hW; have HS0 := Lib.hid hst
  clear hR hW hst h
  have HBEG := Lib.hid (fbegin_ok s p m deep g 0 W hm (by omega) hm1 HS0.out.rd)
  have hkt : (decide ((byteAt s p).toNat = 6)) = true := by rw [hk]; rfl
  have hed : rdV s (d + 1) p m = (match readM s (p + 1) with
      | .error k => .error k
      | .ok (n, q) => match rdL s (rdV s d) true n q (m + 1) with
        | .error k => .error k
        | .ok (ns, vs, q2, m2) => .ok (Val.node 6 ns vs, q2, m2)) := by
    unfold rdV; rw [if_neg (by omega), if_neg (by omega), if_neg (by rw [hk]; decide), if_neg (by rw [hk]; decide), if_neg (by rw [hk]; decide), if_neg (by rw [hk]; decide), if_pos (by rw [hk]; decide)]
    simp only [hkt]
    rw [hk]
    rfl
  have HED := Lib.hid hed
  clear hed hkt

  go_enter Try.func81, Try.ntmps81
  go_wp2_with fail
  rw [← HW.out, ← HR.out]

  refine HBEG.out.mono ?_
  rintro e w1 ⟨rfl, ha1, ho1⟩
  have HS1 := Lib.hid (HS0.out.read ha1 ho1)
  clear ha1 ho1 HBEG HW
  have HB1 := Lib.hid (fbyte_k s p ((m + 1 : Nat) : Int) g 6 w1 hs hin HS1.out.rd hk)
  go_wp2_with fail
  refine HB1.out.mono ?_
  rintro e w2 ⟨rfl, ha2, ho2⟩
  have HS2 := Lib.hid (HS1.out.read ha2 ho2)
  clear ha2 ho2 HB1 HS1

  obtain ⟨V, hV⟩ : ∃ V, V = w2.heap.size := ⟨_, rfl⟩
  obtain ⟨W2, hW2⟩ : ∃ W2, W2 = w2.alloc (.cells #[.int .i64 6, .int .i64 0, .float .f64 0, .string ⟨#[]⟩, .slice none 0 0, .slice none 0 0] 46) := ⟨_, rfl⟩
  have hs3 := HS2.out.make [.int .i64 6, .int .i64 0, .float .f64 0, .string ⟨#[]⟩, .slice none 0 0, .slice none 0 0]
  rw [show w2.alloc (.cells [.int .i64 6, .int .i64 0, .float .f64 0, .string ⟨#[]⟩, .slice none 0 0, .slice none 0 0].toArray 46) = W2 from hW2.symm, ← hV] at hs3
  have HS3 := Lib.hid hs3; have HW2 := Lib.hid hW2; have HV := Lib.hid hV
  clear hs3 hW2 hV HS2
  go_upto_region 3 with fail
  rw [← HW2.out, ← HV.out]
  have c0 := HS3.out.cell 0; have ce := HS3.out.err; have hvl := HS3.out.vlt
  simp only [List.getElem?_cons_zero, List.getElem?_cons_succ] at c0
  have HR := Lib.hid (fmany_any s (p + 1) ((m + 1 : Nat) : Int) g W2 hs (by omega) HS3.out.rd)
  go_wp2_with fail
  refine HR.out.mono ?_
  rintro e w3 ⟨ho3, n, q0, k0, rfl, ha3, hq0, hn200, hfin⟩
  have HS4 := Lib.hid (HS3.out.read ha3 ho3)
  have HQ0 := Lib.hid hq0
  have HST0 : Hid ((k0 = 0 ∧ Come s (rdV s d) true n q0 (m + 1) [] [] 0 q0 (m + 1)) ∨ (k0 ≠ 0 ∧ rdV s (d + 1) p m = .error k0)) := Lib.hid (by
    rcases hfin with ⟨h1, h2⟩ | ⟨h1, h2, h3⟩
    · exact .inl ⟨h1, come_start⟩
    · exact .inr ⟨h1, by rw [HED.out, h3]⟩)
  have HRM := Lib.hid hfin
  clear ha3 ho3 HR HS3 c0 ce hvl hfin hq0
  have ce := HS4.out.err
  go_wp2_with fail
  go_loopw [9] (fun iv wr => ∃ (i : Nat) (ns : List ByteArray) (us : List Val) (an ax : Option Addr) (cn cx q m' : Nat) (k : Int), iv = .int .i64 i ∧ i ≤ n ∧ q ≤ s.size ∧ m' ≤ 201 ∧ us.length ≤ n ∧ ns.length ≤ i ∧ Hid (∀ t, t ∈ ns → t.size ≤ 30) ∧ Hid ((k = 0 ∧ k0 = 0 ∧ Come s (rdV s d) true n q0 (m + 1) ns (us.map Val.erase) i q m' ∧ m' ≤ 200) ∨ (k ≠ 0 ∧ rdV s (d + 1) p m = .error k)) ∧ Hid (us.length = i) ∧
    Hid (RS2 46 [.int .i64 0, .int .i64 0, .float .f64 0, .string ⟨#[]⟩, .slice none 0 0, .slice none 0 0] w wr g R V s q k (m' : Int) [.int .i64 6, .int .i64 0, .float .f64 0, .string ⟨#[]⟩, .slice an ns.length cn, .slice ax us.length cx]) ∧ Hid (Gath valE 46 (V + 1) wr ns us (.slice an ns.length cn) (.slice ax us.length cx))) (fun iv _ => n - (intOf iv).toNat)
  case atStart => exact ⟨0, [], [], none, none, 0, 0, q0, m + 1, k0, rfl, by omega, HQ0.out, by omega, by simp, by simp, Lib.hid (fun t ht => by simp at ht), Lib.hid (by rcases HST0.out with ⟨h1, h2⟩ | h; exact .inl ⟨by first | rfl | exact h1, by first | rfl | exact h1, h2, hm1⟩; exact .inr h), Lib.hid rfl, HS4, Lib.hid (gath_start _)⟩
  case round =>
    obtain ⟨i, ns, us, an, ax, cn, cx, q, m', k, rfl, hi, hqs, hm', hul, hnl, HTZ, HREL, HUL, HRS, HG⟩ := hrel
    clear HS4 ce
    try clear c0 hvl
    have c0 := HRS.out.cell 0; have ce := HRS.out.err; have cn0 := HRS.out.cell 4; have cx0 := HRS.out.cell 5; have hvl := HRS.out.vlt
    simp only [List.getElem?_cons_zero, List.getElem?_cons_succ] at c0 cn0 cx0
    by_cases hgo : i < n ∧ k = 0
    · obtain ⟨hlt, hk0⟩ := hgo
      subst hk0
      obtain ⟨hcm, hm200⟩ : Come s (rdV s d) true n q0 (m + 1) ns (us.map Val.erase) i q m' ∧ m' ≤ 200 := by
        rcases HREL.out with ⟨_, _, h⟩ | ⟨h, _⟩
        · exact h
        · exact absurd rfl h
      have HKZ : Hid (k0 = 0) := Lib.hid (by
        rcases HREL.out with ⟨_, h, _⟩ | ⟨h, _⟩
        · exact h
        · exact absurd rfl h)
      have HCM := Lib.hid hcm
      have j1 : decide ((i : Int) < (n : Int)) = true := by simp; omega
      have j2 : decide (i < n) = true := by simp; omega
      clear hcm HREL
      have HRMX : Hid (readM s (p + 1) = .ok (n, q0)) := Lib.hid (by
        rcases HRM.out with ⟨_, h⟩ | ⟨_, h, _⟩
        · exact h
        · omega)
      have HC := Lib.hid (fun (W : World) (h : RAt W g s q 0 (m' : Int)) => fstrD_any s q (m' : Int) 30 g W hs hqs (by omega) (by omega) h)
      go_upto_region 13 with fail
      go_cut [9] (fun iv wx => iv = .int .i64 i ∧ ∃ (ns2 : List ByteArray) (an2 : Option Addr) (cn2 q1 : Nat) (k1 : Int) (t : ByteArray), q1 ≤ s.size ∧ Hid (t.size ≤ 30) ∧ Hid (ns2 = ns ++ [t]) ∧ Hid ((k1 = 0 ∧ readS s q 30 = .ok (t, q1)) ∨ (k1 ≠ 0 ∧ readS s q 30 = .error k1)) ∧ Hid (RS2 46 [.int .i64 0, .int .i64 0, .float .f64 0, .string ⟨#[]⟩, .slice none 0 0, .slice none 0 0] w wx g R V s q1 k1 (m' : Int) [.int .i64 6, .int .i64 0, .float .f64 0, .string ⟨#[]⟩, .slice an2 ns2.length cn2, .slice ax us.length cx]) ∧ Hid (Gath valE 46 (V + 1) wx ns2 us (.slice an2 ns2.length cn2) (.slice ax us.length cx)))
      case first =>
        have hvB : V + 1 ≤ wr.heap.size := HRS.out.vlt
        go_region_law (first
          | (refine step_append_any (w := w6.alloc (.cells #[.string t] 9)) rfl (.tmp 59) (.tmp 62) 44 rfl (V + 1) 9 i1 (.string ByteArray.empty) 1 16 Try.underlying44 hi1 hy0 hy1 hy2 rfl (by decide) (.slice an ns.length cn) ns.length (ns.map Value.string) rfl HOWN6.out (w6.heap.size + 1) (some ⟨w6.heap.size, 0, none⟩) 1 1 [.string t] rfl HRED.out (one_str t) (by unfold maxLen; omega) (by omega) (by simp; omega) ?_;
             intro v' w8 hown' hgrow hor;
             have hg8 := Gath.name (HG6.out.alloc (.cells #[.string t] 9)) (by simp; omega) hown' hgrow hor;
             have hr8 := HR6.out.grow hgrow (fun k hk => HG6.out.nge hk);
             obtain ⟨an', cn', rfl⟩ := own_form hown';
             have c8 := hr8.cell 4; have f8 := hr8.frozen 4; have v8 := hr8.vlt;
             simp only [List.getElem?_cons_zero, List.getElem?_cons_succ] at c8;
             have HG8 := Lib.hid hg8; have HR8 := Lib.hid hr8;
             clear hg8 hr8 hown' hgrow hor)
          | (go_simp; go_at_call 20; refine (HC.out _ (HRS.out.rd.drew)).mono ?_; rintro e w6 ⟨ho6, t, q1, k1, rfl, ha6, hq1, htz, hfin⟩;
             have ho6' := ((Only.refl wr g).drew).trans ho6;
             have hz6 := ho6'.size;
             have hr6 := HRS.out.read ha6 ho6';
             have hg6 := HG.out.only ho6' (by have := hr6.lt; omega);
             have c6 := hr6.cell 4; have v6 := hr6.vlt;
             simp only [List.getElem?_cons_zero, List.getElem?_cons_succ] at c6;
             have hred := reads_one w6 (.string t) 9;
             have hown6 := hg6.names.alloc (.cells #[.string t] 9);
             have HR6 := Lib.hid hr6; have HG6 := Lib.hid hg6; have HRED := Lib.hid hred; have HOWN6 := Lib.hid hown6; have HFIN := Lib.hid hfin;
             clear ha6 ho6 ho6' hr6 hg6 hred hown6 hfin))
        all_goals
          have HRS9 := Lib.hid (HR8.out.set_ 4 (.slice an' (ns.length + 1) cn'))
          have HG9 := Lib.hid (HG8.out.set_ (p := ⟨V, 4, none⟩) (by simp) (.slice an' (ns.length + 1) cn'))
          go_wp2
          go_meet
          exact ⟨rfl, ns ++ [t], an', cn', q1, k1, t, hq1, Lib.hid (by omega), Lib.hid rfl, HFIN, by simpa using HRS9, by simpa using HG9⟩
      case rest =>
      obtain ⟨rfl, ns2, an2, cn2, q1, k1, t, hq1, HT, HN2, HSN, HRS2, HG2⟩ := hcut
      have hn2 : ns2.length ≤ i + 1 := by rw [HN2.out]; simp; omega
      have HTZ2 : Hid (∀ t, t ∈ ns2 → t.size ≤ 30) := Lib.hid (by
        rw [HN2.out]
        intro t' ht'
        rcases List.mem_append.1 ht' with h | h
        · exact HTZ.out t' h
        · obtain rfl : t' = t := by simpa using h
          exact HT.out)
      clear HRS HG c0 ce cn0 cx0 hvl HC
      have HRS := HRS2
      have HG := HG2
      clear HRS2 HG2
      have c0 := HRS.out.cell 0; have ce := HRS.out.err; have cn0 := HRS.out.cell 4; have cx0 := HRS.out.cell 5; have hvl := HRS.out.vlt
      simp only [List.getElem?_cons_zero, List.getElem?_cons_succ] at c0 cn0 cx0
      have HC := Lib.hid (fun (W : World) (h : RAt W g s q1 k1 (m' : Int)) => HIH.out k1 q1 m' g W (by omega) hm200 h)
      have HZS := Lib.hid (fun b (hb : (Value.slice an2 ns2.length cn2).ownBlock = some b) => HG.out.nlt hb)
      have HZX := Lib.hid (fun b (hb : (Value.slice ax us.length cx).ownBlock = some b) => HG.out.xlt hb)
      go_wp2_with fail
      have hvB : V + 1 ≤ wc.heap.size := HRS.out.vlt
      go_region_law (first
        | (refine step_append_any (w := w6.alloc (.cells #[.int .i64 u.k, .int .i64 u.n, .float .f64 u.f, .string u.s, .slice a4 u.ns.length b4, .slice a5 u.xs.length b5] 46)) rfl (.tmp 66) (.tmp 71) 42 rfl (V + 1) 46 i0 (.agg #[.int .i64 0, .int .i64 0, .float .f64 0, .string ByteArray.empty, .slice none 0 0, .slice none 0 0]) 6 88 Try.underlying42 hi0 hz0 hz1 hz2 rfl (by decide) (.slice ax us.length cx) us.length (valE.row us) rfl HOWN6.out (w6.heap.size + 1) (some ⟨w6.heap.size, 0, none⟩) 1 1 u.cells rfl HRED.out (valE.one u) (by unfold maxLen; omega) (by omega) (by simp; omega) ?_;
           intro v' w8 hown' hgrow hor;
           have hg8 := Gath.item (HG6.out.alloc (.cells #[.int .i64 u.k, .int .i64 u.n, .float .f64 u.f, .string u.s, .slice a4 u.ns.length b4, .slice a5 u.xs.length b5] 46)) (by simp; omega) (HUI.out.below ((Below.refl _ w6).alloc (Nat.le_refl _) (.cells #[.int .i64 u.k, .int .i64 u.n, .float .f64 u.f, .string u.s, .slice a4 u.ns.length b4, .slice a5 u.xs.length b5] 46))) HUS.out hvB HZS.out HZX.out hown' hgrow hor;
           have hr8 := HR6.out.grow hgrow (fun k hk => HG6.out.xge hk);
           obtain ⟨ax', cx', rfl⟩ := own_form hown';
           have c8 := hr8.cell 5; have f8 := hr8.frozen 5; have v8 := hr8.vlt;
           simp only [List.getElem?_cons_zero, List.getElem?_cons_succ] at c8;
           have HG8 := Lib.hid hg8; have HR8 := Lib.hid hr8;
           clear hg8 hr8 hown' hgrow hor)
        | (go_simp; go_at_call 81; refine (HC.out _ (HRS.out.rd.drew)).mono ?_; rintro e w6 ⟨ho6, u, q2, m2, k2, rfl, hui, hus, ha6, hq2, hm2, hfin⟩;
           obtain ⟨a4, b4, k4⟩ := hui.nslice;
           obtain ⟨a5, b5, k5⟩ := hui.xslice;
           unfold Val.agg;
           rw [k4, k5];
           have ho6' := ((Only.refl wc g).drew).trans ho6;
           have hz6 := ho6'.size;
           have hr6 := HRS.out.read ha6 ho6';
           have hg6 := HG.out.only ho6' (by have := hr6.lt; omega);
           have c6 := hr6.cell 5; have v6 := hr6.vlt;
           simp only [List.getElem?_cons_zero, List.getElem?_cons_succ] at c6;
           have hred : Reads (w6.alloc (.cells #[.int .i64 u.k, .int .i64 u.n, .float .f64 u.f, .string u.s, .slice a4 u.ns.length b4, .slice a5 u.xs.length b5] 46)) (w6.heap.size + 1) 6 (some ⟨w6.heap.size, 0, none⟩) 1 u.cells := by
             unfold Val.cells; rw [k4, k5]; exact reads_row w6 _ 46;
           have hown6 := hg6.items.alloc (.cells #[.int .i64 u.k, .int .i64 u.n, .float .f64 u.f, .string u.s, .slice a4 u.ns.length b4, .slice a5 u.xs.length b5] 46);
           have HR6 := Lib.hid hr6; have HG6 := Lib.hid hg6; have HRED := Lib.hid hred; have HOWN6 := Lib.hid hown6; have HUI := Lib.hid hui; have HUS := Lib.hid hus; have HFIN := Lib.hid hfin;
           clear ha6 ho6 ho6' hr6 hg6 hred hown6 hui hus k4 k5 hfin))
      all_goals
        have HRS9 := Lib.hid (HR8.out.set_ 5 (.slice ax' (us.length + 1) cx'))
        have HG9 := Lib.hid (HG8.out.set_ (p := ⟨V, 5, none⟩) (by simp) (.slice ax' (us.length + 1) cx'))
        go_wp2
        go_roundw
        case rel =>
          refine ⟨i + 1, ns2, us ++ [u], an2, ax', cn2, cx', q2, m2, k2, by go_num, by omega, hq2, hm2, by simp [HUL.out]; omega, by omega, HTZ2, Lib.hid ?_, Lib.hid (by simp [HUL.out]), by simpa using HRS9, by simpa using HG9⟩
          rw [List.map_append, List.map_cons, List.map_nil]
          rcases HFIN.out with ⟨h1, h2, h3, h4⟩ | ⟨h1, h2, h3⟩ | ⟨h1, h2⟩
          · exact .inl ⟨h2, HKZ.out, HN2.out ▸ HCM.out.next1 hlt (by rcases HSN.out with ⟨_, h⟩ | ⟨h, _⟩; exact h; exact absurd h1 h) h4, h3⟩
          · exact .inr ⟨h2, by rw [HED.out, HRMX.out]; simp only; rw [HCM.out.item_bad1 hlt (by rcases HSN.out with ⟨_, h⟩ | ⟨h, _⟩; exact h; exact absurd h1 h) h3]⟩
          · refine .inr ⟨by rw [h2]; exact h1, ?_⟩
            rcases HSN.out with ⟨h, _⟩ | ⟨_, h⟩
            · exact absurd h h1
            · rw [h2]; exact by rw [HED.out, HRMX.out]; simp only; rw [HCM.out.name_bad hlt h]
        case measure => simp [intOf]; omega
    · have hout : (i < n ∧ k ≠ 0) ∨ i = n := by
        by_cases h : i < n
        · exact .inl ⟨h, fun hk => hgo ⟨h, hk⟩⟩
        · exact .inr (by omega)
      have HRES : Hid ((k = 0 ∧ i = n ∧ m' ≤ 200 ∧ rdV s (d + 1) p m = .ok (Val.node 6 ns (us.map Val.erase), q, m')) ∨ (k ≠ 0 ∧ rdV s (d + 1) p m = .error k)) := Lib.hid (by
        rcases HREL.out with ⟨h1, hz, h2, h3⟩ | h
        · have hn : i = n := by
            rcases hout with ⟨_, h⟩ | h
            · exact absurd h1 h
            · exact h
          subst hn
          refine .inl ⟨h1, rfl, h3, ?_⟩
          rcases HRM.out with ⟨_, h⟩ | ⟨h, _, _⟩
          · rw [HED.out, h]; simp only; rw [h2.done]
          · exact absurd hz h
        · exact .inr h)
      clear hgo HREL
      rcases hout with ⟨hlt, hk0⟩ | rfl
      · have j1 : decide ((i : Int) < (n : Int)) = true := by simp; omega
        have j2 : decide (i < n) = true := by simp; omega
        have j3 : (k == 0) = false := by simpa using hk0
        clear hk0
        clear c0 cn0 cx0
        have e0 := HRS.out.cell 0; have e1 := HRS.out.cell 1; have e2 := HRS.out.cell 2; have e3 := HRS.out.cell 3; have e4 := HRS.out.cell 4; have e5 := HRS.out.cell 5
        simp only [List.getElem?_cons_zero, List.getElem?_cons_succ] at e0 e1 e2 e3 e4 e5
        have r0 := HRS.out.res.cell 0; have f0 := HRS.out.res.frozen 0; have r1 := HRS.out.res.cell 1; have f1 := HRS.out.res.frozen 1; have r2 := HRS.out.res.cell 2; have f2 := HRS.out.res.frozen 2; have r3 := HRS.out.res.cell 3; have f3 := HRS.out.res.frozen 3; have r4 := HRS.out.res.cell 4; have f4 := HRS.out.res.frozen 4; have r5 := HRS.out.res.cell 5; have f5 := HRS.out.res.frozen 5
        simp only [List.getElem?_toArray, List.getElem?_cons_zero, List.getElem?_cons_succ] at r0 r1 r2 r3 r4 r5
        obtain ⟨WF, hWF⟩ : ∃ WF, WF = ((((((wr.setCell ⟨R, 0, none⟩ (.int .i64 6)).setCell ⟨R, 1, none⟩ (.int .i64 0)).setCell ⟨R, 2, none⟩ (.float .f64 0)).setCell ⟨R, 3, none⟩ (.string ⟨#[]⟩)).setCell ⟨R, 4, none⟩ (.slice an ns.length cn)).setCell ⟨R, 5, none⟩ (.slice ax us.length cx)) := ⟨_, rfl⟩
        have hst := stored6' HRS.out.res (.int .i64 6) (.int .i64 0) (.float .f64 0) (.string ⟨#[]⟩) (.slice an ns.length cn) (.slice ax us.length cx)
        rw [← hWF] at hst
        have HST := Lib.hid hst; have HWF := Lib.hid hWF
        have HRD := Lib.hid (Blk.grown HRS.out.rd hst.2 (by have := HRS.out.glt; simp; omega))
        have HON := Lib.hid (only_far HRS.out.only hst.2 (by rw [HRS.out.eq]; exact Nat.le_refl _))
        clear hWF hst
        go_wp2_with fail
        rw [← HWF.out]
        clear e0 r0 f0 e1 r1 f1 e2 r2 f2 e3 r3 f3 e4 r4 f4 e5 r5 f5
        have e0 := HST.out.1.cell 0; have e1 := HST.out.1.cell 1; have e2 := HST.out.1.cell 2; have e3 := HST.out.1.cell 3; have e4 := HST.out.1.cell 4; have e5 := HST.out.1.cell 5
        simp only [List.getElem?_toArray, List.getElem?_cons_zero, List.getElem?_cons_succ] at e0 e1 e2 e3 e4 e5
        refine bodyPost_ret (v := .agg #[.int .i64 6, .int .i64 0, .float .f64 0, .string ⟨#[]⟩, .slice an ns.length cn, .slice ax us.length cx]) (by simp [results, Try.results81, go_sem, e0, e1, e2, e3, e4, e5]) rfl ?_
        refine fnode_end (R := R) (V := V) HRD.out HON.out (by rw [HWF.out]; exact HG.out.only (stored6' HRS.out.res _ _ _ _ _ _).2 (by have := HRS.out.rlt; omega)) (by rw [← HR.out]; exact Nat.le_of_lt HRS.out.rlt) (by unfold i64r; omega) (by omega) (by omega) HTZ.out hqs hm' ?_
        rcases HRES.out with ⟨h1, _, h3, h4⟩ | h
        · exact .inl ⟨rfl, h1, h3, h4⟩
        · exact .inr (.inl ⟨rfl, h⟩)
      · have j1 : decide ((i : Int) < (i : Int)) = false := by simp
        clear c0 cn0 cx0
        have e0 := HRS.out.cell 0; have e1 := HRS.out.cell 1; have e2 := HRS.out.cell 2; have e3 := HRS.out.cell 3; have e4 := HRS.out.cell 4; have e5 := HRS.out.cell 5
        simp only [List.getElem?_cons_zero, List.getElem?_cons_succ] at e0 e1 e2 e3 e4 e5
        have r0 := HRS.out.res.cell 0; have f0 := HRS.out.res.frozen 0; have r1 := HRS.out.res.cell 1; have f1 := HRS.out.res.frozen 1; have r2 := HRS.out.res.cell 2; have f2 := HRS.out.res.frozen 2; have r3 := HRS.out.res.cell 3; have f3 := HRS.out.res.frozen 3; have r4 := HRS.out.res.cell 4; have f4 := HRS.out.res.frozen 4; have r5 := HRS.out.res.cell 5; have f5 := HRS.out.res.frozen 5
        simp only [List.getElem?_toArray, List.getElem?_cons_zero, List.getElem?_cons_succ] at r0 r1 r2 r3 r4 r5
        obtain ⟨WF, hWF⟩ : ∃ WF, WF = ((((((wr.setCell ⟨R, 0, none⟩ (.int .i64 6)).setCell ⟨R, 1, none⟩ (.int .i64 0)).setCell ⟨R, 2, none⟩ (.float .f64 0)).setCell ⟨R, 3, none⟩ (.string ⟨#[]⟩)).setCell ⟨R, 4, none⟩ (.slice an ns.length cn)).setCell ⟨R, 5, none⟩ (.slice ax us.length cx)) := ⟨_, rfl⟩
        have hst := stored6' HRS.out.res (.int .i64 6) (.int .i64 0) (.float .f64 0) (.string ⟨#[]⟩) (.slice an ns.length cn) (.slice ax us.length cx)
        rw [← hWF] at hst
        have HST := Lib.hid hst; have HWF := Lib.hid hWF
        have HRD := Lib.hid (Blk.grown HRS.out.rd hst.2 (by have := HRS.out.glt; simp; omega))
        have HON := Lib.hid (only_far HRS.out.only hst.2 (by rw [HRS.out.eq]; exact Nat.le_refl _))
        clear hWF hst
        go_wp2_with fail
        rw [← HWF.out]
        clear e0 r0 f0 e1 r1 f1 e2 r2 f2 e3 r3 f3 e4 r4 f4 e5 r5 f5
        have e0 := HST.out.1.cell 0; have e1 := HST.out.1.cell 1; have e2 := HST.out.1.cell 2; have e3 := HST.out.1.cell 3; have e4 := HST.out.1.cell 4; have e5 := HST.out.1.cell 5
        simp only [List.getElem?_toArray, List.getElem?_cons_zero, List.getElem?_cons_succ] at e0 e1 e2 e3 e4 e5
        refine bodyPost_ret (v := .agg #[.int .i64 6, .int .i64 0, .float .f64 0, .string ⟨#[]⟩, .slice an ns.length cn, .slice ax us.length cx]) (by simp [results, Try.results81, go_sem, e0, e1, e2, e3, e4, e5]) rfl ?_
        refine fnode_end (R := R) (V := V) HRD.out HON.out (by rw [HWF.out]; exact HG.out.only (stored6' HRS.out.res _ _ _ _ _ _).2 (by have := HRS.out.rlt; omega)) (by rw [← HR.out]; exact Nat.le_of_lt HRS.out.rlt) (by unfold i64r; omega) (by omega) (by omega) HTZ.out hqs hm' ?_
        rcases HRES.out with ⟨h1, _, h3, h4⟩ | h
        · exact .inl ⟨rfl, h1, h3, h4⟩
        · exact .inr (.inl ⟨rfl, h⟩)
end Go.Proofs.Ytemhinagajfemaa
