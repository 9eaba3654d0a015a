/- The document's reader: a value, whatever the bytes (printed by wip/gen_refrd.py). -/
import Derived.Test.YtemhinagajfemaaCrdM27
import Derived.Test.YtemhinagajfemaaCrdM28
import Derived.BigGuardPart
namespace Go.Proofs.Ytemhinagajfemaa
set_option linter.unusedVariables false
open Go.RowKit

/-- What it gives, whatever the bytes: a value, and how the reader stands. -/
def FValD (s : ByteArray) (d p m : Nat) (k : Int) (g : Nat) (w : World) (e : Ending) (w' : World) : Prop :=
  Only w w' g ∧ ∃ (u : Val) (q m' : Nat) (k' : Int), e = .returned u.agg ∧ u.In w' ∧ u.Sep (fun b => w.heap.size ≤ b) ∧ RAt w' g s q k' (m' : Int) ∧ q ≤ s.size ∧ m' ≤ 201 ∧
    ((k = 0 ∧ k' = 0 ∧ m' ≤ 200 ∧ rdV s d p m = .ok (u.erase, q, m')) ∨ (k = 0 ∧ k' ≠ 0 ∧ rdV s d p m = .error k') ∨ (k ≠ 0 ∧ k' = k))

theorem fleaf_end {K n : Int} {f m' q p m d g R V : Nat} {t s : ByteArray} {k k' : Int} {w WF : World} (hrd : RAt WF g s q k' (m' : Int)) (ho : Only w WF g)
    (hk : i64r K) (hn : i64r n) (hf : f < 18446744073709551616) (ht : strok t) (hq : q ≤ s.size) (hm : m' ≤ 201)
    (hr : (k = 0 ∧ k' = 0 ∧ m' ≤ 200 ∧ rdV s d p m = .ok (.mk K n f t .no [] .no [], q, m')) ∨ (k = 0 ∧ k' ≠ 0 ∧ rdV s d p m = .error k') ∨ (k ≠ 0 ∧ k' = k)) :
    FValD s d p m k g w (.returned (.agg #[.int .i64 K, .int .i64 n, .float .f64 f, .string t, .slice none 0 0, .slice none 0 0])) WF := by
  refine ⟨ho, .mk K n f t .no [] .no [], q, m', k', rfl, ?_, ?_, hrd, hq, hm, ?_⟩
  · rw [Val.in_iff]
    exact ⟨⟨hk, hn, hf, ht, by simp [Val.ns], by simp [Val.xs], fun s h => by simp [Val.ns] at h⟩, rfl, rfl, fun x hx => by simp [Val.xs] at hx⟩
  · rw [Val.sep_iff]
    exact ⟨trivial, trivial, fun x hx => by simp [Val.xs] at hx⟩
  · exact hr
theorem fnode_end {K : Int} {m' q p m d g R V : Nat} {s : ByteArray} {k k' : Int} {w WF : World} {ns : List ByteArray} {us : List Val} {an ax : Option Addr} {cn cx : Nat} (hrd : RAt WF g s q k' (m' : Int)) (ho : Only w WF g)
    (hg : Gath valE 46 (V + 1) WF ns us (.slice an ns.length cn) (.slice ax us.length cx)) (hV : w.heap.size ≤ V) (hk : i64r K) (hn : ns.length ≤ 300) (hx : us.length ≤ 300) (ht : ∀ t, t ∈ ns → t.size ≤ 30) (hq : q ≤ s.size) (hm : m' ≤ 201)
    (hr : (k = 0 ∧ k' = 0 ∧ m' ≤ 200 ∧ rdV s d p m = .ok (Val.node K ns (us.map Val.erase), q, m')) ∨ (k = 0 ∧ k' ≠ 0 ∧ rdV s d p m = .error k') ∨ (k ≠ 0 ∧ k' = k)) :
    FValD s d p m k g w (.returned (.agg #[.int .i64 K, .int .i64 0, .float .f64 0, .string ⟨#[]⟩, .slice an ns.length cn, .slice ax us.length cx])) WF := by
  obtain ⟨sn, hsn, hln, hspn⟩ := lies_of_own hg.names
  obtain ⟨sx, hsx, hlx, hspx⟩ := rowLies_of_own hg.items
  refine ⟨ho, .mk K 0 0 ⟨#[]⟩ sn ns sx us, q, m', k', ?_, ?_, ?_, hrd, hq, hm, ?_⟩
  · show _ = Ending.returned (.agg #[.int .i64 K, .int .i64 0, .float .f64 0, .string ⟨#[]⟩, sn.val ns.length, sx.val us.length])
    rw [← hsn, ← hsx]
  · rw [Val.in_iff]
    refine ⟨⟨hk, by unfold i64r; simp [Val.n], by simp [Val.f], by unfold strok; simp [Val.s]; decide, ?_, ?_, fun s hs => ?_⟩, hln, hlx, fun x hx' => (hg.each x hx').1⟩
    · show ns.length ≤ _; omega
    · show us.length ≤ _; omega
    · have := ht s hs; unfold strok; omega
  · rw [Val.sep_iff]
    exact ⟨hspn.mono (fun b hb => by omega), hspx.mono (fun b hb => by omega), fun x hx' => (hg.each x hx').2.mono (fun b hb => by have := hb.1; omega)⟩
  · rw [Val.erase_eq]
    exact hr

set_option maxHeartbeats 4000000 in
set_option maxRecDepth 100000 in
theorem fV_old (s : ByteArray) (hs : s.size ≤ 100000) (d p m deep g : Nat) (w : World) (hd : deep + d = 13) (hp : p ≤ s.size) (hm : m ≤ 200) (k : Int) (hk : k ≠ 0) (h : RAt w g s p k (m : Int)) :
    Calls Try.prog 81 #[.pointer (some ⟨g, 0, none⟩), .int .i64 deep] w fun e w' => FValD s d p m k g w e w' := by

  have hsf := run_store_flt
  obtain ⟨R, hR⟩ : ∃ R, R = w.heap.size := ⟨_, rfl⟩
  obtain ⟨W, hW⟩ : ∃ W, W = w.alloc (.cells #[.int .i64 0, .int .i64 0, .float .f64 0, .string ⟨#[]⟩, .slice none 0 0, .slice none 0 0] 46) := ⟨_, rfl⟩
  have hst : RS1 46 [.int .i64 0, .int .i64 0, .float .f64 0, .string ⟨#[]⟩, .slice none 0 0, .slice none 0 0] w W g R s p k (m : Int) := by rw [hR, hW]; exact RS1.start 46 [.int .i64 0, .int .i64 0, .float .f64 0, .string ⟨#[]⟩, .slice none 0 0, .slice none 0 0] h
  have HR := Lib.hid hR; have HW := Lib.hid hW; have HS0 := Lib.hid hst
  clear hR hW hst h
  have HBEG := Lib.hid (fbegin_old s p m deep g k W hm hk HS0.out.rd)
  have hk1 : (k == 0) = false := by simpa using hk
  have hk2 : (k != 0) = true := by simpa using hk
  have HK := Lib.hid hk
  clear hk

  go_enter Try.func81, Try.ntmps81
  go_wp2_with fail
  rw [← HW.out, ← HR.out]

  refine HBEG.out.mono ?_
  rintro e w1 ⟨rfl, ha1, ho1⟩
  have HS1 := Lib.hid (HS0.out.read ha1 ho1)
  clear ha1 ho1 HBEG HW
  have HB1 := Lib.hid (fbyte_old k s p ((m + 1 : Nat) : Int) g w1 HS1.out.rd HK.out)
  go_wp2_with fail
  refine HB1.out.mono ?_
  rintro e w2 ⟨rfl, rfl⟩
  have HS2 := HS1
  clear HB1 HS1

  obtain ⟨V, hV⟩ : ∃ V, V = w1.heap.size := ⟨_, rfl⟩
  obtain ⟨W2, hW2⟩ : ∃ W2, W2 = w1.alloc (.cells #[.int .i64 0, .int .i64 0, .float .f64 0, .string ⟨#[]⟩, .slice none 0 0, .slice none 0 0] 46) := ⟨_, rfl⟩
  have hs3 := HS2.out.make [.int .i64 0, .int .i64 0, .float .f64 0, .string ⟨#[]⟩, .slice none 0 0, .slice none 0 0]
  rw [show w1.alloc (.cells [.int .i64 0, .int .i64 0, .float .f64 0, .string ⟨#[]⟩, .slice none 0 0, .slice none 0 0].toArray 46) = W2 from hW2.symm, ← hV] at hs3
  have HS3 := Lib.hid hs3; have HW2 := Lib.hid hW2; have HV := Lib.hid hV
  clear hs3 hW2 hV HS2
  go_upto_region 3 with fail
  rw [← HW2.out, ← HV.out]
  have c0 := HS3.out.cell 0; have ce := HS3.out.err; have hvl := HS3.out.vlt
  simp only [List.getElem?_cons_zero, List.getElem?_cons_succ] at c0

  have e0 := HS3.out.cell 0; have e1 := HS3.out.cell 1; have e2 := HS3.out.cell 2; have e3 := HS3.out.cell 3; have e4 := HS3.out.cell 4; have e5 := HS3.out.cell 5
  simp only [List.getElem?_cons_zero, List.getElem?_cons_succ] at e0 e1 e2 e3 e4 e5
  have r0 := HS3.out.res.cell 0; have f0 := HS3.out.res.frozen 0; have r1 := HS3.out.res.cell 1; have f1 := HS3.out.res.frozen 1; have r2 := HS3.out.res.cell 2; have f2 := HS3.out.res.frozen 2; have r3 := HS3.out.res.cell 3; have f3 := HS3.out.res.frozen 3; have r4 := HS3.out.res.cell 4; have f4 := HS3.out.res.frozen 4; have r5 := HS3.out.res.cell 5; have f5 := HS3.out.res.frozen 5
  simp only [List.getElem?_toArray, List.getElem?_cons_zero, List.getElem?_cons_succ] at r0 r1 r2 r3 r4 r5
  obtain ⟨WF, hWF⟩ : ∃ WF, WF = ((((((W2.setCell ⟨R, 0, none⟩ (.int .i64 0)).setCell ⟨R, 1, none⟩ (.int .i64 0)).setCell ⟨R, 2, none⟩ (.float .f64 0)).setCell ⟨R, 3, none⟩ (.string ⟨#[]⟩)).setCell ⟨R, 4, none⟩ (.slice none 0 0)).setCell ⟨R, 5, none⟩ (.slice none 0 0)) := ⟨_, rfl⟩
  have hst := stored6' HS3.out.res (.int .i64 0) (.int .i64 0) (.float .f64 0) (.string ⟨#[]⟩) (.slice none 0 0) (.slice none 0 0)
  rw [← hWF] at hst
  have HST := Lib.hid hst; have HWF := Lib.hid hWF
  have HRD := Lib.hid (Blk.grown HS3.out.rd hst.2 (by have := HS3.out.glt; simp; omega))
  have HON := Lib.hid (only_far HS3.out.only hst.2 (by rw [HS3.out.eq]; exact Nat.le_refl _))
  clear hWF hst
  go_wp2_with fail
  rw [← HWF.out]
  clear e0 r0 f0 e1 r1 f1 e2 r2 f2 e3 r3 f3 e4 r4 f4 e5 r5 f5
  have e0 := HST.out.1.cell 0; have e1 := HST.out.1.cell 1; have e2 := HST.out.1.cell 2; have e3 := HST.out.1.cell 3; have e4 := HST.out.1.cell 4; have e5 := HST.out.1.cell 5
  simp only [List.getElem?_toArray, List.getElem?_cons_zero, List.getElem?_cons_succ] at e0 e1 e2 e3 e4 e5
  refine bodyPost_ret (v := .agg #[.int .i64 0, .int .i64 0, .float .f64 0, .string ⟨#[]⟩, .slice none 0 0, .slice none 0 0]) (by simp [results, Try.results81, go_sem, e0, e1, e2, e3, e4, e5]) rfl ?_
  exact fleaf_end (R := R) (V := V) HRD.out HON.out (by unfold i64r; omega) (by unfold i64r; omega) (by omega) (by unfold strok; decide) hp (by omega) (.inr (.inr ⟨HK.out, rfl⟩))

set_option maxHeartbeats 4000000 in
set_option maxRecDepth 100000 in
theorem fV_begin (s : ByteArray) (hs : s.size ≤ 100000) (d p m deep g : Nat) (w : World) (hd : deep + d = 13) (hp : p ≤ s.size) (hm : m ≤ 200) (hb : 12 < deep ∨ 200 < m + 1) (h : RAt w g s p 0 (m : Int)) :
    Calls Try.prog 81 #[.pointer (some ⟨g, 0, none⟩), .int .i64 deep] w fun e w' => FValD s d p m 0 g w e w' := by

  have hsf := run_store_flt
  obtain ⟨R, hR⟩ : ∃ R, R = w.heap.size := ⟨_, rfl⟩
  obtain ⟨W, hW⟩ : ∃ W, W = w.alloc (.cells #[.int .i64 0, .int .i64 0, .float .f64 0, .string ⟨#[]⟩, .slice none 0 0, .slice none 0 0] 46) := ⟨_, rfl⟩
  have hst : RS1 46 [.int .i64 0, .int .i64 0, .float .f64 0, .string ⟨#[]⟩, .slice none 0 0, .slice none 0 0] w W g R s p 0 (m : Int) := by rw [hR, hW]; exact RS1.start 46 [.int .i64 0, .int .i64 0, .float .f64 0, .string ⟨#[]⟩, .slice none 0 0, .slice none 0 0] h
  have HR := Lib.hid hR; have HW := Lib.hid hW; have HS0 := Lib.hid hst
  clear hR hW hst h
  have HBEG := Lib.hid (fbegin_bad s p m deep g W hm hb HS0.out.rd)
  have HE : Hid (rdV s d p m = .error 5) := Lib.hid (by
    cases d with
    | zero => unfold rdV; rfl
    | succ d => unfold rdV; rw [if_pos (by omega)])
  clear hb

  go_enter Try.func81, Try.ntmps81
  go_wp2_with fail
  rw [← HW.out, ← HR.out]

  refine HBEG.out.mono ?_
  rintro e w1 ⟨rfl, ha1, ho1⟩
  have HS1 := Lib.hid (HS0.out.read ha1 ho1)
  clear ha1 ho1 HBEG HW
  have HB1 := Lib.hid (fbyte_old 5 s p ((m + 1 : Nat) : Int) g w1 HS1.out.rd (by decide))
  go_wp2_with fail
  refine HB1.out.mono ?_
  rintro e w2 ⟨rfl, rfl⟩
  have HS2 := HS1
  clear HB1 HS1

  obtain ⟨V, hV⟩ : ∃ V, V = w1.heap.size := ⟨_, rfl⟩
  obtain ⟨W2, hW2⟩ : ∃ W2, W2 = w1.alloc (.cells #[.int .i64 0, .int .i64 0, .float .f64 0, .string ⟨#[]⟩, .slice none 0 0, .slice none 0 0] 46) := ⟨_, rfl⟩
  have hs3 := HS2.out.make [.int .i64 0, .int .i64 0, .float .f64 0, .string ⟨#[]⟩, .slice none 0 0, .slice none 0 0]
  rw [show w1.alloc (.cells [.int .i64 0, .int .i64 0, .float .f64 0, .string ⟨#[]⟩, .slice none 0 0, .slice none 0 0].toArray 46) = W2 from hW2.symm, ← hV] at hs3
  have HS3 := Lib.hid hs3; have HW2 := Lib.hid hW2; have HV := Lib.hid hV
  clear hs3 hW2 hV HS2
  go_upto_region 3 with fail
  rw [← HW2.out, ← HV.out]
  have c0 := HS3.out.cell 0; have ce := HS3.out.err; have hvl := HS3.out.vlt
  simp only [List.getElem?_cons_zero, List.getElem?_cons_succ] at c0

  have e0 := HS3.out.cell 0; have e1 := HS3.out.cell 1; have e2 := HS3.out.cell 2; have e3 := HS3.out.cell 3; have e4 := HS3.out.cell 4; have e5 := HS3.out.cell 5
  simp only [List.getElem?_cons_zero, List.getElem?_cons_succ] at e0 e1 e2 e3 e4 e5
  have r0 := HS3.out.res.cell 0; have f0 := HS3.out.res.frozen 0; have r1 := HS3.out.res.cell 1; have f1 := HS3.out.res.frozen 1; have r2 := HS3.out.res.cell 2; have f2 := HS3.out.res.frozen 2; have r3 := HS3.out.res.cell 3; have f3 := HS3.out.res.frozen 3; have r4 := HS3.out.res.cell 4; have f4 := HS3.out.res.frozen 4; have r5 := HS3.out.res.cell 5; have f5 := HS3.out.res.frozen 5
  simp only [List.getElem?_toArray, List.getElem?_cons_zero, List.getElem?_cons_succ] at r0 r1 r2 r3 r4 r5
  obtain ⟨WF, hWF⟩ : ∃ WF, WF = ((((((W2.setCell ⟨R, 0, none⟩ (.int .i64 0)).setCell ⟨R, 1, none⟩ (.int .i64 0)).setCell ⟨R, 2, none⟩ (.float .f64 0)).setCell ⟨R, 3, none⟩ (.string ⟨#[]⟩)).setCell ⟨R, 4, none⟩ (.slice none 0 0)).setCell ⟨R, 5, none⟩ (.slice none 0 0)) := ⟨_, rfl⟩
  have hst := stored6' HS3.out.res (.int .i64 0) (.int .i64 0) (.float .f64 0) (.string ⟨#[]⟩) (.slice none 0 0) (.slice none 0 0)
  rw [← hWF] at hst
  have HST := Lib.hid hst; have HWF := Lib.hid hWF
  have HRD := Lib.hid (Blk.grown HS3.out.rd hst.2 (by have := HS3.out.glt; simp; omega))
  have HON := Lib.hid (only_far HS3.out.only hst.2 (by rw [HS3.out.eq]; exact Nat.le_refl _))
  clear hWF hst
  go_wp2_with fail
  rw [← HWF.out]
  clear e0 r0 f0 e1 r1 f1 e2 r2 f2 e3 r3 f3 e4 r4 f4 e5 r5 f5
  have e0 := HST.out.1.cell 0; have e1 := HST.out.1.cell 1; have e2 := HST.out.1.cell 2; have e3 := HST.out.1.cell 3; have e4 := HST.out.1.cell 4; have e5 := HST.out.1.cell 5
  simp only [List.getElem?_toArray, List.getElem?_cons_zero, List.getElem?_cons_succ] at e0 e1 e2 e3 e4 e5
  refine bodyPost_ret (v := .agg #[.int .i64 0, .int .i64 0, .float .f64 0, .string ⟨#[]⟩, .slice none 0 0, .slice none 0 0]) (by simp [results, Try.results81, go_sem, e0, e1, e2, e3, e4, e5]) rfl ?_
  exact fleaf_end (R := R) (V := V) HRD.out HON.out (by unfold i64r; omega) (by unfold i64r; omega) (by omega) (by unfold strok; decide) hp (by omega) (.inr (.inl ⟨rfl, by decide, HE.out⟩))

set_option maxHeartbeats 4000000 in
set_option maxRecDepth 100000 in
theorem fV_torn (s : ByteArray) (hs : s.size ≤ 100000) (d p m deep g : Nat) (w : World) (hd : deep + d = 13) (hp : p ≤ s.size) (hm : m ≤ 200) (hd12 : deep ≤ 12) (hm1 : m + 1 ≤ 200) (hin : ¬ p < s.size) (h : RAt w g s p 0 (m : Int)) :
    Calls Try.prog 81 #[.pointer (some ⟨g, 0, none⟩), .int .i64 deep] w fun e w' => FValD s d p m 0 g w e w' := by

  have hsf := run_store_flt
  obtain ⟨R, hR⟩ : ∃ R, R = w.heap.size := ⟨_, rfl⟩
  obtain ⟨W, hW⟩ : ∃ W, W = w.alloc (.cells #[.int .i64 0, .int .i64 0, .float .f64 0, .string ⟨#[]⟩, .slice none 0 0, .slice none 0 0] 46) := ⟨_, rfl⟩
  have hst : RS1 46 [.int .i64 0, .int .i64 0, .float .f64 0, .string ⟨#[]⟩, .slice none 0 0, .slice none 0 0] w W g R s p 0 (m : Int) := by rw [hR, hW]; exact RS1.start 46 [.int .i64 0, .int .i64 0, .float .f64 0, .string ⟨#[]⟩, .slice none 0 0, .slice none 0 0] h
  have HR := Lib.hid hR; have HW := Lib.hid hW; have HS0 := Lib.hid hst
  clear hR hW hst h
  obtain ⟨d, rfl⟩ : ∃ d2, d = d2 + 1 := ⟨d - 1, by omega⟩
  have HBEG := Lib.hid (fbegin_ok s p m deep g 0 W hm (by omega) hm1 HS0.out.rd)
  have HE : Hid (rdV s (d + 1) p m = .error 14) := Lib.hid (by unfold rdV; rw [if_neg (by omega), if_pos (by omega)])

  go_enter Try.func81, Try.ntmps81
  go_wp2_with fail
  rw [← HW.out, ← HR.out]

  refine HBEG.out.mono ?_
  rintro e w1 ⟨rfl, ha1, ho1⟩
  have HS1 := Lib.hid (HS0.out.read ha1 ho1)
  clear ha1 ho1 HBEG HW
  have HB1 := Lib.hid (fbyte_torn s p ((m + 1 : Nat) : Int) g w1 hs (by omega) (by omega) HS1.out.rd)
  go_wp2_with fail
  refine HB1.out.mono ?_
  rintro e w2 ⟨rfl, ha2, ho2⟩
  have HS2 := Lib.hid (HS1.out.read ha2 ho2)
  clear ha2 ho2 HB1 HS1

  obtain ⟨V, hV⟩ : ∃ V, V = w2.heap.size := ⟨_, rfl⟩
  obtain ⟨W2, hW2⟩ : ∃ W2, W2 = w2.alloc (.cells #[.int .i64 0, .int .i64 0, .float .f64 0, .string ⟨#[]⟩, .slice none 0 0, .slice none 0 0] 46) := ⟨_, rfl⟩
  have hs3 := HS2.out.make [.int .i64 0, .int .i64 0, .float .f64 0, .string ⟨#[]⟩, .slice none 0 0, .slice none 0 0]
  rw [show w2.alloc (.cells [.int .i64 0, .int .i64 0, .float .f64 0, .string ⟨#[]⟩, .slice none 0 0, .slice none 0 0].toArray 46) = W2 from hW2.symm, ← hV] at hs3
  have HS3 := Lib.hid hs3; have HW2 := Lib.hid hW2; have HV := Lib.hid hV
  clear hs3 hW2 hV HS2
  go_upto_region 3 with fail
  rw [← HW2.out, ← HV.out]
  have c0 := HS3.out.cell 0; have ce := HS3.out.err; have hvl := HS3.out.vlt
  simp only [List.getElem?_cons_zero, List.getElem?_cons_succ] at c0

  have e0 := HS3.out.cell 0; have e1 := HS3.out.cell 1; have e2 := HS3.out.cell 2; have e3 := HS3.out.cell 3; have e4 := HS3.out.cell 4; have e5 := HS3.out.cell 5
  simp only [List.getElem?_cons_zero, List.getElem?_cons_succ] at e0 e1 e2 e3 e4 e5
  have r0 := HS3.out.res.cell 0; have f0 := HS3.out.res.frozen 0; have r1 := HS3.out.res.cell 1; have f1 := HS3.out.res.frozen 1; have r2 := HS3.out.res.cell 2; have f2 := HS3.out.res.frozen 2; have r3 := HS3.out.res.cell 3; have f3 := HS3.out.res.frozen 3; have r4 := HS3.out.res.cell 4; have f4 := HS3.out.res.frozen 4; have r5 := HS3.out.res.cell 5; have f5 := HS3.out.res.frozen 5
  simp only [List.getElem?_toArray, List.getElem?_cons_zero, List.getElem?_cons_succ] at r0 r1 r2 r3 r4 r5
  obtain ⟨WF, hWF⟩ : ∃ WF, WF = ((((((W2.setCell ⟨R, 0, none⟩ (.int .i64 0)).setCell ⟨R, 1, none⟩ (.int .i64 0)).setCell ⟨R, 2, none⟩ (.float .f64 0)).setCell ⟨R, 3, none⟩ (.string ⟨#[]⟩)).setCell ⟨R, 4, none⟩ (.slice none 0 0)).setCell ⟨R, 5, none⟩ (.slice none 0 0)) := ⟨_, rfl⟩
  have hst := stored6' HS3.out.res (.int .i64 0) (.int .i64 0) (.float .f64 0) (.string ⟨#[]⟩) (.slice none 0 0) (.slice none 0 0)
  rw [← hWF] at hst
  have HST := Lib.hid hst; have HWF := Lib.hid hWF
  have HRD := Lib.hid (Blk.grown HS3.out.rd hst.2 (by have := HS3.out.glt; simp; omega))
  have HON := Lib.hid (only_far HS3.out.only hst.2 (by rw [HS3.out.eq]; exact Nat.le_refl _))
  clear hWF hst
  go_wp2_with fail
  rw [← HWF.out]
  clear e0 r0 f0 e1 r1 f1 e2 r2 f2 e3 r3 f3 e4 r4 f4 e5 r5 f5
  have e0 := HST.out.1.cell 0; have e1 := HST.out.1.cell 1; have e2 := HST.out.1.cell 2; have e3 := HST.out.1.cell 3; have e4 := HST.out.1.cell 4; have e5 := HST.out.1.cell 5
  simp only [List.getElem?_toArray, List.getElem?_cons_zero, List.getElem?_cons_succ] at e0 e1 e2 e3 e4 e5
  refine bodyPost_ret (v := .agg #[.int .i64 0, .int .i64 0, .float .f64 0, .string ⟨#[]⟩, .slice none 0 0, .slice none 0 0]) (by simp [results, Try.results81, go_sem, e0, e1, e2, e3, e4, e5]) rfl ?_
  exact fleaf_end (R := R) (V := V) HRD.out HON.out (by unfold i64r; omega) (by unfold i64r; omega) (by omega) (by unfold strok; decide) hp (by omega) (.inr (.inl ⟨rfl, by decide, HE.out⟩))

set_option maxHeartbeats 4000000 in
set_option maxRecDepth 100000 in
theorem fV_low (s : ByteArray) (hs : s.size ≤ 100000) (d p m deep g : Nat) (w : World) (hd : deep + d = 13) (hp : p ≤ s.size) (hm : m ≤ 200) (hd12 : deep ≤ 12) (hm1 : m + 1 ≤ 200) (hin : p < s.size) (K : Nat) (hk : (byteAt s p).toNat = K) (hk1 : K = 0) (h : RAt w g s p 0 (m : Int)) :
    Calls Try.prog 81 #[.pointer (some ⟨g, 0, none⟩), .int .i64 deep] w fun e w' => FValD s d p m 0 g w e w' := by

  have hsf := run_store_flt
  obtain ⟨R, hR⟩ : ∃ R, R = w.heap.size := ⟨_, rfl⟩
  obtain ⟨W, hW⟩ : ∃ W, W = w.alloc (.cells #[.int .i64 0, .int .i64 0, .float .f64 0, .string ⟨#[]⟩, .slice none 0 0, .slice none 0 0] 46) := ⟨_, rfl⟩
  have hst : RS1 46 [.int .i64 0, .int .i64 0, .float .f64 0, .string ⟨#[]⟩, .slice none 0 0, .slice none 0 0] w W g R s p 0 (m : Int) := by rw [hR, hW]; exact RS1.start 46 [.int .i64 0, .int .i64 0, .float .f64 0, .string ⟨#[]⟩, .slice none 0 0, .slice none 0 0] h
  have HR := Lib.hid hR; have HW := Lib.hid hW; have HS0 := Lib.hid hst
  clear hR hW hst h
  obtain ⟨d, rfl⟩ : ∃ d2, d = d2 + 1 := ⟨d - 1, by omega⟩
  have HBEG := Lib.hid (fbegin_ok s p m deep g 0 W hm (by omega) hm1 HS0.out.rd)
  have HE : Hid (rdV s (d + 1) p m = .error 5) := Lib.hid (by unfold rdV; rw [if_neg (by omega), if_neg (by omega), if_neg (by omega), if_neg (by omega), if_neg (by omega), if_neg (by omega), if_neg (by omega)])
  have hK8 : K < 256 := by rw [← hk]; exact (byteAt s p).toNat_lt
  have i1 : decide ((K : Int) < 1) = true := by simp; omega
  clear hk1

  go_enter Try.func81, Try.ntmps81
  go_wp2_with fail
  rw [← HW.out, ← HR.out]

  refine HBEG.out.mono ?_
  rintro e w1 ⟨rfl, ha1, ho1⟩
  have HS1 := Lib.hid (HS0.out.read ha1 ho1)
  clear ha1 ho1 HBEG HW
  have HB1 := Lib.hid (fbyte_k s p ((m + 1 : Nat) : Int) g K w1 hs hin HS1.out.rd hk)
  go_wp2_with fail
  refine HB1.out.mono ?_
  rintro e w2 ⟨rfl, ha2, ho2⟩
  have HS2 := Lib.hid (HS1.out.read ha2 ho2)
  clear ha2 ho2 HB1 HS1

  obtain ⟨V, hV⟩ : ∃ V, V = w2.heap.size := ⟨_, rfl⟩
  obtain ⟨W2, hW2⟩ : ∃ W2, W2 = w2.alloc (.cells #[.int .i64 K, .int .i64 0, .float .f64 0, .string ⟨#[]⟩, .slice none 0 0, .slice none 0 0] 46) := ⟨_, rfl⟩
  have hs3 := HS2.out.make [.int .i64 K, .int .i64 0, .float .f64 0, .string ⟨#[]⟩, .slice none 0 0, .slice none 0 0]
  rw [show w2.alloc (.cells [.int .i64 K, .int .i64 0, .float .f64 0, .string ⟨#[]⟩, .slice none 0 0, .slice none 0 0].toArray 46) = W2 from hW2.symm, ← hV] at hs3
  have HS3 := Lib.hid hs3; have HW2 := Lib.hid hW2; have HV := Lib.hid hV
  clear hs3 hW2 hV HS2
  go_upto_region 3 with fail
  rw [← HW2.out, ← HV.out]
  have c0 := HS3.out.cell 0; have ce := HS3.out.err; have hvl := HS3.out.vlt
  simp only [List.getElem?_cons_zero, List.getElem?_cons_succ] at c0
  go_wp2_with fail
  refine (ffail_any 5 s (p + 1) ((m + 1 : Nat) : Int) g W2 HS3.out.rd).mono ?_
  rintro e w3 ⟨rfl, ha3, ho3⟩
  have HS4 := Lib.hid (HS3.out.read ha3 ho3)
  clear ha3 ho3 HS3 c0 ce
  have ce := HS4.out.err

  have e0 := HS4.out.cell 0; have e1 := HS4.out.cell 1; have e2 := HS4.out.cell 2; have e3 := HS4.out.cell 3; have e4 := HS4.out.cell 4; have e5 := HS4.out.cell 5
  simp only [List.getElem?_cons_zero, List.getElem?_cons_succ] at e0 e1 e2 e3 e4 e5
  have r0 := HS4.out.res.cell 0; have f0 := HS4.out.res.frozen 0; have r1 := HS4.out.res.cell 1; have f1 := HS4.out.res.frozen 1; have r2 := HS4.out.res.cell 2; have f2 := HS4.out.res.frozen 2; have r3 := HS4.out.res.cell 3; have f3 := HS4.out.res.frozen 3; have r4 := HS4.out.res.cell 4; have f4 := HS4.out.res.frozen 4; have r5 := HS4.out.res.cell 5; have f5 := HS4.out.res.frozen 5
  simp only [List.getElem?_toArray, List.getElem?_cons_zero, List.getElem?_cons_succ] at r0 r1 r2 r3 r4 r5
  obtain ⟨WF, hWF⟩ : ∃ WF, WF = ((((((w3.setCell ⟨R, 0, none⟩ (.int .i64 K)).setCell ⟨R, 1, none⟩ (.int .i64 0)).setCell ⟨R, 2, none⟩ (.float .f64 0)).setCell ⟨R, 3, none⟩ (.string ⟨#[]⟩)).setCell ⟨R, 4, none⟩ (.slice none 0 0)).setCell ⟨R, 5, none⟩ (.slice none 0 0)) := ⟨_, rfl⟩
  have hst := stored6' HS4.out.res (.int .i64 K) (.int .i64 0) (.float .f64 0) (.string ⟨#[]⟩) (.slice none 0 0) (.slice none 0 0)
  rw [← hWF] at hst
  have HST := Lib.hid hst; have HWF := Lib.hid hWF
  have HRD := Lib.hid (Blk.grown HS4.out.rd hst.2 (by have := HS4.out.glt; simp; omega))
  have HON := Lib.hid (only_far HS4.out.only hst.2 (by rw [HS4.out.eq]; exact Nat.le_refl _))
  clear hWF hst
  go_wp2_with fail
  rw [← HWF.out]
  clear e0 r0 f0 e1 r1 f1 e2 r2 f2 e3 r3 f3 e4 r4 f4 e5 r5 f5
  have e0 := HST.out.1.cell 0; have e1 := HST.out.1.cell 1; have e2 := HST.out.1.cell 2; have e3 := HST.out.1.cell 3; have e4 := HST.out.1.cell 4; have e5 := HST.out.1.cell 5
  simp only [List.getElem?_toArray, List.getElem?_cons_zero, List.getElem?_cons_succ] at e0 e1 e2 e3 e4 e5
  refine bodyPost_ret (v := .agg #[.int .i64 K, .int .i64 0, .float .f64 0, .string ⟨#[]⟩, .slice none 0 0, .slice none 0 0]) (by simp [results, Try.results81, go_sem, e0, e1, e2, e3, e4, e5]) rfl ?_
  exact fleaf_end (R := R) (V := V) HRD.out HON.out (by unfold i64r; omega) (by unfold i64r; omega) (by omega) (by unfold strok; decide) (by omega) (by omega) (.inr (.inl ⟨rfl, by decide, HE.out⟩))

set_option maxHeartbeats 4000000 in
set_option maxRecDepth 100000 in
theorem fV_high (s : ByteArray) (hs : s.size ≤ 100000) (d p m deep g : Nat) (w : World) (hd : deep + d = 13) (hp : p ≤ s.size) (hm : m ≤ 200) (hd12 : deep ≤ 12) (hm1 : m + 1 ≤ 200) (hin : p < s.size) (K : Nat) (hk : (byteAt s p).toNat = K) (hk1 : 6 < K) (h : RAt w g s p 0 (m : Int)) :
    Calls Try.prog 81 #[.pointer (some ⟨g, 0, none⟩), .int .i64 deep] w fun e w' => FValD s d p m 0 g w e w' := by

  have hsf := run_store_flt
  obtain ⟨R, hR⟩ : ∃ R, R = w.heap.size := ⟨_, rfl⟩
  obtain ⟨W, hW⟩ : ∃ W, W = w.alloc (.cells #[.int .i64 0, .int .i64 0, .float .f64 0, .string ⟨#[]⟩, .slice none 0 0, .slice none 0 0] 46) := ⟨_, rfl⟩
  have hst : RS1 46 [.int .i64 0, .int .i64 0, .float .f64 0, .string ⟨#[]⟩, .slice none 0 0, .slice none 0 0] w W g R s p 0 (m : Int) := by rw [hR, hW]; exact RS1.start 46 [.int .i64 0, .int .i64 0, .float .f64 0, .string ⟨#[]⟩, .slice none 0 0, .slice none 0 0] h
  have HR := Lib.hid hR; have HW := Lib.hid hW; have HS0 := Lib.hid hst
  clear hR hW hst h
  obtain ⟨d, rfl⟩ : ∃ d2, d = d2 + 1 := ⟨d - 1, by omega⟩
  have HBEG := Lib.hid (fbegin_ok s p m deep g 0 W hm (by omega) hm1 HS0.out.rd)
  have HE : Hid (rdV s (d + 1) p m = .error 5) := Lib.hid (by unfold rdV; rw [if_neg (by omega), if_neg (by omega), if_neg (by omega), if_neg (by omega), if_neg (by omega), if_neg (by omega), if_neg (by omega)])
  have hK8 : K < 256 := by rw [← hk]; exact (byteAt s p).toNat_lt
  have i1 : decide ((K : Int) < 1) = false := by simp; omega
  have i2 : decide ((6 : Int) < (K : Int)) = true := by simp; omega
  clear hk1

  go_enter Try.func81, Try.ntmps81
  go_wp2_with fail
  rw [← HW.out, ← HR.out]

  refine HBEG.out.mono ?_
  rintro e w1 ⟨rfl, ha1, ho1⟩
  have HS1 := Lib.hid (HS0.out.read ha1 ho1)
  clear ha1 ho1 HBEG HW
  have HB1 := Lib.hid (fbyte_k s p ((m + 1 : Nat) : Int) g K w1 hs hin HS1.out.rd hk)
  go_wp2_with fail
  refine HB1.out.mono ?_
  rintro e w2 ⟨rfl, ha2, ho2⟩
  have HS2 := Lib.hid (HS1.out.read ha2 ho2)
  clear ha2 ho2 HB1 HS1

  obtain ⟨V, hV⟩ : ∃ V, V = w2.heap.size := ⟨_, rfl⟩
  obtain ⟨W2, hW2⟩ : ∃ W2, W2 = w2.alloc (.cells #[.int .i64 K, .int .i64 0, .float .f64 0, .string ⟨#[]⟩, .slice none 0 0, .slice none 0 0] 46) := ⟨_, rfl⟩
  have hs3 := HS2.out.make [.int .i64 K, .int .i64 0, .float .f64 0, .string ⟨#[]⟩, .slice none 0 0, .slice none 0 0]
  rw [show w2.alloc (.cells [.int .i64 K, .int .i64 0, .float .f64 0, .string ⟨#[]⟩, .slice none 0 0, .slice none 0 0].toArray 46) = W2 from hW2.symm, ← hV] at hs3
  have HS3 := Lib.hid hs3; have HW2 := Lib.hid hW2; have HV := Lib.hid hV
  clear hs3 hW2 hV HS2
  go_upto_region 3 with fail
  rw [← HW2.out, ← HV.out]
  have c0 := HS3.out.cell 0; have ce := HS3.out.err; have hvl := HS3.out.vlt
  simp only [List.getElem?_cons_zero, List.getElem?_cons_succ] at c0
  go_wp2_with fail
  refine (ffail_any 5 s (p + 1) ((m + 1 : Nat) : Int) g W2 HS3.out.rd).mono ?_
  rintro e w3 ⟨rfl, ha3, ho3⟩
  have HS4 := Lib.hid (HS3.out.read ha3 ho3)
  clear ha3 ho3 HS3 c0 ce
  have ce := HS4.out.err

  have e0 := HS4.out.cell 0; have e1 := HS4.out.cell 1; have e2 := HS4.out.cell 2; have e3 := HS4.out.cell 3; have e4 := HS4.out.cell 4; have e5 := HS4.out.cell 5
  simp only [List.getElem?_cons_zero, List.getElem?_cons_succ] at e0 e1 e2 e3 e4 e5
  have r0 := HS4.out.res.cell 0; have f0 := HS4.out.res.frozen 0; have r1 := HS4.out.res.cell 1; have f1 := HS4.out.res.frozen 1; have r2 := HS4.out.res.cell 2; have f2 := HS4.out.res.frozen 2; have r3 := HS4.out.res.cell 3; have f3 := HS4.out.res.frozen 3; have r4 := HS4.out.res.cell 4; have f4 := HS4.out.res.frozen 4; have r5 := HS4.out.res.cell 5; have f5 := HS4.out.res.frozen 5
  simp only [List.getElem?_toArray, List.getElem?_cons_zero, List.getElem?_cons_succ] at r0 r1 r2 r3 r4 r5
  obtain ⟨WF, hWF⟩ : ∃ WF, WF = ((((((w3.setCell ⟨R, 0, none⟩ (.int .i64 K)).setCell ⟨R, 1, none⟩ (.int .i64 0)).setCell ⟨R, 2, none⟩ (.float .f64 0)).setCell ⟨R, 3, none⟩ (.string ⟨#[]⟩)).setCell ⟨R, 4, none⟩ (.slice none 0 0)).setCell ⟨R, 5, none⟩ (.slice none 0 0)) := ⟨_, rfl⟩
  have hst := stored6' HS4.out.res (.int .i64 K) (.int .i64 0) (.float .f64 0) (.string ⟨#[]⟩) (.slice none 0 0) (.slice none 0 0)
  rw [← hWF] at hst
  have HST := Lib.hid hst; have HWF := Lib.hid hWF
  have HRD := Lib.hid (Blk.grown HS4.out.rd hst.2 (by have := HS4.out.glt; simp; omega))
  have HON := Lib.hid (only_far HS4.out.only hst.2 (by rw [HS4.out.eq]; exact Nat.le_refl _))
  clear hWF hst
  go_wp2_with fail
  rw [← HWF.out]
  clear e0 r0 f0 e1 r1 f1 e2 r2 f2 e3 r3 f3 e4 r4 f4 e5 r5 f5
  have e0 := HST.out.1.cell 0; have e1 := HST.out.1.cell 1; have e2 := HST.out.1.cell 2; have e3 := HST.out.1.cell 3; have e4 := HST.out.1.cell 4; have e5 := HST.out.1.cell 5
  simp only [List.getElem?_toArray, List.getElem?_cons_zero, List.getElem?_cons_succ] at e0 e1 e2 e3 e4 e5
  refine bodyPost_ret (v := .agg #[.int .i64 K, .int .i64 0, .float .f64 0, .string ⟨#[]⟩, .slice none 0 0, .slice none 0 0]) (by simp [results, Try.results81, go_sem, e0, e1, e2, e3, e4, e5]) rfl ?_
  exact fleaf_end (R := R) (V := V) HRD.out HON.out (by unfold i64r; omega) (by unfold i64r; omega) (by omega) (by unfold strok; decide) (by omega) (by omega) (.inr (.inl ⟨rfl, by decide, HE.out⟩))

set_option maxHeartbeats 4000000 in
set_option maxRecDepth 100000 in
theorem fV_bool (s : ByteArray) (hs : s.size ≤ 100000) (d p m deep g : Nat) (w : World) (hd : deep + d = 13) (hp : p ≤ s.size) (hm : m ≤ 200) (hd12 : deep ≤ 12) (hm1 : m + 1 ≤ 200) (hin : p < s.size) (hk : (byteAt s p).toNat = 1) (h : RAt w g s p 0 (m : Int)) :
    Calls Try.prog 81 #[.pointer (some ⟨g, 0, none⟩), .int .i64 deep] w fun e w' => FValD s d p m 0 g w e w' := by

  have hsf := run_store_flt
  obtain ⟨R, hR⟩ : ∃ R, R = w.heap.size := ⟨_, rfl⟩
  obtain ⟨W, hW⟩ : ∃ W, W = w.alloc (.cells #[.int .i64 0, .int .i64 0, .float .f64 0, .string ⟨#[]⟩, .slice none 0 0, .slice none 0 0] 46) := ⟨_, rfl⟩
  have hst : RS1 46 [.int .i64 0, .int .i64 0, .float .f64 0, .string ⟨#[]⟩, .slice none 0 0, .slice none 0 0] w W g R s p 0 (m : Int) := by rw [hR, hW]; exact RS1.start 46 [.int .i64 0, .int .i64 0, .float .f64 0, .string ⟨#[]⟩, .slice none 0 0, .slice none 0 0] h
  have HR := Lib.hid hR; have HW := Lib.hid hW; have HS0 := Lib.hid hst
  clear hR hW hst h
  obtain ⟨d, rfl⟩ : ∃ d2, d = d2 + 1 := ⟨d - 1, by omega⟩
  have HBEG := Lib.hid (fbegin_ok s p m deep g 0 W hm (by omega) hm1 HS0.out.rd)

  go_enter Try.func81, Try.ntmps81
  go_wp2_with fail
  rw [← HW.out, ← HR.out]

  refine HBEG.out.mono ?_
  rintro e w1 ⟨rfl, ha1, ho1⟩
  have HS1 := Lib.hid (HS0.out.read ha1 ho1)
  clear ha1 ho1 HBEG HW
  have HB1 := Lib.hid (fbyte_k s p ((m + 1 : Nat) : Int) g 1 w1 hs hin HS1.out.rd hk)
  go_wp2_with fail
  refine HB1.out.mono ?_
  rintro e w2 ⟨rfl, ha2, ho2⟩
  have HS2 := Lib.hid (HS1.out.read ha2 ho2)
  clear ha2 ho2 HB1 HS1

  obtain ⟨V, hV⟩ : ∃ V, V = w2.heap.size := ⟨_, rfl⟩
  obtain ⟨W2, hW2⟩ : ∃ W2, W2 = w2.alloc (.cells #[.int .i64 1, .int .i64 0, .float .f64 0, .string ⟨#[]⟩, .slice none 0 0, .slice none 0 0] 46) := ⟨_, rfl⟩
  have hs3 := HS2.out.make [.int .i64 1, .int .i64 0, .float .f64 0, .string ⟨#[]⟩, .slice none 0 0, .slice none 0 0]
  rw [show w2.alloc (.cells [.int .i64 1, .int .i64 0, .float .f64 0, .string ⟨#[]⟩, .slice none 0 0, .slice none 0 0].toArray 46) = W2 from hW2.symm, ← hV] at hs3
  have HS3 := Lib.hid hs3; have HW2 := Lib.hid hW2; have HV := Lib.hid hV
  clear hs3 hW2 hV HS2
  go_upto_region 3 with fail
  rw [← HW2.out, ← HV.out]
  have c0 := HS3.out.cell 0; have ce := HS3.out.err; have hvl := HS3.out.vlt
  simp only [List.getElem?_cons_zero, List.getElem?_cons_succ] at c0
  have HB2 := Lib.hid (fbyte_any s (p + 1) ((m + 1 : Nat) : Int) g W2 hs (by omega) HS3.out.rd)
  go_wp2_with fail
  refine HB2.out.mono ?_
  rintro e w3 ⟨ho3, c, q, k, rfl, hc8, ha3, hq, hfin⟩
  have HS4 := Lib.hid (HS3.out.read ha3 ho3)
  have HFIN := Lib.hid hfin
  clear ha3 ho3 HB2 HS3 c0 ce hvl hfin
  have c1 := HS4.out.cell 1; have f1 := HS4.out.frozen 1; have hvl := HS4.out.vlt
  simp only [List.getElem?_cons_zero, List.getElem?_cons_succ] at c1
  obtain ⟨W4, hW4⟩ : ∃ W4, W4 = w3.setCell ⟨V, 1, none⟩ (.int .i64 c) := ⟨_, rfl⟩
  have hs5 := HS4.out.set_ 1 (.int .i64 c)
  rw [← hW4] at hs5
  have HS5 := Lib.hid hs5; have HW4 := Lib.hid hW4
  clear hs5 hW4
  go_upto_region 17 with fail
  rw [← HW4.out]
  clear c1 f1 hvl HS4
  have c1 := HS5.out.cell 1
  simp only [List.set_cons_zero, List.set_cons_succ, List.getElem?_cons_zero, List.getElem?_cons_succ] at c1
  by_cases hc1 : c ≤ 1
  · have i1 : decide ((1 : Int) < (c : Int)) = false := by simp; omega
    clear c1
    have c1 := HS5.out.cell 1
    simp only [List.set_cons_zero, List.set_cons_succ, List.getElem?_cons_zero, List.getElem?_cons_succ] at c1
    have HS6 : Hid (RS2 46 _ w W4 g R V s q k ((m + 1 : Nat) : Int) [.int .i64 1, .int .i64 c, .float .f64 0, .string ⟨#[]⟩, .slice none 0 0, .slice none 0 0]) := HS5

    have e0 := HS6.out.cell 0; have e1 := HS6.out.cell 1; have e2 := HS6.out.cell 2; have e3 := HS6.out.cell 3; have e4 := HS6.out.cell 4; have e5 := HS6.out.cell 5
    simp only [List.getElem?_cons_zero, List.getElem?_cons_succ] at e0 e1 e2 e3 e4 e5
    have r0 := HS6.out.res.cell 0; have f0 := HS6.out.res.frozen 0; have r1 := HS6.out.res.cell 1; have f1 := HS6.out.res.frozen 1; have r2 := HS6.out.res.cell 2; have f2 := HS6.out.res.frozen 2; have r3 := HS6.out.res.cell 3; have f3 := HS6.out.res.frozen 3; have r4 := HS6.out.res.cell 4; have f4 := HS6.out.res.frozen 4; have r5 := HS6.out.res.cell 5; have f5 := HS6.out.res.frozen 5
    simp only [List.getElem?_toArray, List.getElem?_cons_zero, List.getElem?_cons_succ] at r0 r1 r2 r3 r4 r5
    obtain ⟨WF, hWF⟩ : ∃ WF, WF = ((((((W4.setCell ⟨R, 0, none⟩ (.int .i64 1)).setCell ⟨R, 1, none⟩ (.int .i64 c)).setCell ⟨R, 2, none⟩ (.float .f64 0)).setCell ⟨R, 3, none⟩ (.string ⟨#[]⟩)).setCell ⟨R, 4, none⟩ (.slice none 0 0)).setCell ⟨R, 5, none⟩ (.slice none 0 0)) := ⟨_, rfl⟩
    have hst := stored6' HS6.out.res (.int .i64 1) (.int .i64 c) (.float .f64 0) (.string ⟨#[]⟩) (.slice none 0 0) (.slice none 0 0)
    rw [← hWF] at hst
    have HST := Lib.hid hst; have HWF := Lib.hid hWF
    have HRD := Lib.hid (Blk.grown HS6.out.rd hst.2 (by have := HS6.out.glt; simp; omega))
    have HON := Lib.hid (only_far HS6.out.only hst.2 (by rw [HS6.out.eq]; exact Nat.le_refl _))
    clear hWF hst
    go_wp2_with fail
    rw [← HWF.out]
    clear e0 r0 f0 e1 r1 f1 e2 r2 f2 e3 r3 f3 e4 r4 f4 e5 r5 f5
    have e0 := HST.out.1.cell 0; have e1 := HST.out.1.cell 1; have e2 := HST.out.1.cell 2; have e3 := HST.out.1.cell 3; have e4 := HST.out.1.cell 4; have e5 := HST.out.1.cell 5
    simp only [List.getElem?_toArray, List.getElem?_cons_zero, List.getElem?_cons_succ] at e0 e1 e2 e3 e4 e5
    refine bodyPost_ret (v := .agg #[.int .i64 1, .int .i64 c, .float .f64 0, .string ⟨#[]⟩, .slice none 0 0, .slice none 0 0]) (by simp [results, Try.results81, go_sem, e0, e1, e2, e3, e4, e5]) rfl ?_
    refine fleaf_end (R := R) (V := V) HRD.out HON.out (by unfold i64r; omega) (by unfold i64r; omega) (by omega) (by unfold strok; decide) hq (by omega) ?_
    rcases HFIN.out with ⟨rfl, rfl, h1, h2⟩ | ⟨rfl, rfl, h1⟩
    · exact .inl ⟨rfl, rfl, hm1, by unfold rdV; rw [if_neg (by omega), if_neg (by omega), if_pos hk, if_neg (by omega), ← h2, if_pos hc1]; rfl⟩
    · exact .inr (.inl ⟨rfl, by decide, by unfold rdV; rw [if_neg (by omega), if_neg (by omega), if_pos hk, if_pos (by omega)]⟩)
  · have i1 : decide ((1 : Int) < (c : Int)) = true := by simp; omega
    obtain ⟨hk0, hqe, h1, h2⟩ : k = 0 ∧ q = p + 1 + 1 ∧ p + 1 < s.size ∧ c = (byteAt s (p + 1)).toNat := by
      rcases HFIN.out with h | ⟨_, h, _⟩
      · exact h
      · omega
    have HE : Hid (rdV s (d + 1) p m = .error 5) := Lib.hid (by unfold rdV; rw [if_neg (by omega), if_neg (by omega), if_pos hk, if_neg (by omega), ← h2, if_neg hc1])
    rw [hk0] at HS5
    clear hk0 hqe h1 h2 HFIN
    go_wp2_with fail
    refine (ffail_any 5 s q ((m + 1 : Nat) : Int) g W4 HS5.out.rd).mono ?_
    rintro e w5 ⟨rfl, ha5, ho5⟩
    have HS6 : Hid (RS2 46 _ w w5 g R V s q 5 ((m + 1 : Nat) : Int) [.int .i64 1, .int .i64 c, .float .f64 0, .string ⟨#[]⟩, .slice none 0 0, .slice none 0 0]) := Lib.hid (HS5.out.read ha5 ho5)
    clear ha5 ho5 HS5 c1
    have e0 := HS6.out.cell 0; have e1 := HS6.out.cell 1; have e2 := HS6.out.cell 2; have e3 := HS6.out.cell 3; have e4 := HS6.out.cell 4; have e5 := HS6.out.cell 5
    simp only [List.getElem?_cons_zero, List.getElem?_cons_succ] at e0 e1 e2 e3 e4 e5
    have r0 := HS6.out.res.cell 0; have f0 := HS6.out.res.frozen 0; have r1 := HS6.out.res.cell 1; have f1 := HS6.out.res.frozen 1; have r2 := HS6.out.res.cell 2; have f2 := HS6.out.res.frozen 2; have r3 := HS6.out.res.cell 3; have f3 := HS6.out.res.frozen 3; have r4 := HS6.out.res.cell 4; have f4 := HS6.out.res.frozen 4; have r5 := HS6.out.res.cell 5; have f5 := HS6.out.res.frozen 5
    simp only [List.getElem?_toArray, List.getElem?_cons_zero, List.getElem?_cons_succ] at r0 r1 r2 r3 r4 r5
    obtain ⟨WF, hWF⟩ : ∃ WF, WF = ((((((w5.setCell ⟨R, 0, none⟩ (.int .i64 1)).setCell ⟨R, 1, none⟩ (.int .i64 c)).setCell ⟨R, 2, none⟩ (.float .f64 0)).setCell ⟨R, 3, none⟩ (.string ⟨#[]⟩)).setCell ⟨R, 4, none⟩ (.slice none 0 0)).setCell ⟨R, 5, none⟩ (.slice none 0 0)) := ⟨_, rfl⟩
    have hst := stored6' HS6.out.res (.int .i64 1) (.int .i64 c) (.float .f64 0) (.string ⟨#[]⟩) (.slice none 0 0) (.slice none 0 0)
    rw [← hWF] at hst
    have HST := Lib.hid hst; have HWF := Lib.hid hWF
    have HRD := Lib.hid (Blk.grown HS6.out.rd hst.2 (by have := HS6.out.glt; simp; omega))
    have HON := Lib.hid (only_far HS6.out.only hst.2 (by rw [HS6.out.eq]; exact Nat.le_refl _))
    clear hWF hst
    go_wp2_with fail
    rw [← HWF.out]
    clear e0 r0 f0 e1 r1 f1 e2 r2 f2 e3 r3 f3 e4 r4 f4 e5 r5 f5
    have e0 := HST.out.1.cell 0; have e1 := HST.out.1.cell 1; have e2 := HST.out.1.cell 2; have e3 := HST.out.1.cell 3; have e4 := HST.out.1.cell 4; have e5 := HST.out.1.cell 5
    simp only [List.getElem?_toArray, List.getElem?_cons_zero, List.getElem?_cons_succ] at e0 e1 e2 e3 e4 e5
    refine bodyPost_ret (v := .agg #[.int .i64 1, .int .i64 c, .float .f64 0, .string ⟨#[]⟩, .slice none 0 0, .slice none 0 0]) (by simp [results, Try.results81, go_sem, e0, e1, e2, e3, e4, e5]) rfl ?_
    exact fleaf_end (R := R) (V := V) HRD.out HON.out (by unfold i64r; omega) (by unfold i64r; omega) (by omega) (by unfold strok; decide) hq (by omega) (.inr (.inl ⟨rfl, by decide, HE.out⟩))

set_option maxHeartbeats 4000000 in
set_option maxRecDepth 100000 in
theorem fV_int_bad (s : ByteArray) (hs : s.size ≤ 100000) (d p m deep g : Nat) (w : World) (hd : deep + d = 13) (hp : p ≤ s.size) (hm : m ≤ 200) (hd12 : deep ≤ 12) (hm1 : m + 1 ≤ 200) (hin : p < s.size) (hk : (byteAt s p).toNat = 2) (k : Int) (hu : readU s (p + 1) 0 0 = .error k) (h : RAt w g s p 0 (m : Int)) :
    Calls Try.prog 81 #[.pointer (some ⟨g, 0, none⟩), .int .i64 deep] w fun e w' => FValD s d p m 0 g w e w' := by

  have hsf := run_store_flt
  obtain ⟨R, hR⟩ : ∃ R, R = w.heap.size := ⟨_, rfl⟩
  obtain ⟨W, hW⟩ : ∃ W, W = w.alloc (.cells #[.int .i64 0, .int .i64 0, .float .f64 0, .string ⟨#[]⟩, .slice none 0 0, .slice none 0 0] 46) := ⟨_, rfl⟩
  have hst : RS1 46 [.int .i64 0, .int .i64 0, .float .f64 0, .string ⟨#[]⟩, .slice none 0 0, .slice none 0 0] w W g R s p 0 (m : Int) := by rw [hR, hW]; exact RS1.start 46 [.int .i64 0, .int .i64 0, .float .f64 0, .string ⟨#[]⟩, .slice none 0 0, .slice none 0 0] h
  have HR := Lib.hid hR; have HW := Lib.hid hW; have HS0 := Lib.hid hst
  clear hR hW hst h
  obtain ⟨d, rfl⟩ : ∃ d2, d = d2 + 1 := ⟨d - 1, by omega⟩
  have HBEG := Lib.hid (fbegin_ok s p m deep g 0 W hm (by omega) hm1 HS0.out.rd)
  have HE : Hid (rdV s (d + 1) p m = .error k) := Lib.hid (by unfold rdV; rw [if_neg (by omega), if_neg (by omega), if_neg (by rw [hk]; decide), if_pos hk, hu])
  have HK : Hid (k ≠ 0) := Lib.hid (by rcases readU_err s (p + 1) 0 0 k hu with rfl | rfl <;> decide)

  go_enter Try.func81, Try.ntmps81
  go_wp2_with fail
  rw [← HW.out, ← HR.out]

  refine HBEG.out.mono ?_
  rintro e w1 ⟨rfl, ha1, ho1⟩
  have HS1 := Lib.hid (HS0.out.read ha1 ho1)
  clear ha1 ho1 HBEG HW
  have HB1 := Lib.hid (fbyte_k s p ((m + 1 : Nat) : Int) g 2 w1 hs hin HS1.out.rd hk)
  go_wp2_with fail
  refine HB1.out.mono ?_
  rintro e w2 ⟨rfl, ha2, ho2⟩
  have HS2 := Lib.hid (HS1.out.read ha2 ho2)
  clear ha2 ho2 HB1 HS1

  obtain ⟨V, hV⟩ : ∃ V, V = w2.heap.size := ⟨_, rfl⟩
  obtain ⟨W2, hW2⟩ : ∃ W2, W2 = w2.alloc (.cells #[.int .i64 2, .int .i64 0, .float .f64 0, .string ⟨#[]⟩, .slice none 0 0, .slice none 0 0] 46) := ⟨_, rfl⟩
  have hs3 := HS2.out.make [.int .i64 2, .int .i64 0, .float .f64 0, .string ⟨#[]⟩, .slice none 0 0, .slice none 0 0]
  rw [show w2.alloc (.cells [.int .i64 2, .int .i64 0, .float .f64 0, .string ⟨#[]⟩, .slice none 0 0, .slice none 0 0].toArray 46) = W2 from hW2.symm, ← hV] at hs3
  have HS3 := Lib.hid hs3; have HW2 := Lib.hid hW2; have HV := Lib.hid hV
  clear hs3 hW2 hV HS2
  go_upto_region 3 with fail
  rw [← HW2.out, ← HV.out]
  have c0 := HS3.out.cell 0; have ce := HS3.out.err; have hvl := HS3.out.vlt
  simp only [List.getElem?_cons_zero, List.getElem?_cons_succ] at c0
  have HB2 := Lib.hid (fint_any s (p + 1) ((m + 1 : Nat) : Int) g W2 hs (by omega) HS3.out.rd)
  rw [hu] at HB2
  go_wp2_with fail
  refine HB2.out.mono ?_
  rintro e w3 ⟨ho3, rfl, q, hq, ha3⟩
  have HS4 := Lib.hid (HS3.out.read ha3 ho3)
  clear ha3 ho3 HB2 HS3 c0 ce hvl hu
  have c1 := HS4.out.cell 1; have f1 := HS4.out.frozen 1; have hvl := HS4.out.vlt
  simp only [List.getElem?_cons_zero, List.getElem?_cons_succ] at c1
  obtain ⟨W4, hW4⟩ : ∃ W4, W4 = w3.setCell ⟨V, 1, none⟩ (.int .i64 0) := ⟨_, rfl⟩
  have hs5 := HS4.out.set_ 1 (.int .i64 0)
  rw [← hW4] at hs5
  have HS5 := Lib.hid hs5; have HW4 := Lib.hid hW4
  clear hs5 hW4
  go_upto_region 32 with fail
  rw [← HW4.out]
  clear c1 f1 hvl HS4
  have HS6 : Hid (RS2 46 _ w W4 g R V s q k ((m + 1 : Nat) : Int) [.int .i64 2, .int .i64 0, .float .f64 0, .string ⟨#[]⟩, .slice none 0 0, .slice none 0 0]) := HS5

  have e0 := HS6.out.cell 0; have e1 := HS6.out.cell 1; have e2 := HS6.out.cell 2; have e3 := HS6.out.cell 3; have e4 := HS6.out.cell 4; have e5 := HS6.out.cell 5
  simp only [List.getElem?_cons_zero, List.getElem?_cons_succ] at e0 e1 e2 e3 e4 e5
  have r0 := HS6.out.res.cell 0; have f0 := HS6.out.res.frozen 0; have r1 := HS6.out.res.cell 1; have f1 := HS6.out.res.frozen 1; have r2 := HS6.out.res.cell 2; have f2 := HS6.out.res.frozen 2; have r3 := HS6.out.res.cell 3; have f3 := HS6.out.res.frozen 3; have r4 := HS6.out.res.cell 4; have f4 := HS6.out.res.frozen 4; have r5 := HS6.out.res.cell 5; have f5 := HS6.out.res.frozen 5
  simp only [List.getElem?_toArray, List.getElem?_cons_zero, List.getElem?_cons_succ] at r0 r1 r2 r3 r4 r5
  obtain ⟨WF, hWF⟩ : ∃ WF, WF = ((((((W4.setCell ⟨R, 0, none⟩ (.int .i64 2)).setCell ⟨R, 1, none⟩ (.int .i64 0)).setCell ⟨R, 2, none⟩ (.float .f64 0)).setCell ⟨R, 3, none⟩ (.string ⟨#[]⟩)).setCell ⟨R, 4, none⟩ (.slice none 0 0)).setCell ⟨R, 5, none⟩ (.slice none 0 0)) := ⟨_, rfl⟩
  have hst := stored6' HS6.out.res (.int .i64 2) (.int .i64 0) (.float .f64 0) (.string ⟨#[]⟩) (.slice none 0 0) (.slice none 0 0)
  rw [← hWF] at hst
  have HST := Lib.hid hst; have HWF := Lib.hid hWF
  have HRD := Lib.hid (Blk.grown HS6.out.rd hst.2 (by have := HS6.out.glt; simp; omega))
  have HON := Lib.hid (only_far HS6.out.only hst.2 (by rw [HS6.out.eq]; exact Nat.le_refl _))
  clear hWF hst
  go_wp2_with fail
  rw [← HWF.out]
  clear e0 r0 f0 e1 r1 f1 e2 r2 f2 e3 r3 f3 e4 r4 f4 e5 r5 f5
  have e0 := HST.out.1.cell 0; have e1 := HST.out.1.cell 1; have e2 := HST.out.1.cell 2; have e3 := HST.out.1.cell 3; have e4 := HST.out.1.cell 4; have e5 := HST.out.1.cell 5
  simp only [List.getElem?_toArray, List.getElem?_cons_zero, List.getElem?_cons_succ] at e0 e1 e2 e3 e4 e5
  refine bodyPost_ret (v := .agg #[.int .i64 2, .int .i64 0, .float .f64 0, .string ⟨#[]⟩, .slice none 0 0, .slice none 0 0]) (by simp [results, Try.results81, go_sem, e0, e1, e2, e3, e4, e5]) rfl ?_
  exact fleaf_end (R := R) (V := V) HRD.out HON.out (by unfold i64r; omega) (by unfold i64r; omega) (by omega) (by unfold strok; decide) hq (by omega) (.inr (.inl ⟨rfl, HK.out, HE.out⟩))

set_option maxHeartbeats 4000000 in
set_option maxRecDepth 100000 in
theorem fV_int_ok (s : ByteArray) (hs : s.size ≤ 100000) (d p m deep g : Nat) (w : World) (hd : deep + d = 13) (hp : p ≤ s.size) (hm : m ≤ 200) (hd12 : deep ≤ 12) (hm1 : m + 1 ≤ 200) (hin : p < s.size) (hk : (byteAt s p).toNat = 2) (n q : Nat) (hu : readU s (p + 1) 0 0 = .ok (n, q)) (h : RAt w g s p 0 (m : Int)) :
    Calls Try.prog 81 #[.pointer (some ⟨g, 0, none⟩), .int .i64 deep] w fun e w' => FValD s d p m 0 g w e w' := by

  have hsf := run_store_flt
  obtain ⟨R, hR⟩ : ∃ R, R = w.heap.size := ⟨_, rfl⟩
  obtain ⟨W, hW⟩ : ∃ W, W = w.alloc (.cells #[.int .i64 0, .int .i64 0, .float .f64 0, .string ⟨#[]⟩, .slice none 0 0, .slice none 0 0] 46) := ⟨_, rfl⟩
  have hst : RS1 46 [.int .i64 0, .int .i64 0, .float .f64 0, .string ⟨#[]⟩, .slice none 0 0, .slice none 0 0] w W g R s p 0 (m : Int) := by rw [hR, hW]; exact RS1.start 46 [.int .i64 0, .int .i64 0, .float .f64 0, .string ⟨#[]⟩, .slice none 0 0, .slice none 0 0] h
  have HR := Lib.hid hR; have HW := Lib.hid hW; have HS0 := Lib.hid hst
  clear hR hW hst h
  obtain ⟨d, rfl⟩ : ∃ d2, d = d2 + 1 := ⟨d - 1, by omega⟩
  have HBEG := Lib.hid (fbegin_ok s p m deep g 0 W hm (by omega) hm1 HS0.out.rd)
  have HE : Hid (rdV s (d + 1) p m = .ok (Val.leafN 2 (unzig n), q, m + 1)) := Lib.hid (by unfold rdV; rw [if_neg (by omega), if_neg (by omega), if_neg (by rw [hk]; decide), if_pos hk, hu])
  have hul := readU_lt s (p + 1) 0 0 (by decide) (by omega) n q hu
  have hul1 := hul.1
  have hq := hul.2.2

  go_enter Try.func81, Try.ntmps81
  go_wp2_with fail
  rw [← HW.out, ← HR.out]

  refine HBEG.out.mono ?_
  rintro e w1 ⟨rfl, ha1, ho1⟩
  have HS1 := Lib.hid (HS0.out.read ha1 ho1)
  clear ha1 ho1 HBEG HW
  have HB1 := Lib.hid (fbyte_k s p ((m + 1 : Nat) : Int) g 2 w1 hs hin HS1.out.rd hk)
  go_wp2_with fail
  refine HB1.out.mono ?_
  rintro e w2 ⟨rfl, ha2, ho2⟩
  have HS2 := Lib.hid (HS1.out.read ha2 ho2)
  clear ha2 ho2 HB1 HS1

  obtain ⟨V, hV⟩ : ∃ V, V = w2.heap.size := ⟨_, rfl⟩
  obtain ⟨W2, hW2⟩ : ∃ W2, W2 = w2.alloc (.cells #[.int .i64 2, .int .i64 0, .float .f64 0, .string ⟨#[]⟩, .slice none 0 0, .slice none 0 0] 46) := ⟨_, rfl⟩
  have hs3 := HS2.out.make [.int .i64 2, .int .i64 0, .float .f64 0, .string ⟨#[]⟩, .slice none 0 0, .slice none 0 0]
  rw [show w2.alloc (.cells [.int .i64 2, .int .i64 0, .float .f64 0, .string ⟨#[]⟩, .slice none 0 0, .slice none 0 0].toArray 46) = W2 from hW2.symm, ← hV] at hs3
  have HS3 := Lib.hid hs3; have HW2 := Lib.hid hW2; have HV := Lib.hid hV
  clear hs3 hW2 hV HS2
  go_upto_region 3 with fail
  rw [← HW2.out, ← HV.out]
  have c0 := HS3.out.cell 0; have ce := HS3.out.err; have hvl := HS3.out.vlt
  simp only [List.getElem?_cons_zero, List.getElem?_cons_succ] at c0
  have HB2 := Lib.hid (fint_any s (p + 1) ((m + 1 : Nat) : Int) g W2 hs (by omega) HS3.out.rd)
  rw [hu] at HB2
  go_wp2_with fail
  refine HB2.out.mono ?_
  rintro e w3 ⟨ho3, rfl, ha3⟩
  have HS4 := Lib.hid (HS3.out.read ha3 ho3)
  clear ha3 ho3 HB2 HS3 c0 ce hvl hu
  have c1 := HS4.out.cell 1; have f1 := HS4.out.frozen 1; have hvl := HS4.out.vlt
  simp only [List.getElem?_cons_zero, List.getElem?_cons_succ] at c1
  obtain ⟨W4, hW4⟩ : ∃ W4, W4 = w3.setCell ⟨V, 1, none⟩ (.int .i64 (unzig n)) := ⟨_, rfl⟩
  have hs5 := HS4.out.set_ 1 (.int .i64 (unzig n))
  rw [← hW4] at hs5
  have HS5 := Lib.hid hs5; have HW4 := Lib.hid hW4
  clear hs5 hW4
  go_upto_region 32 with fail
  rw [← HW4.out]
  clear c1 f1 hvl HS4
  have HS6 : Hid (RS2 46 _ w W4 g R V s q 0 ((m + 1 : Nat) : Int) [.int .i64 2, .int .i64 (unzig n), .float .f64 0, .string ⟨#[]⟩, .slice none 0 0, .slice none 0 0]) := HS5

  have e0 := HS6.out.cell 0; have e1 := HS6.out.cell 1; have e2 := HS6.out.cell 2; have e3 := HS6.out.cell 3; have e4 := HS6.out.cell 4; have e5 := HS6.out.cell 5
  simp only [List.getElem?_cons_zero, List.getElem?_cons_succ] at e0 e1 e2 e3 e4 e5
  have r0 := HS6.out.res.cell 0; have f0 := HS6.out.res.frozen 0; have r1 := HS6.out.res.cell 1; have f1 := HS6.out.res.frozen 1; have r2 := HS6.out.res.cell 2; have f2 := HS6.out.res.frozen 2; have r3 := HS6.out.res.cell 3; have f3 := HS6.out.res.frozen 3; have r4 := HS6.out.res.cell 4; have f4 := HS6.out.res.frozen 4; have r5 := HS6.out.res.cell 5; have f5 := HS6.out.res.frozen 5
  simp only [List.getElem?_toArray, List.getElem?_cons_zero, List.getElem?_cons_succ] at r0 r1 r2 r3 r4 r5
  obtain ⟨WF, hWF⟩ : ∃ WF, WF = ((((((W4.setCell ⟨R, 0, none⟩ (.int .i64 2)).setCell ⟨R, 1, none⟩ (.int .i64 (unzig n))).setCell ⟨R, 2, none⟩ (.float .f64 0)).setCell ⟨R, 3, none⟩ (.string ⟨#[]⟩)).setCell ⟨R, 4, none⟩ (.slice none 0 0)).setCell ⟨R, 5, none⟩ (.slice none 0 0)) := ⟨_, rfl⟩
  have hst := stored6' HS6.out.res (.int .i64 2) (.int .i64 (unzig n)) (.float .f64 0) (.string ⟨#[]⟩) (.slice none 0 0) (.slice none 0 0)
  rw [← hWF] at hst
  have HST := Lib.hid hst; have HWF := Lib.hid hWF
  have HRD := Lib.hid (Blk.grown HS6.out.rd hst.2 (by have := HS6.out.glt; simp; omega))
  have HON := Lib.hid (only_far HS6.out.only hst.2 (by rw [HS6.out.eq]; exact Nat.le_refl _))
  clear hWF hst
  go_wp2_with fail
  rw [← HWF.out]
  clear e0 r0 f0 e1 r1 f1 e2 r2 f2 e3 r3 f3 e4 r4 f4 e5 r5 f5
  have e0 := HST.out.1.cell 0; have e1 := HST.out.1.cell 1; have e2 := HST.out.1.cell 2; have e3 := HST.out.1.cell 3; have e4 := HST.out.1.cell 4; have e5 := HST.out.1.cell 5
  simp only [List.getElem?_toArray, List.getElem?_cons_zero, List.getElem?_cons_succ] at e0 e1 e2 e3 e4 e5
  refine bodyPost_ret (v := .agg #[.int .i64 2, .int .i64 (unzig n), .float .f64 0, .string ⟨#[]⟩, .slice none 0 0, .slice none 0 0]) (by simp [results, Try.results81, go_sem, e0, e1, e2, e3, e4, e5]) rfl ?_
  exact fleaf_end (R := R) (V := V) HRD.out HON.out (by unfold i64r; omega) (by unfold i64r unzig; split <;> omega) (by omega) (by unfold strok; decide) hq (by omega) (.inl ⟨rfl, rfl, hm1, HE.out⟩)

set_option maxHeartbeats 4000000 in
set_option maxRecDepth 100000 in
theorem fV_str (s : ByteArray) (hs : s.size ≤ 100000) (d p m deep g : Nat) (w : World) (hd : deep + d = 13) (hp : p ≤ s.size) (hm : m ≤ 200) (hd12 : deep ≤ 12) (hm1 : m + 1 ≤ 200) (hin : p < s.size) (hk : (byteAt s p).toNat = 4) (h : RAt w g s p 0 (m : Int)) :
    Calls Try.prog 81 #[.pointer (some ⟨g, 0, none⟩), .int .i64 deep] w fun e w' => FValD s d p m 0 g w e w' := by

  have hsf := run_store_flt
  obtain ⟨R, hR⟩ : ∃ R, R = w.heap.size := ⟨_, rfl⟩
  obtain ⟨W, hW⟩ : ∃ W, W = w.alloc (.cells #[.int .i64 0, .int .i64 0, .float .f64 0, .string ⟨#[]⟩, .slice none 0 0, .slice none 0 0] 46) := ⟨_, rfl⟩
  have hst : RS1 46 [.int .i64 0, .int .i64 0, .float .f64 0, .string ⟨#[]⟩, .slice none 0 0, .slice none 0 0] w W g R s p 0 (m : Int) := by rw [hR, hW]; exact RS1.start 46 [.int .i64 0, .int .i64 0, .float .f64 0, .string ⟨#[]⟩, .slice none 0 0, .slice none 0 0] h
  have HR := Lib.hid hR; have HW := Lib.hid hW; have HS0 := Lib.hid hst
  clear hR hW hst h
  obtain ⟨d, rfl⟩ : ∃ d2, d = d2 + 1 := ⟨d - 1, by omega⟩
  have HBEG := Lib.hid (fbegin_ok s p m deep g 0 W hm (by omega) hm1 HS0.out.rd)

  go_enter Try.func81, Try.ntmps81
  go_wp2_with fail
  rw [← HW.out, ← HR.out]

  refine HBEG.out.mono ?_
  rintro e w1 ⟨rfl, ha1, ho1⟩
  have HS1 := Lib.hid (HS0.out.read ha1 ho1)
  clear ha1 ho1 HBEG HW
  have HB1 := Lib.hid (fbyte_k s p ((m + 1 : Nat) : Int) g 4 w1 hs hin HS1.out.rd hk)
  go_wp2_with fail
  refine HB1.out.mono ?_
  rintro e w2 ⟨rfl, ha2, ho2⟩
  have HS2 := Lib.hid (HS1.out.read ha2 ho2)
  clear ha2 ho2 HB1 HS1

  obtain ⟨V, hV⟩ : ∃ V, V = w2.heap.size := ⟨_, rfl⟩
  obtain ⟨W2, hW2⟩ : ∃ W2, W2 = w2.alloc (.cells #[.int .i64 4, .int .i64 0, .float .f64 0, .string ⟨#[]⟩, .slice none 0 0, .slice none 0 0] 46) := ⟨_, rfl⟩
  have hs3 := HS2.out.make [.int .i64 4, .int .i64 0, .float .f64 0, .string ⟨#[]⟩, .slice none 0 0, .slice none 0 0]
  rw [show w2.alloc (.cells [.int .i64 4, .int .i64 0, .float .f64 0, .string ⟨#[]⟩, .slice none 0 0, .slice none 0 0].toArray 46) = W2 from hW2.symm, ← hV] at hs3
  have HS3 := Lib.hid hs3; have HW2 := Lib.hid hW2; have HV := Lib.hid hV
  clear hs3 hW2 hV HS2
  go_upto_region 3 with fail
  rw [← HW2.out, ← HV.out]
  have c0 := HS3.out.cell 0; have ce := HS3.out.err; have hvl := HS3.out.vlt
  simp only [List.getElem?_cons_zero, List.getElem?_cons_succ] at c0
  have HB2 := Lib.hid (fstrD_any s (p + 1) ((m + 1 : Nat) : Int) 200 g W2 hs (by omega) (by omega) (by omega) HS3.out.rd)
  go_wp2_with fail
  refine HB2.out.mono ?_
  rintro e w3 ⟨ho3, t, q, k, rfl, ha3, hq, htz, hfin⟩
  have HS4 := Lib.hid (HS3.out.read ha3 ho3)
  have HFIN := Lib.hid hfin
  clear ha3 ho3 HB2 HS3 c0 ce hvl hfin
  have c1 := HS4.out.cell 3; have f1 := HS4.out.frozen 3; have hvl := HS4.out.vlt
  simp only [List.getElem?_cons_zero, List.getElem?_cons_succ] at c1
  obtain ⟨W4, hW4⟩ : ∃ W4, W4 = w3.setCell ⟨V, 3, none⟩ (.string t) := ⟨_, rfl⟩
  have hs5 := HS4.out.set_ 3 (.string t)
  rw [← hW4] at hs5
  have HS5 := Lib.hid hs5; have HW4 := Lib.hid hW4
  clear hs5 hW4
  go_upto_region 32 with fail
  rw [← HW4.out]
  clear c1 f1 hvl HS4
  have HS6 : Hid (RS2 46 _ w W4 g R V s q k ((m + 1 : Nat) : Int) [.int .i64 4, .int .i64 0, .float .f64 0, .string t, .slice none 0 0, .slice none 0 0]) := HS5

  have e0 := HS6.out.cell 0; have e1 := HS6.out.cell 1; have e2 := HS6.out.cell 2; have e3 := HS6.out.cell 3; have e4 := HS6.out.cell 4; have e5 := HS6.out.cell 5
  simp only [List.getElem?_cons_zero, List.getElem?_cons_succ] at e0 e1 e2 e3 e4 e5
  have r0 := HS6.out.res.cell 0; have f0 := HS6.out.res.frozen 0; have r1 := HS6.out.res.cell 1; have f1 := HS6.out.res.frozen 1; have r2 := HS6.out.res.cell 2; have f2 := HS6.out.res.frozen 2; have r3 := HS6.out.res.cell 3; have f3 := HS6.out.res.frozen 3; have r4 := HS6.out.res.cell 4; have f4 := HS6.out.res.frozen 4; have r5 := HS6.out.res.cell 5; have f5 := HS6.out.res.frozen 5
  simp only [List.getElem?_toArray, List.getElem?_cons_zero, List.getElem?_cons_succ] at r0 r1 r2 r3 r4 r5
  obtain ⟨WF, hWF⟩ : ∃ WF, WF = ((((((W4.setCell ⟨R, 0, none⟩ (.int .i64 4)).setCell ⟨R, 1, none⟩ (.int .i64 0)).setCell ⟨R, 2, none⟩ (.float .f64 0)).setCell ⟨R, 3, none⟩ (.string t)).setCell ⟨R, 4, none⟩ (.slice none 0 0)).setCell ⟨R, 5, none⟩ (.slice none 0 0)) := ⟨_, rfl⟩
  have hst := stored6' HS6.out.res (.int .i64 4) (.int .i64 0) (.float .f64 0) (.string t) (.slice none 0 0) (.slice none 0 0)
  rw [← hWF] at hst
  have HST := Lib.hid hst; have HWF := Lib.hid hWF
  have HRD := Lib.hid (Blk.grown HS6.out.rd hst.2 (by have := HS6.out.glt; simp; omega))
  have HON := Lib.hid (only_far HS6.out.only hst.2 (by rw [HS6.out.eq]; exact Nat.le_refl _))
  clear hWF hst
  go_wp2_with fail
  rw [← HWF.out]
  clear e0 r0 f0 e1 r1 f1 e2 r2 f2 e3 r3 f3 e4 r4 f4 e5 r5 f5
  have e0 := HST.out.1.cell 0; have e1 := HST.out.1.cell 1; have e2 := HST.out.1.cell 2; have e3 := HST.out.1.cell 3; have e4 := HST.out.1.cell 4; have e5 := HST.out.1.cell 5
  simp only [List.getElem?_toArray, List.getElem?_cons_zero, List.getElem?_cons_succ] at e0 e1 e2 e3 e4 e5
  refine bodyPost_ret (v := .agg #[.int .i64 4, .int .i64 0, .float .f64 0, .string t, .slice none 0 0, .slice none 0 0]) (by simp [results, Try.results81, go_sem, e0, e1, e2, e3, e4, e5]) rfl ?_
  refine fleaf_end (R := R) (V := V) HRD.out HON.out (by unfold i64r; omega) (by unfold i64r; omega) (by omega) (by unfold strok; omega) hq (by omega) ?_
  rcases HFIN.out with ⟨rfl, hu⟩ | ⟨hk0, hu⟩
  · exact .inl ⟨rfl, rfl, hm1, by unfold rdV; rw [if_neg (by omega), if_neg (by omega), if_neg (by rw [hk]; decide), if_neg (by rw [hk]; decide), if_neg (by rw [hk]; decide), if_pos hk, hu]; rfl⟩
  · exact .inr (.inl ⟨rfl, hk0, by unfold rdV; rw [if_neg (by omega), if_neg (by omega), if_neg (by rw [hk]; decide), if_neg (by rw [hk]; decide), if_neg (by rw [hk]; decide), if_pos hk, hu]⟩)
end Go.Proofs.Ytemhinagajfemaa
