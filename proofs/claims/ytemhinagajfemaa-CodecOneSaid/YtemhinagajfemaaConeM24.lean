/- The code's reader: a type, whatever the bytes (printed by wip/gen_rdtyp.py). -/
import Derived.Test.YtemhinagajfemaaConeM23
namespace Go.Proofs.Ytemhinagajfemaa
set_option linter.unusedVariables false
open Go.RowKit

theorem tty_facts : (Try.prog.info? 61).map (fun i => (i.zero, i.size, i.bytes)) = some (some (.agg #[.int .i64 0, .slice none 0 0, .slice none 0 0]), 3, 56) := by kernel_rfl
def TyRead (r : Except Int (Ty × Nat × Nat)) (s : ByteArray) (g : Nat) (w : World) (e : Ending) (w' : World) : Prop :=
  Only w w' g ∧ match r with
  | .ok (v, q, m) => ∃ u : Ty, e = .returned u.agg ∧ u.erase = v ∧ u.In w' ∧ u.Sep (fun b => w.heap.size ≤ b) ∧ At w' g s q (m : Int)
  | .error k => e = gives k
theorem tnode_end {k : Int} {w wr : World} {g V M q : Nat} {s : ByteArray} {cs : List Value} {ns : List ByteArray} {us : List Ty} {an ax : Option Addr} {cn cx : Nat} (h : RS 61 w wr g V s q (M : Int) cs) (hg : Gath tyE 61 (V + 1) wr ns us (.slice an ns.length cn) (.slice ax us.length cx))
    {r : Except Int (Ty × Nat × Nat)} (hr : r = .ok (Ty.node k ns (us.map Ty.erase), q, M)) (hk : i64r k) (hn : ns.length ≤ 200) (hx : us.length ≤ 200) (ht : ∀ t, t ∈ ns → t.size ≤ 30) :
    TyRead r s g w (.returned (.agg #[.int .i64 k, .slice an ns.length cn, .slice ax us.length cx])) wr := by
  refine ⟨h.only, ?_⟩
  rw [hr]
  obtain ⟨sn, hsn, hln, hspn⟩ := lies_of_own hg.names
  obtain ⟨sx, hsx, hlx, hspx⟩ := trowLies_of_own hg.items
  have hV := h.eq
  refine ⟨.mk k sn ns sx us, ?_, ?_, ?_, ?_, h.rd⟩
  · show _ = Ending.returned (.agg #[.int .i64 k, sn.val ns.length, sx.val us.length])
    rw [← hsn, ← hsx]
  · rw [Ty.erase_eq]
    rfl
  · rw [Ty.in_iff]
    refine ⟨⟨hk, ?_, ?_, fun s hs => ?_⟩, hln, hlx, fun x hx' => (hg.each x hx').1⟩
    · show ns.length ≤ _; omega
    · show us.length ≤ _; omega
    · have := ht s hs; unfold strok; omega
  · rw [Ty.sep_iff]
    exact ⟨hspn.mono (fun b hb => by omega), hspx.mono (fun b hb => by omega), fun x hx' => (hg.each x hx').2.mono (fun b hb => by have := hb.1; omega)⟩

set_option maxHeartbeats 2000000 in
set_option maxRecDepth 100000 in
theorem rt_begin (s : ByteArray) (hs : s.size ≤ 100000) (d p m deep g : Nat) (w : World) (hd : deep + d = 12) (hp : p ≤ s.size) (hm : m ≤ 200) (hm1 : 200 < m + 1) (h : At w g s p (m : Int)) :
    Calls Try.prog 83 #[.pointer (some ⟨g, 0, none⟩), .int .i64 deep] w fun e w' => TyRead (rdT s (d + 1) p m) s g w e w' := by

  have hsf := run_store_flt
  obtain ⟨V, hV⟩ : ∃ V, V = w.heap.size := ⟨_, rfl⟩
  obtain ⟨W, hW⟩ : ∃ W, W = w.alloc (.cells #[.int .i64 0, .slice none 0 0, .slice none 0 0] 61) := ⟨_, rfl⟩
  have hst : RS 61 w W g V s p (m : Int) [.int .i64 0, .slice none 0 0, .slice none 0 0] := by rw [hV, hW]; exact RS.start w g s p m _ h
  have HV := Lib.hid hV; have HW := Lib.hid hW; have HS0 := Lib.hid hst
  clear hV hW hst h
  have HE : Hid (rdT s (d + 1) p m = .error 5) := Lib.hid (by unfold rdT; rw [if_pos hm1])
  have HBEG := Lib.hid (rbegin_bad s p m deep g W hm (.inr hm1) HS0.out.rd)

  go_enter Try.func83, Try.ntmps83
  go_wp2_with fail
  rw [← HW.out, ← HV.out]
  refine HBEG.out.mono ?_
  rintro e w1 ⟨rfl, ho1⟩
  have ho := HS0.out.only.trans ho1

  unfold gives
  go_wp2
  refine ⟨rfl, ?_⟩
  refine ⟨ho, ?_⟩
  rw [HE.out]
  rfl

set_option maxHeartbeats 2000000 in
set_option maxRecDepth 100000 in
theorem rt_deep (s : ByteArray) (hs : s.size ≤ 100000) (p m g : Nat) (w : World) (hp : p ≤ s.size) (hm : m ≤ 200) (h : At w g s p (m : Int)) :
    Calls Try.prog 83 #[.pointer (some ⟨g, 0, none⟩), .int .i64 13] w fun e w' => TyRead (rdT s 0 p m) s g w e w' := by

  have hsf := run_store_flt
  obtain ⟨V, hV⟩ : ∃ V, V = w.heap.size := ⟨_, rfl⟩
  obtain ⟨W, hW⟩ : ∃ W, W = w.alloc (.cells #[.int .i64 0, .slice none 0 0, .slice none 0 0] 61) := ⟨_, rfl⟩
  have hst : RS 61 w W g V s p (m : Int) [.int .i64 0, .slice none 0 0, .slice none 0 0] := by rw [hV, hW]; exact RS.start w g s p m _ h
  have HV := Lib.hid hV; have HW := Lib.hid hW; have HS0 := Lib.hid hst
  clear hV hW hst h
  have HE : Hid (rdT s 0 p m = .error 5) := Lib.hid (by unfold rdT; rfl)
  have HBEG := Lib.hid (rbegin_bad s p m 13 g W hm (.inl (by omega)) HS0.out.rd)

  go_enter Try.func83, Try.ntmps83
  go_wp2_with fail
  rw [← HW.out, ← HV.out]
  refine HBEG.out.mono ?_
  rintro e w1 ⟨rfl, ho1⟩
  have ho := HS0.out.only.trans ho1

  unfold gives
  go_wp2
  refine ⟨rfl, ?_⟩
  refine ⟨ho, ?_⟩
  rw [HE.out]
  rfl

set_option maxHeartbeats 2000000 in
set_option maxRecDepth 100000 in
theorem rt_torn (s : ByteArray) (hs : s.size ≤ 100000) (d p m deep g : Nat) (w : World) (hd : deep + d = 12) (hp : p ≤ s.size) (hm : m ≤ 200) (hm1 : m + 1 ≤ 200) (hin : ¬ p < s.size) (h : At w g s p (m : Int)) :
    Calls Try.prog 83 #[.pointer (some ⟨g, 0, none⟩), .int .i64 deep] w fun e w' => TyRead (rdT s (d + 1) p m) s g w e w' := by

  have hsf := run_store_flt
  obtain ⟨V, hV⟩ : ∃ V, V = w.heap.size := ⟨_, rfl⟩
  obtain ⟨W, hW⟩ : ∃ W, W = w.alloc (.cells #[.int .i64 0, .slice none 0 0, .slice none 0 0] 61) := ⟨_, rfl⟩
  have hst : RS 61 w W g V s p (m : Int) [.int .i64 0, .slice none 0 0, .slice none 0 0] := by rw [hV, hW]; exact RS.start w g s p m _ h
  have HV := Lib.hid hV; have HW := Lib.hid hW; have HS0 := Lib.hid hst
  clear hV hW hst h

  have HBEG := Lib.hid (rbegin_ok s p m deep g W (by omega) hm1 HS0.out.rd)
  have HE : Hid (rdT s (d + 1) p m = .error 14) := Lib.hid (by unfold rdT; rw [if_neg (by omega), if_pos (by omega)])

  go_enter Try.func83, Try.ntmps83
  go_wp2_with fail
  rw [← HW.out, ← HV.out]

  refine HBEG.out.mono ?_
  rintro e w1 ⟨rfl, ha1, ho1⟩
  have HS1 := Lib.hid (HS0.out.read ha1 ho1)
  clear ha1 ho1 HBEG HW
  have HB1 := Lib.hid (byte_torn s p ((m + 1 : Nat) : Int) g w1 hs (by omega) (by omega) HS1.out.rd)
  go_wp2_with fail
  refine HB1.out.mono ?_
  rintro e w2 ⟨rfl, ho2⟩
  have ho := HS1.out.only.trans ho2

  unfold gives
  go_wp2
  refine ⟨rfl, ?_⟩
  refine ⟨ho, ?_⟩
  rw [HE.out]
  rfl

set_option maxHeartbeats 2000000 in
set_option maxRecDepth 100000 in
theorem rt_other (s : ByteArray) (hs : s.size ≤ 100000) (d p m deep g : Nat) (w : World) (hd : deep + d = 12) (hp : p ≤ s.size) (hm : m ≤ 200) (K : Nat) (hm1 : m + 1 ≤ 200) (hin : p < s.size) (hk : (byteAt s p).toNat = K) (hk1 : K = 0 ∨ 7 < K) (h : At w g s p (m : Int)) :
    Calls Try.prog 83 #[.pointer (some ⟨g, 0, none⟩), .int .i64 deep] w fun e w' => TyRead (rdT s (d + 1) p m) s g w e w' := by

  have hsf := run_store_flt
  obtain ⟨V, hV⟩ : ∃ V, V = w.heap.size := ⟨_, rfl⟩
  obtain ⟨W, hW⟩ : ∃ W, W = w.alloc (.cells #[.int .i64 0, .slice none 0 0, .slice none 0 0] 61) := ⟨_, rfl⟩
  have hst : RS 61 w W g V s p (m : Int) [.int .i64 0, .slice none 0 0, .slice none 0 0] := by rw [hV, hW]; exact RS.start w g s p m _ h
  have HV := Lib.hid hV; have HW := Lib.hid hW; have HS0 := Lib.hid hst
  clear hV hW hst h

  have HBEG := Lib.hid (rbegin_ok s p m deep g W (by omega) hm1 HS0.out.rd)
  have HE : Hid (rdT s (d + 1) p m = .error 5) := Lib.hid (by unfold rdT tyMany; rw [hk, if_neg (by omega), if_neg (by omega), if_neg (by omega), if_neg (by omega), if_neg (by omega)])
  have hK8 : K < 256 := by rw [← hk]; exact (byteAt s p).toNat_lt
  have hcv : IntKind.i64.wrap (K : Int) = (K : Int) := IntWalk.i64_in _ (by omega)
  have i5 : ((K : Int) == 5) = false := by simp; omega
  have i6 : ((K : Int) == 6) = false := by simp; omega
  rcases hk1 with hk1 | hk1
  · have i1 : decide ((1 : Int) ≤ (K : Int)) = false := by simp; omega
    have i2 : decide (1 ≤ K) = false := by simp; omega
    clear hk1
    go_enter Try.func83, Try.ntmps83
    go_wp2_with fail
    rw [← HW.out, ← HV.out]

    refine HBEG.out.mono ?_
    rintro e w1 ⟨rfl, ha1, ho1⟩
    have HS1 := Lib.hid (HS0.out.read ha1 ho1)
    clear ha1 ho1 HBEG HW

    have HB1 := Lib.hid (byte_k s p ((m + 1 : Nat) : Int) g K w1 hs hin HS1.out.rd hk)
    go_wp2_with fail
    refine HB1.out.mono ?_
    rintro e w2 ⟨rfl, ha2, ho2⟩
    have HS2 := Lib.hid (HS1.out.read ha2 ho2)
    clear ha2 ho2 HB1 HS1
    have c0 := HS2.out.cell 0; have f0 := HS2.out.frozen 0; have hvl := HS2.out.vlt
    simp only [List.getElem?_cons_zero, List.getElem?_cons_succ] at c0
    obtain ⟨W2, hW2⟩ : ∃ W2, W2 = w2.setCell ⟨V, 0, none⟩ (.int .i64 K) := ⟨_, rfl⟩
    have hs3 : RS 61 w W2 g V s (p + 1) ((m + 1 : Nat) : Int) [.int .i64 K, .slice none 0 0, .slice none 0 0] := by rw [hW2]; exact HS2.out.set_ 0 _
    have HS3 := Lib.hid hs3; have HW2 := Lib.hid hW2
    clear hs3 hW2
    go_upto_region 3 with fail
    rw [← HW2.out]
    clear c0 f0 hvl HS2
    have c0 := HS3.out.cell 0; have hvl := HS3.out.vlt
    simp only [List.getElem?_cons_zero, List.getElem?_cons_succ] at c0
    go_wp2_with fail
    refine (must_false _ _ _ (by first | rfl | (simp; omega))).mono ?_
    rintro e w5 ⟨rfl, rfl⟩
    have ho := HS3.out.only

    go_wp2
    refine ⟨rfl, ?_⟩
    refine ⟨ho, ?_⟩
    rw [HE.out]
    rfl
  · have i1 : decide ((1 : Int) ≤ (K : Int)) = true := by simp; omega
    have i2 : decide ((K : Int) ≤ 7) = false := by simp; omega
    have i3 : decide (1 ≤ K) = true := by simp; omega
    have i4 : decide (K ≤ 7) = false := by simp; omega
    go_enter Try.func83, Try.ntmps83
    go_wp2_with fail
    rw [← HW.out, ← HV.out]

    refine HBEG.out.mono ?_
    rintro e w1 ⟨rfl, ha1, ho1⟩
    have HS1 := Lib.hid (HS0.out.read ha1 ho1)
    clear ha1 ho1 HBEG HW

    have HB1 := Lib.hid (byte_k s p ((m + 1 : Nat) : Int) g K w1 hs hin HS1.out.rd hk)
    go_wp2_with fail
    refine HB1.out.mono ?_
    rintro e w2 ⟨rfl, ha2, ho2⟩
    have HS2 := Lib.hid (HS1.out.read ha2 ho2)
    clear ha2 ho2 HB1 HS1
    have c0 := HS2.out.cell 0; have f0 := HS2.out.frozen 0; have hvl := HS2.out.vlt
    simp only [List.getElem?_cons_zero, List.getElem?_cons_succ] at c0
    obtain ⟨W2, hW2⟩ : ∃ W2, W2 = w2.setCell ⟨V, 0, none⟩ (.int .i64 K) := ⟨_, rfl⟩
    have hs3 : RS 61 w W2 g V s (p + 1) ((m + 1 : Nat) : Int) [.int .i64 K, .slice none 0 0, .slice none 0 0] := by rw [hW2]; exact HS2.out.set_ 0 _
    have HS3 := Lib.hid hs3; have HW2 := Lib.hid hW2
    clear hs3 hW2
    go_upto_region 3 with fail
    rw [← HW2.out]
    clear c0 f0 hvl HS2
    have c0 := HS3.out.cell 0; have hvl := HS3.out.vlt
    simp only [List.getElem?_cons_zero, List.getElem?_cons_succ] at c0
    go_wp2_with fail
    refine (must_false _ _ _ (by first | rfl | (simp; omega))).mono ?_
    rintro e w5 ⟨rfl, rfl⟩
    have ho := HS3.out.only

    go_wp2
    refine ⟨rfl, ?_⟩
    refine ⟨ho, ?_⟩
    rw [HE.out]
    rfl

set_option maxHeartbeats 2000000 in
set_option maxRecDepth 100000 in
theorem rt_plain (s : ByteArray) (hs : s.size ≤ 100000) (d p m deep g : Nat) (w : World) (hd : deep + d = 12) (hp : p ≤ s.size) (hm : m ≤ 200) (K : Nat) (hm1 : m + 1 ≤ 200) (hin : p < s.size) (hk : (byteAt s p).toNat = K) (hk1 : 1 ≤ K ∧ K ≤ 7 ∧ K ≠ 5 ∧ K ≠ 6) (h : At w g s p (m : Int)) :
    Calls Try.prog 83 #[.pointer (some ⟨g, 0, none⟩), .int .i64 deep] w fun e w' => TyRead (rdT s (d + 1) p m) s g w e w' := by

  have hsf := run_store_flt
  obtain ⟨V, hV⟩ : ∃ V, V = w.heap.size := ⟨_, rfl⟩
  obtain ⟨W, hW⟩ : ∃ W, W = w.alloc (.cells #[.int .i64 0, .slice none 0 0, .slice none 0 0] 61) := ⟨_, rfl⟩
  have hst : RS 61 w W g V s p (m : Int) [.int .i64 0, .slice none 0 0, .slice none 0 0] := by rw [hV, hW]; exact RS.start w g s p m _ h
  have HV := Lib.hid hV; have HW := Lib.hid hW; have HS0 := Lib.hid hst
  clear hV hW hst h

  have HBEG := Lib.hid (rbegin_ok s p m deep g W (by omega) hm1 HS0.out.rd)
  have HE : Hid (rdT s (d + 1) p m = .ok (Ty.node K [] [], p + 1, m + 1)) := Lib.hid (by
    unfold rdT tyMany
    rw [hk, if_neg (by omega), if_neg (by omega), if_neg (by omega), if_neg (by omega), if_pos (by omega)]
    rfl)
  have hK8 : K < 256 := by rw [← hk]; exact (byteAt s p).toNat_lt
  have hcv : IntKind.i64.wrap (K : Int) = (K : Int) := IntWalk.i64_in _ (by omega)
  have i5 : ((K : Int) == 5) = false := by simp; omega
  have i6 : ((K : Int) == 6) = false := by simp; omega
  have i1 : decide ((1 : Int) ≤ (K : Int)) = true := by simp; omega
  have i2 : decide ((K : Int) ≤ 7) = true := by simp; omega
  have i3 : decide (1 ≤ K) = true := by simp; omega
  have i4 : decide (K ≤ 7) = true := by simp; omega

  go_enter Try.func83, Try.ntmps83
  go_wp2_with fail
  rw [← HW.out, ← HV.out]

  refine HBEG.out.mono ?_
  rintro e w1 ⟨rfl, ha1, ho1⟩
  have HS1 := Lib.hid (HS0.out.read ha1 ho1)
  clear ha1 ho1 HBEG HW

  have HB1 := Lib.hid (byte_k s p ((m + 1 : Nat) : Int) g K w1 hs hin HS1.out.rd hk)
  go_wp2_with fail
  refine HB1.out.mono ?_
  rintro e w2 ⟨rfl, ha2, ho2⟩
  have HS2 := Lib.hid (HS1.out.read ha2 ho2)
  clear ha2 ho2 HB1 HS1
  have c0 := HS2.out.cell 0; have f0 := HS2.out.frozen 0; have hvl := HS2.out.vlt
  simp only [List.getElem?_cons_zero, List.getElem?_cons_succ] at c0
  obtain ⟨W2, hW2⟩ : ∃ W2, W2 = w2.setCell ⟨V, 0, none⟩ (.int .i64 K) := ⟨_, rfl⟩
  have hs3 : RS 61 w W2 g V s (p + 1) ((m + 1 : Nat) : Int) [.int .i64 K, .slice none 0 0, .slice none 0 0] := by rw [hW2]; exact HS2.out.set_ 0 _
  have HS3 := Lib.hid hs3; have HW2 := Lib.hid hW2
  clear hs3 hW2
  go_upto_region 3 with fail
  rw [← HW2.out]
  clear c0 f0 hvl HS2
  have c0 := HS3.out.cell 0; have hvl := HS3.out.vlt
  simp only [List.getElem?_cons_zero, List.getElem?_cons_succ] at c0
  go_wp2_with fail
  refine (must_true _ _ _ (by first | rfl | (simp; omega))).mono ?_
  rintro e w5 ⟨rfl, rfl⟩
  go_wp2_with fail
  go_loopw [31] (fun iv wr => iv = .int .i64 0 ∧ wr = W2) (fun _ _ => 0)
  case atStart => exact ⟨rfl, rfl⟩
  case round =>
    obtain ⟨rfl, rfl⟩ := hrel
    clear c0
    have e0 := HS3.out.cell 0; have e1 := HS3.out.cell 1; have e2 := HS3.out.cell 2
    have f0 := HS3.out.frozen 0; have f1 := HS3.out.frozen 1; have f2 := HS3.out.frozen 2
    simp only [List.getElem?_cons_zero, List.getElem?_cons_succ] at e0 e1 e2
    obtain ⟨WF, hWF⟩ : ∃ WF, WF = (((wr.setCell ⟨V, 0, none⟩ (.int .i64 K)).setCell ⟨V, 1, none⟩ (.slice none 0 0)).setCell ⟨V, 2, none⟩ (.slice none 0 0)) := ⟨_, rfl⟩
    have HSF : Hid (RS 61 w WF g V s _ _ [.int .i64 K, .slice none 0 0, .slice none 0 0]) := Lib.hid (by rw [hWF]; exact HS3.out.three _ _ _)
    have HWF := Lib.hid hWF
    clear hWF
    go_wp2_with fail
    rw [← HWF.out]
    clear e0 e1 e2 f0 f1 f2
    have e0 := HSF.out.cell 0; have e1 := HSF.out.cell 1; have e2 := HSF.out.cell 2
    simp only [List.getElem?_cons_zero, List.getElem?_cons_succ] at e0 e1 e2
    refine bodyPost_ret (v := .agg #[.int .i64 K, .slice none 0 0, .slice none 0 0]) (by simp [results, Try.results83, go_sem, e0, e1, e2]) rfl ?_
    exact tnode_end (ns := []) (us := []) HSF.out (gath_start _) HE.out (by unfold i64r; omega) (by simp) (by simp) (fun t ht => by simp at ht)

set_option maxHeartbeats 2000000 in
set_option maxRecDepth 100000 in
theorem rt_list (s : ByteArray) (hs : s.size ≤ 100000) (d p m deep g : Nat) (w : World) (hd : deep + d = 12) (hp : p ≤ s.size) (hm : m ≤ 200) (hm1 : m + 1 ≤ 200) (hin : p < s.size) (hk : (byteAt s p).toNat = 5) (ih : ∀ (p m g : Nat) (w : World), p ≤ s.size → m ≤ 200 → At w g s p (m : Int) → Calls Try.prog 83 #[.pointer (some ⟨g, 0, none⟩), .int .i64 ((deep : Int) + 1)] w fun e w' => TyRead (rdT s d p m) s g w e w') (h : At w g s p (m : Int)) :
    Calls Try.prog 83 #[.pointer (some ⟨g, 0, none⟩), .int .i64 deep] w fun e w' => TyRead (rdT s (d + 1) p m) s g w e w' := by
  have hdw : IntKind.i64.wrap ((deep : Int) + 1) = (deep : Int) + 1 := IntWalk.i64_in _ (by omega)
  obtain ⟨i0, hi0, hz0, hz1, hz2⟩ := info_parts tty_facts
  obtain ⟨i1, hi1, hy0, hy1, hy2⟩ := info_parts str_facts
  have HIH := Lib.hid ih
  clear ih

  have hsf := run_store_flt
  obtain ⟨V, hV⟩ : ∃ V, V = w.heap.size := ⟨_, rfl⟩
  obtain ⟨W, hW⟩ : ∃ W, W = w.alloc (.cells #[.int .i64 0, .slice none 0 0, .slice none 0 0] 61) := ⟨_, rfl⟩
  have hst : RS 61 w W g V s p (m : Int) [.int .i64 0, .slice none 0 0, .slice none 0 0] := by rw [hV, hW]; exact RS.start w g s p m _ h
  have HV := Lib.hid hV; have HW := Lib.hid hW; have HS0 := Lib.hid hst
  clear hV hW hst h

  have HBEG := Lib.hid (rbegin_ok s p m deep g W (by omega) hm1 HS0.out.rd)
  have hed : rdT s (d + 1) p m = (match rdL s (rdT s d) false 1 (p + 1) (m + 1) with
      | .error k => .error k
      | .ok (ns, vs, q2, m2) => .ok (Ty.node 5 ns vs, q2, m2)) := by
    unfold rdT tyMany; rw [hk, if_neg (by omega), if_neg (by omega), if_pos rfl]
    rfl
  have hq0s : p + 1 ≤ s.size := by omega
  have HED := Lib.hid hed
  clear hed

  go_enter Try.func83, Try.ntmps83
  go_wp2_with fail
  rw [← HW.out, ← HV.out]

  refine HBEG.out.mono ?_
  rintro e w1 ⟨rfl, ha1, ho1⟩
  have HS1 := Lib.hid (HS0.out.read ha1 ho1)
  clear ha1 ho1 HBEG HW

  have HB1 := Lib.hid (byte_k s p ((m + 1 : Nat) : Int) g 5 w1 hs hin HS1.out.rd hk)
  go_wp2_with fail
  refine HB1.out.mono ?_
  rintro e w2 ⟨rfl, ha2, ho2⟩
  have HS2 := Lib.hid (HS1.out.read ha2 ho2)
  clear ha2 ho2 HB1 HS1
  have c0 := HS2.out.cell 0; have f0 := HS2.out.frozen 0; have hvl := HS2.out.vlt
  simp only [List.getElem?_cons_zero, List.getElem?_cons_succ] at c0
  obtain ⟨W2, hW2⟩ : ∃ W2, W2 = w2.setCell ⟨V, 0, none⟩ (.int .i64 5) := ⟨_, rfl⟩
  have hs3 : RS 61 w W2 g V s (p + 1) ((m + 1 : Nat) : Int) [.int .i64 5, .slice none 0 0, .slice none 0 0] := by rw [hW2]; exact HS2.out.set_ 0 _
  have HS3 := Lib.hid hs3; have HW2 := Lib.hid hW2
  clear hs3 hW2
  go_upto_region 3 with fail
  rw [← HW2.out]
  clear c0 f0 hvl HS2
  have c0 := HS3.out.cell 0; have hvl := HS3.out.vlt
  simp only [List.getElem?_cons_zero, List.getElem?_cons_succ] at c0
  have HS4 := HS3
  clear HS3 c0 hvl
  have c0 := HS4.out.cell 0; have hvl := HS4.out.vlt
  simp only [List.getElem?_cons_zero, List.getElem?_cons_succ] at c0
  go_wp2_with fail
  go_loopw [31] (fun iv wr => ∃ (i : Nat) (ns : List ByteArray) (us : List Ty) (an ax : Option Addr) (cn cx q m' : Nat), iv = .int .i64 i ∧ i ≤ 1 ∧ q ≤ s.size ∧ m' ≤ 200 ∧ us.length ≤ 1 ∧ Hid (us.length = i) ∧ ns.length ≤ i ∧ Hid (Come s (rdT s d) false 1 (p + 1) (m + 1) ns (us.map Ty.erase) i q m') ∧
    Hid (RS 61 w wr g V s q (m' : Int) [.int .i64 5, .slice an ns.length cn, .slice ax us.length cx]) ∧ Hid (Gath tyE 61 (V + 1) wr ns us (.slice an ns.length cn) (.slice ax us.length cx))) (fun iv _ => 1 - (intOf iv).toNat)
  case atStart => exact ⟨0, [], [], none, none, 0, 0, p + 1, m + 1, rfl, by omega, hq0s, hm1, by simp, Lib.hid rfl, by simp, Lib.hid come_start, HS4, Lib.hid (gath_start _)⟩
  case round =>
    obtain ⟨i, ns, us, an, ax, cn, cx, q, m', rfl, hi, hqs, hm', hul, HUL, hnl, HCM, HRS, HG⟩ := hrel
    clear HS4
    try clear c0 hvl
    have c0 := HRS.out.cell 0; have cn0 := HRS.out.cell 1; have cx0 := HRS.out.cell 2; have hvl := HRS.out.vlt
    simp only [List.getElem?_cons_zero, List.getElem?_cons_succ] at c0 cn0 cx0
    by_cases hlt : i < 1
    · have j1 : decide ((i : Int) < (1 : Int)) = true := by simp; omega
      have j2 : decide (i < 1) = true := by simp; omega
      cases hr : rdT s d q m' with
      | error k =>
        have HC := Lib.hid (fun (W : World) (h : At W g s (q) (m' : Int)) => HIH.out (q) m' g W (by omega) hm' h)
        rw [hr] at HC
        have HE : Hid (rdT s (d + 1) p m = .error k) := Lib.hid (by rw [HED.out, (HCM.out.item_bad0 hlt hr)])
        clear hr
        go_wp2_with fail
        refine wp_region_held_drew (S := (fun W => W.cell? ⟨V, 2, none⟩ = some (Value.slice ax us.length cx))) (by kernel_rfl) cx0 (fun hHeld => ?_)
        refine held_take (i := 0) (d := some 43) (v := ?_) rfl rfl (by kernel_rfl) (by kernel_rfl) (by kernel_rfl) (fun _ _ _ h => h) (by rfl) ?_ hHeld ?_
        rotate_left
        · (intro w hSw; (try dsimp only at hSw); go_simp; try with_reducible rfl)
        try simp only [Act.put, List.setIfInBounds_toArray, List.set_cons_zero, List.set_cons_succ]
        refine held_take (i := 1) (d := some 44) (v := ?_) rfl rfl (by kernel_rfl) (by kernel_rfl) (by kernel_rfl) (fun _ _ _ h => h) (by rfl) ?_ hHeld ?_
        rotate_left
        · (intro w hSw; (try dsimp only at hSw); go_simp; try with_reducible rfl)
        try simp only [Act.put, List.setIfInBounds_toArray, List.set_cons_zero, List.set_cons_succ]
        refine held_take (i := 2) (d := some 45) (v := ?_) rfl rfl (by kernel_rfl) (by kernel_rfl) (by kernel_rfl) (fun _ _ _ h => h) (by rfl) ?_ hHeld ?_
        rotate_left
        · (intro w hSw; (try dsimp only at hSw); go_simp; try with_reducible rfl)
        try simp only [Act.put, List.setIfInBounds_toArray, List.set_cons_zero, List.set_cons_succ]
        refine held_take (i := 3) (d := some 46) (v := ?_) rfl rfl (by kernel_rfl) (by kernel_rfl) (by kernel_rfl) (fun _ _ _ h => h) (by rfl) ?_ hHeld ?_
        rotate_left
        · (intro w hSw; (try dsimp only at hSw); go_simp; try with_reducible rfl)
        try simp only [Act.put, List.setIfInBounds_toArray, List.set_cons_zero, List.set_cons_succ]
        refine held_take (i := 4) (d := some 47) (v := ?_) rfl rfl (by kernel_rfl) (by kernel_rfl) (by kernel_rfl) (fun _ _ _ h => h) (by rfl) ?_ hHeld ?_
        rotate_left
        · (intro w hSw; (try dsimp only at hSw); go_simp; try with_reducible rfl)
        try simp only [Act.put, List.setIfInBounds_toArray, List.set_cons_zero, List.set_cons_succ]
        refine held_only (i := 5) (by kernel_rfl) rfl (by rfl) (fun K hK => ?_)
        go_simp
        go_at_call 83
        refine (HC.out _ (HRS.out.rd.drew)).mono ?_
        rintro e w6 ⟨ho6, rfl⟩
        have ho := (HRS.out.only.drew).trans ho6
        unfold gives
        go_wp2
        refine ⟨rfl, ho, ?_⟩
        rw [HE.out]
        rfl
      | ok x =>
        obtain ⟨v, q2, m2⟩ := x
        have hlts := rdT_lt s d q m' v q2 m2 (by omega) hm' hr
        have HC := Lib.hid (fun (W : World) (h : At W g s (q) (m' : Int)) => HIH.out (q) m' g W (by omega) hm' h)
        rw [hr] at HC
        have HCM2 := Lib.hid (HCM.out.next0 hlt hr)
        have HZS := Lib.hid (fun b (hb : (Value.slice an ns.length cn).ownBlock = some b) => HG.out.nlt hb)
        have HZX := Lib.hid (fun b (hb : (Value.slice ax us.length cx).ownBlock = some b) => HG.out.xlt hb)
        clear hr
        go_wp2_with fail
        have hvB : V + 1 ≤ wr.heap.size := HRS.out.vlt
        go_region_law (first
          | (refine step_append_any (w := w6.alloc (.cells #[.int .i64 u.k, .slice a4 u.ns.length b4, .slice a5 u.xs.length b5] 61)) rfl (.tmp 44) (.tmp 49) 59 rfl (V + 1) 61 i0 (.agg #[.int .i64 0, .slice none 0 0, .slice none 0 0]) 3 56 Try.underlying59 hi0 hz0 hz1 hz2 rfl (by decide) (.slice ax us.length cx) us.length (tyE.row us) rfl HOWN6.out (w6.heap.size + 1) (some ⟨w6.heap.size, 0, none⟩) 1 1 u.cells rfl HRED.out (tyE.one u) (by unfold maxLen; omega) (by omega) (by simp; omega) ?_;
             intro v' w8 hown' hgrow hor;
             have hg8 := Gath.item (HG6.out.alloc (.cells #[.int .i64 u.k, .slice a4 u.ns.length b4, .slice a5 u.xs.length b5] 61)) (by simp; omega) (HUI.out.below ((Below.refl _ w6).alloc (Nat.le_refl _) (.cells #[.int .i64 u.k, .slice a4 u.ns.length b4, .slice a5 u.xs.length b5] 61))) HUS.out hvB HZS.out HZX.out hown' hgrow hor;
             have hr8 := HR6.out.grow hgrow (fun k hk => HG6.out.xge hk);
             obtain ⟨ax', cx', rfl⟩ := own_form hown';
             have c8 := hr8.cell 2; have f8 := hr8.frozen 2; have v8 := hr8.vlt;
             simp only [List.getElem?_cons_zero, List.getElem?_cons_succ] at c8;
             have HG8 := Lib.hid hg8; have HR8 := Lib.hid hr8;
             clear hg8 hr8 hown' hgrow hor)
          | (go_simp; go_at_call 83; refine (HC.out _ (HRS.out.rd.drew)).mono ?_; rintro e w6 ⟨ho6, u, rfl, hue, hui, hus, ha6⟩;
             obtain ⟨a4, b4, k4⟩ := hui.nslice;
             obtain ⟨a5, b5, k5⟩ := hui.xslice;
             unfold Ty.agg;
             rw [k4, k5];
             have ho6' := ((Only.refl wr g).drew).trans ho6;
             have hz6 := ho6'.size;
             have hr6 := HRS.out.read ha6 ho6';
             have hg6 := HG.out.only ho6' (by have := hr6.lt; omega);
             have c6 := hr6.cell 2; have v6 := hr6.vlt;
             simp only [List.getElem?_cons_zero, List.getElem?_cons_succ] at c6;
             have hred : Reads (w6.alloc (.cells #[.int .i64 u.k, .slice a4 u.ns.length b4, .slice a5 u.xs.length b5] 61)) (w6.heap.size + 1) 3 (some ⟨w6.heap.size, 0, none⟩) 1 u.cells := by
               unfold Ty.cells; rw [k4, k5]; exact reads_row w6 _ 61;
             have hown6 := hg6.items.alloc (.cells #[.int .i64 u.k, .slice a4 u.ns.length b4, .slice a5 u.xs.length b5] 61);
             have HR6 := Lib.hid hr6; have HG6 := Lib.hid hg6; have HRED := Lib.hid hred; have HOWN6 := Lib.hid hown6; have HUI := Lib.hid hui; have HUS := Lib.hid hus; have HUE := Lib.hid hue;
             clear ha6 ho6 ho6' hr6 hg6 hred hown6 hui hus hue k4 k5))
        all_goals
          have HRS9 := Lib.hid (HR8.out.set_ 2 (.slice ax' (us.length + 1) cx'))
          have HG9 := Lib.hid (HG8.out.set_ (p := ⟨V, 2, none⟩) (by simp) (.slice ax' (us.length + 1) cx'))
          go_wp2
          go_roundw
          case rel => exact ⟨i + 1, ns, us ++ [u], an, ax', cn, cx', q2, m2, by go_num, by omega, by omega, by omega, by simp [HUL.out]; omega, Lib.hid (by simp [HUL.out]), by omega, Lib.hid (by rw [List.map_append, List.map_cons, List.map_nil, HUE.out]; exact HCM2.out), by simpa using HRS9, by simpa using HG9⟩
          case measure => simp [intOf]; omega
    · have j1 : decide ((i : Int) < (1 : Int)) = false := by simp; omega
      have j2 : decide (i < 1) = false := by simp; omega
      obtain rfl : i = 1 := by omega
      have hdone := HCM.out.done
      have hfacts := rdL_lt (fun p m v q m' => rdT_lt s d p m v q m') _ _ (m + 1) ns (us.map Ty.erase) q m' hq0s hm1 hdone
      have HE : Hid (rdT s (d + 1) p m = .ok (Ty.node 5 ns (us.map Ty.erase), q, m')) := Lib.hid (by rw [HED.out, hdone])
      have HTN := Lib.hid hfacts.2.2.2.2.2.2
      clear hdone hfacts c0 cn0 cx0
      have e0 := HRS.out.cell 0; have e1 := HRS.out.cell 1; have e2 := HRS.out.cell 2
      have f0 := HRS.out.frozen 0; have f1 := HRS.out.frozen 1; have f2 := HRS.out.frozen 2
      simp only [List.getElem?_cons_zero, List.getElem?_cons_succ] at e0 e1 e2
      obtain ⟨WF, hWF⟩ : ∃ WF, WF = (((wr.setCell ⟨V, 0, none⟩ (.int .i64 5)).setCell ⟨V, 1, none⟩ (.slice an ns.length cn)).setCell ⟨V, 2, none⟩ (.slice ax us.length cx)) := ⟨_, rfl⟩
      have HSF : Hid (RS 61 w WF g V s _ _ [.int .i64 5, .slice an ns.length cn, .slice ax us.length cx]) := Lib.hid (by rw [hWF]; exact HRS.out.three _ _ _)
      have HWF := Lib.hid hWF
      clear hWF
      go_wp2_with fail
      rw [← HWF.out]
      clear e0 e1 e2 f0 f1 f2
      have e0 := HSF.out.cell 0; have e1 := HSF.out.cell 1; have e2 := HSF.out.cell 2
      simp only [List.getElem?_cons_zero, List.getElem?_cons_succ] at e0 e1 e2
      refine bodyPost_ret (v := .agg #[.int .i64 5, .slice an ns.length cn, .slice ax us.length cx]) (by simp [results, Try.results83, go_sem, e0, e1, e2]) rfl ?_
      exact tnode_end HSF.out (by rw [HWF.out]; exact HG.out.only (stored3 HRS.out.blk _ _ _).2 (by omega)) HE.out (by unfold i64r; omega) (by omega) (by omega) HTN.out

set_option maxHeartbeats 2000000 in
set_option maxRecDepth 100000 in
theorem rt_rec (s : ByteArray) (hs : s.size ≤ 100000) (d p m deep g : Nat) (w : World) (hd : deep + d = 12) (hp : p ≤ s.size) (hm : m ≤ 200) (hm1 : m + 1 ≤ 200) (hin : p < s.size) (hk : (byteAt s p).toNat = 6) (ih : ∀ (p m g : Nat) (w : World), p ≤ s.size → m ≤ 200 → At w g s p (m : Int) → Calls Try.prog 83 #[.pointer (some ⟨g, 0, none⟩), .int .i64 ((deep : Int) + 1)] w fun e w' => TyRead (rdT s d p m) s g w e w') (h : At w g s p (m : Int)) :
    Calls Try.prog 83 #[.pointer (some ⟨g, 0, none⟩), .int .i64 deep] w fun e w' => TyRead (rdT s (d + 1) p m) s g w e w' := by
  have hdw : IntKind.i64.wrap ((deep : Int) + 1) = (deep : Int) + 1 := IntWalk.i64_in _ (by omega)
  obtain ⟨i0, hi0, hz0, hz1, hz2⟩ := info_parts tty_facts
  obtain ⟨i1, hi1, hy0, hy1, hy2⟩ := info_parts str_facts
  have HIH := Lib.hid ih
  clear ih

  have hsf := run_store_flt
  obtain ⟨V, hV⟩ : ∃ V, V = w.heap.size := ⟨_, rfl⟩
  obtain ⟨W, hW⟩ : ∃ W, W = w.alloc (.cells #[.int .i64 0, .slice none 0 0, .slice none 0 0] 61) := ⟨_, rfl⟩
  have hst : RS 61 w W g V s p (m : Int) [.int .i64 0, .slice none 0 0, .slice none 0 0] := by rw [hV, hW]; exact RS.start w g s p m _ h
  have HV := Lib.hid hV; have HW := Lib.hid hW; have HS0 := Lib.hid hst
  clear hV hW hst h

  have HBEG := Lib.hid (rbegin_ok s p m deep g W (by omega) hm1 HS0.out.rd)
  cases hmm : readM s (p + 1) with
  | error k =>
    have HE : Hid (rdT s (d + 1) p m = .error k) := Lib.hid (by unfold rdT tyMany; rw [hk, if_neg (by omega), if_neg (by omega), if_neg (by decide), if_pos rfl, hmm])
    go_enter Try.func83, Try.ntmps83
    go_wp2_with fail
    rw [← HW.out, ← HV.out]

    refine HBEG.out.mono ?_
    rintro e w1 ⟨rfl, ha1, ho1⟩
    have HS1 := Lib.hid (HS0.out.read ha1 ho1)
    clear ha1 ho1 HBEG HW

    have HB1 := Lib.hid (byte_k s p ((m + 1 : Nat) : Int) g 6 w1 hs hin HS1.out.rd hk)
    go_wp2_with fail
    refine HB1.out.mono ?_
    rintro e w2 ⟨rfl, ha2, ho2⟩
    have HS2 := Lib.hid (HS1.out.read ha2 ho2)
    clear ha2 ho2 HB1 HS1
    have c0 := HS2.out.cell 0; have f0 := HS2.out.frozen 0; have hvl := HS2.out.vlt
    simp only [List.getElem?_cons_zero, List.getElem?_cons_succ] at c0
    obtain ⟨W2, hW2⟩ : ∃ W2, W2 = w2.setCell ⟨V, 0, none⟩ (.int .i64 6) := ⟨_, rfl⟩
    have hs3 : RS 61 w W2 g V s (p + 1) ((m + 1 : Nat) : Int) [.int .i64 6, .slice none 0 0, .slice none 0 0] := by rw [hW2]; exact HS2.out.set_ 0 _
    have HS3 := Lib.hid hs3; have HW2 := Lib.hid hW2
    clear hs3 hW2
    go_upto_region 3 with fail
    rw [← HW2.out]
    clear c0 f0 hvl HS2
    have c0 := HS3.out.cell 0; have hvl := HS3.out.vlt
    simp only [List.getElem?_cons_zero, List.getElem?_cons_succ] at c0
    have HR := Lib.hid (rmany_any s (p + 1) ((m + 1 : Nat) : Int) g W2 hs (by omega) HS3.out.rd)
    rw [hmm] at HR
    go_wp2_with fail
    refine HR.out.mono ?_
    rintro e w3 ⟨rfl, ho3⟩
    have ho := HS3.out.only.trans ho3

    unfold gives
    go_wp2
    refine ⟨rfl, ?_⟩
    refine ⟨ho, ?_⟩
    rw [HE.out]
    rfl
  | ok nq =>
    obtain ⟨n, q0⟩ := nq
    obtain ⟨hq0, hq0s, hn200⟩ := readM_lt hmm
    have hed : rdT s (d + 1) p m = (match rdL s (rdT s d) true n (q0) (m + 1) with
        | .error k => .error k
        | .ok (ns, vs, q2, m2) => .ok (Ty.node 6 ns vs, q2, m2)) := by
      unfold rdT tyMany; rw [hk, if_neg (by omega), if_neg (by omega), if_neg (by decide), if_pos rfl, hmm]
      rfl
    have HED := Lib.hid hed; have HMM := Lib.hid hmm
    clear hed hmm
    go_enter Try.func83, Try.ntmps83
    go_wp2_with fail
    rw [← HW.out, ← HV.out]

    refine HBEG.out.mono ?_
    rintro e w1 ⟨rfl, ha1, ho1⟩
    have HS1 := Lib.hid (HS0.out.read ha1 ho1)
    clear ha1 ho1 HBEG HW

    have HB1 := Lib.hid (byte_k s p ((m + 1 : Nat) : Int) g 6 w1 hs hin HS1.out.rd hk)
    go_wp2_with fail
    refine HB1.out.mono ?_
    rintro e w2 ⟨rfl, ha2, ho2⟩
    have HS2 := Lib.hid (HS1.out.read ha2 ho2)
    clear ha2 ho2 HB1 HS1
    have c0 := HS2.out.cell 0; have f0 := HS2.out.frozen 0; have hvl := HS2.out.vlt
    simp only [List.getElem?_cons_zero, List.getElem?_cons_succ] at c0
    obtain ⟨W2, hW2⟩ : ∃ W2, W2 = w2.setCell ⟨V, 0, none⟩ (.int .i64 6) := ⟨_, rfl⟩
    have hs3 : RS 61 w W2 g V s (p + 1) ((m + 1 : Nat) : Int) [.int .i64 6, .slice none 0 0, .slice none 0 0] := by rw [hW2]; exact HS2.out.set_ 0 _
    have HS3 := Lib.hid hs3; have HW2 := Lib.hid hW2
    clear hs3 hW2
    go_upto_region 3 with fail
    rw [← HW2.out]
    clear c0 f0 hvl HS2
    have c0 := HS3.out.cell 0; have hvl := HS3.out.vlt
    simp only [List.getElem?_cons_zero, List.getElem?_cons_succ] at c0
    have HR := Lib.hid (rmany_any s (p + 1) ((m + 1 : Nat) : Int) g W2 hs (by omega) HS3.out.rd)
    rw [HMM.out] at HR
    go_wp2_with fail
    refine HR.out.mono ?_
    rintro e w3 ⟨rfl, ha3, ho3⟩
    have HS4 := Lib.hid (HS3.out.read ha3 ho3)
    clear ha3 ho3 HR HS3 c0 hvl
    go_wp2_with fail
    go_loopw [31] (fun iv wr => ∃ (i : Nat) (ns : List ByteArray) (us : List Ty) (an ax : Option Addr) (cn cx q m' : Nat), iv = .int .i64 i ∧ i ≤ n ∧ q ≤ s.size ∧ m' ≤ 200 ∧ us.length ≤ n ∧ Hid (us.length = i) ∧ ns.length ≤ i ∧ Hid (Come s (rdT s d) true n (q0) (m + 1) ns (us.map Ty.erase) i q m') ∧
      Hid (RS 61 w wr g V s q (m' : Int) [.int .i64 6, .slice an ns.length cn, .slice ax us.length cx]) ∧ Hid (Gath tyE 61 (V + 1) wr ns us (.slice an ns.length cn) (.slice ax us.length cx))) (fun iv _ => n - (intOf iv).toNat)
    case atStart => exact ⟨0, [], [], none, none, 0, 0, q0, m + 1, rfl, by omega, hq0s, hm1, by simp, Lib.hid rfl, by simp, Lib.hid come_start, HS4, Lib.hid (gath_start _)⟩
    case round =>
      obtain ⟨i, ns, us, an, ax, cn, cx, q, m', rfl, hi, hqs, hm', hul, HUL, hnl, HCM, HRS, HG⟩ := hrel
      clear HS4
      try clear c0 hvl
      have c0 := HRS.out.cell 0; have cn0 := HRS.out.cell 1; have cx0 := HRS.out.cell 2; have hvl := HRS.out.vlt
      simp only [List.getElem?_cons_zero, List.getElem?_cons_succ] at c0 cn0 cx0
      by_cases hlt : i < n
      · have j1 : decide ((i : Int) < (n : Int)) = true := by simp; omega
        have j2 : decide (i < n) = true := by simp; omega
        cases ht : readS s q 30 with
        | error k =>
          have HC := Lib.hid (fun (W : World) (h : At W g s q (m' : Int)) => rstr_any s q (m' : Int) 30 g W hs hqs (by omega) (by omega) h)
          rw [ht] at HC
          have HE : Hid (rdT s (d + 1) p m = .error k) := Lib.hid (by rw [HED.out, HCM.out.name_bad hlt ht])
          clear ht
          go_wp2_with fail
          refine wp_region_held_drew (S := (fun W => W.cell? ⟨V, 1, none⟩ = some (Value.slice an ns.length cn))) (by kernel_rfl) cn0 (fun hHeld => ?_)
          refine held_take (i := 0) (d := some 36) (v := ?_) rfl rfl (by kernel_rfl) (by kernel_rfl) (by kernel_rfl) (fun _ _ _ h => h) (by rfl) ?_ hHeld ?_
          rotate_left
          · (intro w hSw; (try dsimp only at hSw); go_simp; try with_reducible rfl)
          try simp only [Act.put, List.setIfInBounds_toArray, List.set_cons_zero, List.set_cons_succ]
          refine held_take (i := 1) (d := some 37) (v := ?_) rfl rfl (by kernel_rfl) (by kernel_rfl) (by kernel_rfl) (fun _ _ _ h => h) (by rfl) ?_ hHeld ?_
          rotate_left
          · (intro w hSw; (try dsimp only at hSw); go_simp; try with_reducible rfl)
          try simp only [Act.put, List.setIfInBounds_toArray, List.set_cons_zero, List.set_cons_succ]
          refine held_take (i := 2) (d := some 38) (v := ?_) rfl rfl (by kernel_rfl) (by kernel_rfl) (by kernel_rfl) (fun _ _ _ h => h) (by rfl) ?_ hHeld ?_
          rotate_left
          · (intro w hSw; (try dsimp only at hSw); go_simp; try with_reducible rfl)
          try simp only [Act.put, List.setIfInBounds_toArray, List.set_cons_zero, List.set_cons_succ]
          refine held_only (i := 3) (by kernel_rfl) rfl (by rfl) (fun K hK => ?_)
          go_simp
          go_at_call 56
          refine (HC.out _ (HRS.out.rd.drew)).mono ?_
          rintro e w6 ⟨rfl, ho6⟩
          have ho := (HRS.out.only.drew).trans ho6
          unfold gives
          go_wp2
          refine ⟨rfl, ho, ?_⟩
          rw [HE.out]
          rfl
        | ok tq =>
          obtain ⟨t, q1⟩ := tq
          obtain ⟨hqq, hq1s, htz⟩ := readS_lt ht
          have HC := Lib.hid (fun (W : World) (h : At W g s q (m' : Int)) => rstr_any s q (m' : Int) 30 g W hs hqs (by omega) (by omega) h)
          rw [ht] at HC
          have HT := Lib.hid ht
          clear ht
          go_upto_region 13 with fail
          go_cut [31] (fun iv wx => iv = .int .i64 i ∧ ∃ (ns2 : List ByteArray) (an2 : Option Addr) (cn2 : Nat), Hid (ns2 = ns ++ [t]) ∧ Hid (RS 61 w wx g V s q1 (m' : Int) [.int .i64 6, .slice an2 ns2.length cn2, .slice ax us.length cx]) ∧ Hid (Gath tyE 61 (V + 1) wx ns2 us (.slice an2 ns2.length cn2) (.slice ax us.length cx)))
          case first =>
            have hvB : V + 1 ≤ wr.heap.size := HRS.out.vlt
            go_region_law (first
              | (refine step_append_any (w := w6.alloc (.cells #[.string t] 9)) rfl (.tmp 37) (.tmp 40) 44 rfl (V + 1) 9 i1 (.string ByteArray.empty) 1 16 Try.underlying44 hi1 hy0 hy1 hy2 rfl (by decide) (.slice an ns.length cn) ns.length (ns.map Value.string) rfl HOWN6.out (w6.heap.size + 1) (some ⟨w6.heap.size, 0, none⟩) 1 1 [.string t] rfl HRED.out (one_str t) (by unfold maxLen; omega) (by omega) (by simp; omega) ?_;
                 intro v' w8 hown' hgrow hor;
                 have hg8 := Gath.name (HG6.out.alloc (.cells #[.string t] 9)) (by simp; omega) hown' hgrow hor;
                 have hr8 := HR6.out.grow hgrow (fun k hk => HG6.out.nge hk);
                 obtain ⟨an', cn', rfl⟩ := own_form hown';
                 have c8 := hr8.cell 1; have f8 := hr8.frozen 1; have v8 := hr8.vlt;
                 simp only [List.getElem?_cons_zero, List.getElem?_cons_succ] at c8;
                 have HG8 := Lib.hid hg8; have HR8 := Lib.hid hr8;
                 clear hg8 hr8 hown' hgrow hor)
              | (go_simp; go_at_call 56; refine (HC.out _ (HRS.out.rd.drew)).mono ?_; rintro e w6 ⟨rfl, ha6, ho6⟩;
                 have ho6' := ((Only.refl wr g).drew).trans ho6;
                 have hz6 := ho6'.size;
                 have hr6 := HRS.out.read ha6 ho6';
                 have hg6 := HG.out.only ho6' (by have := hr6.lt; omega);
                 have c6 := hr6.cell 1; have v6 := hr6.vlt;
                 simp only [List.getElem?_cons_zero, List.getElem?_cons_succ] at c6;
                 have hred := reads_one w6 (.string t) 9;
                 have hown6 := hg6.names.alloc (.cells #[.string t] 9);
                 have HR6 := Lib.hid hr6; have HG6 := Lib.hid hg6; have HRED := Lib.hid hred; have HOWN6 := Lib.hid hown6;
                 clear ha6 ho6 ho6' hr6 hg6 hred hown6))
            all_goals
              have HRS9 := Lib.hid (HR8.out.set_ 1 (.slice an' (ns.length + 1) cn'))
              have HG9 := Lib.hid (HG8.out.set_ (p := ⟨V, 1, none⟩) (by simp) (.slice an' (ns.length + 1) cn'))
              go_wp2
              go_meet
              exact ⟨rfl, ns ++ [t], an', cn', Lib.hid rfl, by simpa using HRS9, by simpa using HG9⟩
          case rest =>
          obtain ⟨rfl, ns2, an2, cn2, HN2, HRS2, HG2⟩ := hcut
          have hn2 : ns2.length ≤ i + 1 := by rw [HN2.out]; simp; omega
          clear HRS HG c0 cn0 cx0 hvl HC
          have HRS := HRS2
          have HG := HG2
          clear HRS2 HG2
          have c0 := HRS.out.cell 0; have cn0 := HRS.out.cell 1; have cx0 := HRS.out.cell 2; have hvl := HRS.out.vlt
          simp only [List.getElem?_cons_zero, List.getElem?_cons_succ] at c0 cn0 cx0
          cases hr : rdT s d q1 m' with
          | error k =>
            have HC := Lib.hid (fun (W : World) (h : At W g s (q1) (m' : Int)) => HIH.out (q1) m' g W (by omega) hm' h)
            rw [hr] at HC
            have HE : Hid (rdT s (d + 1) p m = .error k) := Lib.hid (by rw [HED.out, (HCM.out.item_bad1 hlt HT.out hr)])
            clear hr
            go_wp2_with fail
            refine wp_region_held_drew (S := (fun W => W.cell? ⟨V, 2, none⟩ = some (Value.slice ax us.length cx))) (by kernel_rfl) cx0 (fun hHeld => ?_)
            refine held_take (i := 0) (d := some 43) (v := ?_) rfl rfl (by kernel_rfl) (by kernel_rfl) (by kernel_rfl) (fun _ _ _ h => h) (by rfl) ?_ hHeld ?_
            rotate_left
            · (intro w hSw; (try dsimp only at hSw); go_simp; try with_reducible rfl)
            try simp only [Act.put, List.setIfInBounds_toArray, List.set_cons_zero, List.set_cons_succ]
            refine held_take (i := 1) (d := some 44) (v := ?_) rfl rfl (by kernel_rfl) (by kernel_rfl) (by kernel_rfl) (fun _ _ _ h => h) (by rfl) ?_ hHeld ?_
            rotate_left
            · (intro w hSw; (try dsimp only at hSw); go_simp; try with_reducible rfl)
            try simp only [Act.put, List.setIfInBounds_toArray, List.set_cons_zero, List.set_cons_succ]
            refine held_take (i := 2) (d := some 45) (v := ?_) rfl rfl (by kernel_rfl) (by kernel_rfl) (by kernel_rfl) (fun _ _ _ h => h) (by rfl) ?_ hHeld ?_
            rotate_left
            · (intro w hSw; (try dsimp only at hSw); go_simp; try with_reducible rfl)
            try simp only [Act.put, List.setIfInBounds_toArray, List.set_cons_zero, List.set_cons_succ]
            refine held_take (i := 3) (d := some 46) (v := ?_) rfl rfl (by kernel_rfl) (by kernel_rfl) (by kernel_rfl) (fun _ _ _ h => h) (by rfl) ?_ hHeld ?_
            rotate_left
            · (intro w hSw; (try dsimp only at hSw); go_simp; try with_reducible rfl)
            try simp only [Act.put, List.setIfInBounds_toArray, List.set_cons_zero, List.set_cons_succ]
            refine held_take (i := 4) (d := some 47) (v := ?_) rfl rfl (by kernel_rfl) (by kernel_rfl) (by kernel_rfl) (fun _ _ _ h => h) (by rfl) ?_ hHeld ?_
            rotate_left
            · (intro w hSw; (try dsimp only at hSw); go_simp; try with_reducible rfl)
            try simp only [Act.put, List.setIfInBounds_toArray, List.set_cons_zero, List.set_cons_succ]
            refine held_only (i := 5) (by kernel_rfl) rfl (by rfl) (fun K hK => ?_)
            go_simp
            go_at_call 83
            refine (HC.out _ (HRS.out.rd.drew)).mono ?_
            rintro e w6 ⟨ho6, rfl⟩
            have ho := (HRS.out.only.drew).trans ho6
            unfold gives
            go_wp2
            refine ⟨rfl, ho, ?_⟩
            rw [HE.out]
            rfl
          | ok x =>
            obtain ⟨v, q2, m2⟩ := x
            have hlts := rdT_lt s d q1 m' v q2 m2 (by omega) hm' hr
            have HC := Lib.hid (fun (W : World) (h : At W g s (q1) (m' : Int)) => HIH.out (q1) m' g W (by omega) hm' h)
            rw [hr] at HC
            have HCM2 := Lib.hid (HN2.out ▸ HCM.out.next1 hlt HT.out hr)
            have HZS := Lib.hid (fun b (hb : (Value.slice an2 ns2.length cn2).ownBlock = some b) => HG.out.nlt hb)
            have HZX := Lib.hid (fun b (hb : (Value.slice ax us.length cx).ownBlock = some b) => HG.out.xlt hb)
            clear hr
            go_wp2_with fail
            have hvB : V + 1 ≤ wc.heap.size := HRS.out.vlt
            go_region_law (first
              | (refine step_append_any (w := w6.alloc (.cells #[.int .i64 u.k, .slice a4 u.ns.length b4, .slice a5 u.xs.length b5] 61)) rfl (.tmp 44) (.tmp 49) 59 rfl (V + 1) 61 i0 (.agg #[.int .i64 0, .slice none 0 0, .slice none 0 0]) 3 56 Try.underlying59 hi0 hz0 hz1 hz2 rfl (by decide) (.slice ax us.length cx) us.length (tyE.row us) rfl HOWN6.out (w6.heap.size + 1) (some ⟨w6.heap.size, 0, none⟩) 1 1 u.cells rfl HRED.out (tyE.one u) (by unfold maxLen; omega) (by omega) (by simp; omega) ?_;
                 intro v' w8 hown' hgrow hor;
                 have hg8 := Gath.item (HG6.out.alloc (.cells #[.int .i64 u.k, .slice a4 u.ns.length b4, .slice a5 u.xs.length b5] 61)) (by simp; omega) (HUI.out.below ((Below.refl _ w6).alloc (Nat.le_refl _) (.cells #[.int .i64 u.k, .slice a4 u.ns.length b4, .slice a5 u.xs.length b5] 61))) HUS.out hvB HZS.out HZX.out hown' hgrow hor;
                 have hr8 := HR6.out.grow hgrow (fun k hk => HG6.out.xge hk);
                 obtain ⟨ax', cx', rfl⟩ := own_form hown';
                 have c8 := hr8.cell 2; have f8 := hr8.frozen 2; have v8 := hr8.vlt;
                 simp only [List.getElem?_cons_zero, List.getElem?_cons_succ] at c8;
                 have HG8 := Lib.hid hg8; have HR8 := Lib.hid hr8;
                 clear hg8 hr8 hown' hgrow hor)
              | (go_simp; go_at_call 83; refine (HC.out _ (HRS.out.rd.drew)).mono ?_; rintro e w6 ⟨ho6, u, rfl, hue, hui, hus, ha6⟩;
                 obtain ⟨a4, b4, k4⟩ := hui.nslice;
                 obtain ⟨a5, b5, k5⟩ := hui.xslice;
                 unfold Ty.agg;
                 rw [k4, k5];
                 have ho6' := ((Only.refl wc g).drew).trans ho6;
                 have hz6 := ho6'.size;
                 have hr6 := HRS.out.read ha6 ho6';
                 have hg6 := HG.out.only ho6' (by have := hr6.lt; omega);
                 have c6 := hr6.cell 2; have v6 := hr6.vlt;
                 simp only [List.getElem?_cons_zero, List.getElem?_cons_succ] at c6;
                 have hred : Reads (w6.alloc (.cells #[.int .i64 u.k, .slice a4 u.ns.length b4, .slice a5 u.xs.length b5] 61)) (w6.heap.size + 1) 3 (some ⟨w6.heap.size, 0, none⟩) 1 u.cells := by
                   unfold Ty.cells; rw [k4, k5]; exact reads_row w6 _ 61;
                 have hown6 := hg6.items.alloc (.cells #[.int .i64 u.k, .slice a4 u.ns.length b4, .slice a5 u.xs.length b5] 61);
                 have HR6 := Lib.hid hr6; have HG6 := Lib.hid hg6; have HRED := Lib.hid hred; have HOWN6 := Lib.hid hown6; have HUI := Lib.hid hui; have HUS := Lib.hid hus; have HUE := Lib.hid hue;
                 clear ha6 ho6 ho6' hr6 hg6 hred hown6 hui hus hue k4 k5))
            all_goals
              have HRS9 := Lib.hid (HR8.out.set_ 2 (.slice ax' (us.length + 1) cx'))
              have HG9 := Lib.hid (HG8.out.set_ (p := ⟨V, 2, none⟩) (by simp) (.slice ax' (us.length + 1) cx'))
              go_wp2
              go_roundw
              case rel => exact ⟨i + 1, ns2, us ++ [u], an2, ax', cn2, cx', q2, m2, by go_num, by omega, by omega, by omega, by simp [HUL.out]; omega, Lib.hid (by simp [HUL.out]), by omega, Lib.hid (by rw [List.map_append, List.map_cons, List.map_nil, HUE.out]; exact HCM2.out), by simpa using HRS9, by simpa using HG9⟩
              case measure => simp [intOf]; omega
      · have j1 : decide ((i : Int) < (n : Int)) = false := by simp; omega
        have j2 : decide (i < n) = false := by simp; omega
        obtain rfl : i = n := by omega
        have hdone := HCM.out.done
        have hfacts := rdL_lt (fun p m v q m' => rdT_lt s d p m v q m') _ _ (m + 1) ns (us.map Ty.erase) q m' hq0s hm1 hdone
        have HE : Hid (rdT s (d + 1) p m = .ok (Ty.node 6 ns (us.map Ty.erase), q, m')) := Lib.hid (by rw [HED.out, hdone])
        have HTN := Lib.hid hfacts.2.2.2.2.2.2
        clear hdone hfacts c0 cn0 cx0
        have e0 := HRS.out.cell 0; have e1 := HRS.out.cell 1; have e2 := HRS.out.cell 2
        have f0 := HRS.out.frozen 0; have f1 := HRS.out.frozen 1; have f2 := HRS.out.frozen 2
        simp only [List.getElem?_cons_zero, List.getElem?_cons_succ] at e0 e1 e2
        obtain ⟨WF, hWF⟩ : ∃ WF, WF = (((wr.setCell ⟨V, 0, none⟩ (.int .i64 6)).setCell ⟨V, 1, none⟩ (.slice an ns.length cn)).setCell ⟨V, 2, none⟩ (.slice ax us.length cx)) := ⟨_, rfl⟩
        have HSF : Hid (RS 61 w WF g V s _ _ [.int .i64 6, .slice an ns.length cn, .slice ax us.length cx]) := Lib.hid (by rw [hWF]; exact HRS.out.three _ _ _)
        have HWF := Lib.hid hWF
        clear hWF
        go_wp2_with fail
        rw [← HWF.out]
        clear e0 e1 e2 f0 f1 f2
        have e0 := HSF.out.cell 0; have e1 := HSF.out.cell 1; have e2 := HSF.out.cell 2
        simp only [List.getElem?_cons_zero, List.getElem?_cons_succ] at e0 e1 e2
        refine bodyPost_ret (v := .agg #[.int .i64 6, .slice an ns.length cn, .slice ax us.length cx]) (by simp [results, Try.results83, go_sem, e0, e1, e2]) rfl ?_
        exact tnode_end HSF.out (by rw [HWF.out]; exact HG.out.only (stored3 HRS.out.blk _ _ _).2 (by omega)) HE.out (by unfold i64r; omega) (by omega) (by omega) HTN.out

/-- A type, whatever the bytes. -/
theorem rtyp_any (s : ByteArray) (hs : s.size ≤ 100000) (d : Nat) : ∀ (deep p m g : Nat) (w : World), deep + d = 13 → p ≤ s.size → m ≤ 200 → At w g s p (m : Int) →
    Calls Try.prog 83 #[.pointer (some ⟨g, 0, none⟩), .int .i64 deep] w fun e w' => TyRead (rdT s d p m) s g w e w' := by
  induction d with
  | zero =>
    intro deep p m g w hd hp hm h
    obtain rfl : deep = 13 := by omega
    exact rt_deep s hs p m g w hp hm h
  | succ d ih =>
    intro deep p m g w hd hp hm h
    have hd' : deep + d = 12 := by omega
    by_cases hm1 : m + 1 ≤ 200
    case neg => exact rt_begin s hs d p m deep g w hd' hp hm (by omega) h
    by_cases hin : p < s.size
    case neg => exact rt_torn s hs d p m deep g w hd' hp hm hm1 hin h
    have ih' := fun (p m g : Nat) (w : World) hp hm h => ih (deep + 1) p m g w (by omega) hp hm h
    by_cases h5 : (byteAt s p).toNat = 5
    · exact rt_list s hs d p m deep g w hd' hp hm hm1 hin h5 ih' h
    by_cases h6 : (byteAt s p).toNat = 6
    · exact rt_rec s hs d p m deep g w hd' hp hm hm1 hin h6 ih' h
    by_cases h7 : 1 ≤ (byteAt s p).toNat ∧ (byteAt s p).toNat ≤ 7
    · exact rt_plain s hs d p m deep g w hd' hp hm _ hm1 hin rfl ⟨h7.1, h7.2, h5, h6⟩ h
    exact rt_other s hs d p m deep g w hd' hp hm _ hm1 hin rfl (by omega) h
end Go.Proofs.Ytemhinagajfemaa
