/- The bytes of a value; the code's writer writes them. -/
import Derived.Test.YtaamihdibpioaaaGreatJpM16
import Derived.Test.YtaamihdibpioaaaGreatJpM21
import Derived.Test.YtaamihdibpioaaaGreatJpM23
set_option maxRecDepth 100000
set_option maxHeartbeats 40000000
namespace Go.Proofs.YtaamihdibpioaaaGreat
open Go.RowKit
def strE (s : ByteArray) : List UInt8 := ub s.size ++ s.data.toList
mutual
def Val.enc : Val -> List UInt8
 | .mk k n f s _ ns _ xs => UInt8.ofNat k.toNat :: (if k = 1 then [UInt8.ofNat n.toNat] else if k = 2 then ub (zig n) else if k = 3 then fbytes (fcan f) 8 else if k = 4 then strE s
   else ub xs.length ++ Val.encAll (decide (k = 6)) ns xs)
def Val.encAll : Bool -> List ByteArray -> List Val -> List UInt8
 | _,_, [] => []
 | b,ns,x :: xs => (bif b then strE (ns.headD ByteArray.empty) else []) ++ (x.enc ++ Val.encAll b ns.tail xs)
end
theorem Val.enc_eq (v : Val) : v.enc = UInt8.ofNat v.k.toNat :: (if v.k = 1 then [UInt8.ofNat v.n.toNat] else if v.k = 2 then ub (zig v.n) else if v.k = 3 then fbytes (fcan v.f) 8 else if v.k = 4 then strE v.s
   else ub v.xs.length ++ Val.encAll (decide (v.k = 6)) v.ns v.xs) := by
 cases v
 simp only [Val.enc,Val.k,Val.n,Val.f,Val.s,Val.ns,Val.xs]
 rfl
theorem encAll_step {b : Bool} {ns : List ByteArray} {xs : List Val} {i : Nat} (h : i < xs.length) : Val.encAll b (ns.drop i) (xs.drop i) = (bif b then strE (ns.getD i ByteArray.empty) else []) ++ ((xs[i]'h).enc ++ Val.encAll b (ns.drop (i + 1)) (xs.drop (i + 1))) := by
 rw [drop_cons h]; simp only [Val.encAll]
 have e1 : (ns.drop i).headD ByteArray.empty = ns.getD i ByteArray.empty := by
  rw [List.headD_eq_head?_getD,List.head?_drop,List.getD_eq_getElem?_getD]
 have e2 : (ns.drop i).tail = ns.drop (i + 1) := by rw [List.tail_drop]
 rw [e1,e2]
theorem nameB_size {s : ByteArray} (h : nameB s = true) : s.size <= 30 := (of_decide_eq_true h : IsName s).2.1
theorem rising_size {ns : List ByteArray} (h : risingB ns = true) {i : Nat} (hi : i < ns.length) : (ns.getD i ByteArray.empty).size <= 30 := nameB_size ((of_decide_eq_true h : IsRising ns) i hi).1
theorem Val.count_sz (d : Nat) : ∀ (v : Val) (n : Nat), v.sz <= d -> v.count n < 500 -> v.count n = n + v.sz := by
 induction d with
 | zero => intro v n hd; rw [Val.sz_eq] at hd; omega
 | succ d ih =>
  intro v n hd h; rw [Val.count_eq] at h ⊢
  have key : ∀ (xs : List Val) (m : Nat), (∀ x, x ∈ xs -> x.sz <= d) -> m < 500 -> Val.countAll xs m < 500 -> Val.countAll xs m = m + Val.szAll xs := fun xs => by
   induction xs with
   | nil => intro m _ _ _; simp [Val.countAll,Val.szAll]
   | cons x xs ihx =>
    intro m hm hm5 hc; simp only [Val.countAll] at hc ⊢; rw [if_neg (by omega)] at hc ⊢
    have hle := Val.count_le x.sz x m (Nat.le_refl _) hm5
    have hx5 : x.count m < 500 := by
     rcases Nat.lt_or_ge (x.count m) 500 with h' | h'
     ·exact h'
     ·rw [Val.countAll_ge h'] at hc; exact hc
    rw [ihx _ (fun z hz => hm z (List.mem_cons_of_mem _ hz)) hx5 hc,ih x m (hm x (by simp)) hx5]
    simp only [Val.szAll]
    omega
  have hn : n + 1 < 500 := by
   rcases Nat.lt_or_ge (n + 1) 500 with h' | h'
   ·exact h'
   ·rw [Val.countAll_ge h'] at h; exact h
  rw [key v.xs (n + 1) (fun x hx => by have := Val.size_mem hx; omega) hn h,Val.sz_eq v]
  omega
theorem fbytes_len (x k : Nat) : (fbytes x k).length = k := by simp [fbytes]
theorem Val.enc_len {w : World} (d : Nat) : ∀ (v : Val) (deep : Nat), v.sz <= d -> v.rightB deep = true -> v.In w -> v.enc.length + 50 <= 300 * v.sz := by
 induction d with
 | zero => intro v deep hd; rw [Val.sz_eq] at hd; omega
 | succ d ih =>
  intro v deep hd h hin; have hkk := (Val.kinds_iff v).1 (Val.kinds_of_right v.sz v deep (Nat.le_refl _) h); have hzz := zig_lt hin.ok.2.1.1 hin.ok.2.1.2
  have hall : ∀ (b : Bool) (ns : List ByteArray) (xs : List Val), (∀ x, x ∈ xs -> x ∈ v.xs /\ x.rightB (deep + 1) = true) -> (b = true -> ∀ s, s ∈ ns -> s.size <= 30) -> (Val.encAll b ns xs).length <= 300 * Val.szAll xs := fun b ns xs => by
   induction xs generalizing ns with
   | nil => intro _ _; simp [Val.encAll]
   | cons x xs ihx =>
    intro hx hs; simp only [Val.encAll,Val.szAll,List.length_append]; have h1 := ih x (deep + 1) (by have := Val.size_mem (hx x (by simp)).1; omega) (hx x (by simp)).2 (((Val.in_iff _ v).1 hin).2.2.2 x (hx x (by simp)).1)
    have h2 := ihx ns.tail (fun z hz => hx z (List.mem_cons_of_mem _ hz)) (fun hb s h => hs hb s (List.mem_of_mem_tail h))
    have h3 : (bif b then strE (ns.headD ByteArray.empty) else []).length <= 40 := by
     cases b
     ·simp
     ·have h4 : (ns.headD ByteArray.empty).size <= 30 := by
       cases ns with
       | nil => exact Nat.zero_le _
       | cons s ns => exact hs rfl s (by simp)
      have h5 := ub_len64 (n := (ns.headD ByteArray.empty).size) (by omega)
      have h6 : (ns.headD ByteArray.empty).data.toList.length = (ns.headD ByteArray.empty).size := Array.length_toList; simp only [cond_true,strE,List.length_append]
      omega
    omega
  rw [Val.rightB_eq] at h; rw [Val.enc_eq,Val.sz_eq]; have hub := ub_len64 (n := v.xs.length) (by have := hin.ok.2.2.2.2.2.1; omega)
  have hus := ub_len64 (n := v.s.size) (by have := hin.ok.2.2.2.1; unfold strok at this; omega)
  have huz := ub_len64 hzz; have hsl : v.s.data.toList.length = v.s.size := Array.length_toList
  by_cases h12 : 12 < deep
  ·rw [if_pos h12] at h; cases h
  rw [if_neg h12] at h; simp only [List.length_cons]
  by_cases h1 : v.k = 1
  ·rw [if_pos h1]; simp; omega
  rw [if_neg h1] at h ⊢
  by_cases h2 : v.k = 2
  ·rw [if_pos h2]; omega
  rw [if_neg h2] at h ⊢
  by_cases h3 : v.k = 3
  ·rw [if_pos h3,fbytes_len]; omega
  rw [if_neg h3] at h ⊢
  by_cases h4 : v.k = 4
  ·rw [if_pos h4] at h ⊢
   rw [Bool.and_eq_true,decide_eq_true_eq] at h; simp only [strE,List.length_append]
   omega
  rw [if_neg h4] at h ⊢; rw [List.length_append]
  by_cases h5 : v.k = 5
  ·rw [if_pos h5, Bool.and_eq_true] at h
   have := hall (decide (v.k = 6)) v.ns v.xs (fun x hx => ⟨hx,rightAll_mem h.2 x hx⟩) (fun hb => by simp [h5] at hb)
   omega
  rw [if_neg h5] at h
  by_cases h6 : v.k = 6
  ·rw [if_pos h6, Bool.and_eq_true, Bool.and_eq_true, Bool.and_eq_true] at h
   have := hall (decide (v.k = 6)) v.ns v.xs (fun x hx => ⟨hx, rightAll_mem h.2 x hx⟩) (fun _ s hs => by
    obtain ⟨i,hi,rfl⟩ := List.getElem_of_mem hs; have := rising_size h.1.1.2 hi
    simpa [hi] using this)
   omega
  exact absurd hkk.1 (by omega)
end Go.Proofs.YtaamihdibpioaaaGreat
namespace Go.Proofs.YtaamihdibpioaaaGreat
open Go.RowKit
theorem wvalue_bool1 (v : Val) (deep gb go b : Nat) (l : List UInt8) (w0 w : World) (HP : Hid (PVal w0 gb go v)) (HB : Hid (Below w0.heap.size w0 w)) (h : WB w w0.heap.size b l) (hr : v.rightB deep = true) (hlen : l.length + v.enc.length + 20 <= 140737488355328) (HK : Hid (v.k = 1)) :
  Calls Tryz.prog 123 #[.pointer (some ⟨b, 0,none⟩), .pointer (some ⟨gb,go,none⟩)] w fun e w' => NumWrote w0.heap.size b (l ++ v.enc) w e w' := by
 obtain ⟨p4,q4,e4⟩ := HP.o.in.nslice; obtain ⟨p5,q5,e5⟩ := HP.o.in.xslice; have HE4 := gh e4; have HE5 := gh e5; have henc := Val.enc_eq v; rw [HK.o] at henc; have hbsz := HB.o.size; clear e4 e5
 have hn : v.n = 0 \/ v.n = 1 := by
  rw [Val.rightB_eq] at hr
  by_cases h12 : 12 < deep
  ·rw [if_pos h12] at hr; cases hr
  ·rw [if_neg h12, if_pos HK.o, Bool.and_eq_true, beq_iff_eq] at hr
   omega
 clear hr
 rcases hn with hn | hn
 ·have HE : Hid (l ++ v.enc = l ++ [1] ++ [0]) := gh (by rw [henc, hn]; simp)
  have hl2 : l.length + 3 <= 140737488355328 := by rw [henc] at hlen; simp at hlen; omega
  rw [HE.o]; have HN := gh hn; clear henc hlen hn HE; have c0 := (HP.o.below HB.o).c0; rw [HK.o] at c0; have h1 := gh (wbyte_any w0.heap.size b l 1 w.drew h (by omega) HB.o.size)
  clear h
  go_enter Tryz.func123,Tryz.ntmps123
  go_wp2
  go_still_tail 8, (by kernel_rfl)
  change wpList _ _ _ _ _ w.drew
  go_wp2_with fail
  refine h1.out.mono ?_; rintro e w2 ⟨rfl,hw2,hb2⟩; have HB2 := gh (HB.o.trans ((Below.refl _ w).drew.trans hb2)); have HW2 := gh hw2; have HS2 := gh ((Below.refl w0.heap.size w).drew.trans hb2); clear hw2 hb2 h1 c0; have hq := HP.o.below HB2.o; have c0 := hq.c0; have c1 := hq.c1; have c2 := hq.c2; have c3 := hq.c3; have c4 := hq.c4; have c5 := hq.c5; rw [HK.o] at c0; rw [HE4.o] at c4; rw [HE5.o] at c5; clear hq; rw [HN.o] at c1; have hs2 := HB2.o.size; have h2 := gh (wbyte_any w0.heap.size b (l ++ [1]) 0 w2.drew HW2.o (by simp; omega) HB2.o.size)
  go_wp2
  go_still_tail 8, (by kernel_rfl)
  change wpList _ _ _ _ _ w2.drew
  go_wp2_with fail
  refine h2.out.mono ?_; rintro e w3 ⟨rfl,hw3,hb3⟩; have HF := gh (HS2.o.trans ((Below.refl w0.heap.size w2).drew.trans hb3))
  go_wp2
  first | go_end0 | refine bodyPost_ret (results_none rfl _ _ _) rfl ?_
  exact ⟨rfl,hw3,HF.o⟩
 ·have HE : Hid (l ++ v.enc = l ++ [1] ++ [1]) := gh (by rw [henc, hn]; simp)
  have hl2 : l.length + 3 <= 140737488355328 := by rw [henc] at hlen; simp at hlen; omega
  rw [HE.o]; have HN := gh hn; clear henc hlen hn HE; have c0 := (HP.o.below HB.o).c0; rw [HK.o] at c0; have h1 := gh (wbyte_any w0.heap.size b l 1 w.drew h (by omega) HB.o.size)
  clear h
  go_enter Tryz.func123,Tryz.ntmps123
  go_wp2
  go_still_tail 8, (by kernel_rfl)
  change wpList _ _ _ _ _ w.drew
  go_wp2_with fail
  refine h1.out.mono ?_; rintro e w2 ⟨rfl,hw2,hb2⟩; have HB2 := gh (HB.o.trans ((Below.refl _ w).drew.trans hb2)); have HW2 := gh hw2; have HS2 := gh ((Below.refl w0.heap.size w).drew.trans hb2); clear hw2 hb2 h1 c0; have hq := HP.o.below HB2.o; have c0 := hq.c0; have c1 := hq.c1; have c2 := hq.c2; have c3 := hq.c3; have c4 := hq.c4; have c5 := hq.c5; rw [HK.o] at c0; rw [HE4.o] at c4; rw [HE5.o] at c5; clear hq; rw [HN.o] at c1; have hs2 := HB2.o.size; have h2 := gh (wbyte_any w0.heap.size b (l ++ [1]) 1 w2.drew HW2.o (by simp; omega) HB2.o.size)
  go_wp2
  go_still_tail 8, (by kernel_rfl)
  change wpList _ _ _ _ _ w2.drew
  go_wp2_with fail
  refine h2.out.mono ?_; rintro e w3 ⟨rfl,hw3,hb3⟩; have HF := gh (HS2.o.trans ((Below.refl w0.heap.size w2).drew.trans hb3))
  go_wp2
  first | go_end0 | refine bodyPost_ret (results_none rfl _ _ _) rfl ?_
  exact ⟨rfl,hw3,HF.o⟩
theorem wvalue_int (v : Val) (deep gb go b : Nat) (l : List UInt8) (w0 w : World) (HP : Hid (PVal w0 gb go v)) (HB : Hid (Below w0.heap.size w0 w)) (h : WB w w0.heap.size b l) (hr : v.rightB deep = true) (hlen : l.length + v.enc.length + 20 <= 140737488355328) (HK : Hid (v.k = 2)) :
  Calls Tryz.prog 123 #[.pointer (some ⟨b, 0,none⟩), .pointer (some ⟨gb,go,none⟩)] w fun e w' => NumWrote w0.heap.size b (l ++ v.enc) w e w' := by
 obtain ⟨p4,q4,e4⟩ := HP.o.in.nslice; obtain ⟨p5,q5,e5⟩ := HP.o.in.xslice; have HE4 := gh e4; have HE5 := gh e5; have henc := Val.enc_eq v; rw [HK.o] at henc; have hbsz := HB.o.size; clear e4 e5; have HE : Hid (l ++ v.enc = l ++ [2] ++ ub (zig v.n)) := gh (by rw [henc]; simp)
 have hz := zig_lt HP.o.in.ok.2.1.1 HP.o.in.ok.2.1.2; have hu := ub_len64 hz; have hl2 : l.length + 12 <= 140737488355328 := by rw [henc] at hlen; simp at hlen; omega
 rw [HE.o]; clear henc hlen HE hr hz hu; have c0 := (HP.o.below HB.o).c0; rw [HK.o] at c0; have h1 := gh (wbyte_any w0.heap.size b l 2 w.drew h (by omega) HB.o.size)
 clear h
 go_enter Tryz.func123,Tryz.ntmps123
 go_wp2
 go_still_tail 8, (by kernel_rfl)
 change wpList _ _ _ _ _ w.drew
 go_wp2_with fail
 refine h1.out.mono ?_; rintro e w2 ⟨rfl,hw2,hb2⟩; have HB2 := gh (HB.o.trans ((Below.refl _ w).drew.trans hb2)); have HW2 := gh hw2; have HS2 := gh ((Below.refl w0.heap.size w).drew.trans hb2); clear hw2 hb2 h1 c0; have hq := HP.o.below HB2.o; have c0 := hq.c0; have c1 := hq.c1; have c2 := hq.c2; have c3 := hq.c3; have c4 := hq.c4; have c5 := hq.c5; rw [HK.o] at c0; rw [HE4.o] at c4; rw [HE5.o] at c5; clear hq; have h2 := gh (wint_any w0.heap.size b (l ++ [2]) v.n w2 HP.o.in.ok.2.1.1 HP.o.in.ok.2.1.2 HW2.o (by simp; omega) HB2.o.size)
 go_wp2_with fail
 refine h2.out.mono ?_; rintro e w3 ⟨rfl,hw3,hb3⟩; have HF := gh (HS2.o.trans hb3)
 go_wp2
 first | go_end0 | refine bodyPost_ret (results_none rfl _ _ _) rfl ?_
 exact ⟨rfl,hw3,HF.o⟩
theorem wvalue_float3 (v : Val) (deep gb go b : Nat) (l : List UInt8) (w0 w : World) (HP : Hid (PVal w0 gb go v)) (HB : Hid (Below w0.heap.size w0 w)) (h : WB w w0.heap.size b l) (hr : v.rightB deep = true) (hlen : l.length + v.enc.length + 20 <= 140737488355328) (HK : Hid (v.k = 3)) :
  Calls Tryz.prog 123 #[.pointer (some ⟨b, 0,none⟩), .pointer (some ⟨gb,go,none⟩)] w fun e w' => NumWrote w0.heap.size b (l ++ v.enc) w e w' := by
 obtain ⟨p4,q4,e4⟩ := HP.o.in.nslice; obtain ⟨p5,q5,e5⟩ := HP.o.in.xslice; have HE4 := gh e4; have HE5 := gh e5; have henc := Val.enc_eq v; rw [HK.o] at henc; have hbsz := HB.o.size; clear e4 e5; have HE : Hid (l ++ v.enc = l ++ [3] ++ fbytes (fcan v.f) 8) := gh (by rw [henc]; simp)
 have hl2 : l.length + 12 <= 140737488355328 := by rw [henc] at hlen; simp [fbytes_len] at hlen; omega
 have hfl := fcan_lt HP.o.in.ok.2.2.1; rw [HE.o]; have HCN := gh (fun W : World => canon_any v.f W)
 obtain ⟨f,hf⟩ := gXe (fcan v.f); rw [<- hf] at hfl ⊢; simp only [<- hf] at HCN; have hbits := bits_run0 f; clear henc hlen HE hr hf; have c0 := (HP.o.below HB.o).c0; rw [HK.o] at c0; have h1 := gh (wbyte_any w0.heap.size b l 3 w.drew h (by omega) HB.o.size)
 clear h
 go_enter Tryz.func123,Tryz.ntmps123
 go_wp2
 go_still_tail 8, (by kernel_rfl)
 change wpList _ _ _ _ _ w.drew
 go_wp2_with fail
 refine h1.out.mono ?_; rintro e w2 ⟨rfl,hw2,hb2⟩; have HB2 := gh (HB.o.trans ((Below.refl _ w).drew.trans hb2)); have HW2 := gh hw2; have HS2 := gh ((Below.refl w0.heap.size w).drew.trans hb2); clear hw2 hb2 h1 c0; have hq := HP.o.below HB2.o; have c0 := hq.c0; have c1 := hq.c1; have c2 := hq.c2; have c3 := hq.c3; have c4 := hq.c4; have c5 := hq.c5; rw [HK.o] at c0; rw [HE4.o] at c4; rw [HE5.o] at c5; clear hq
 go_wp2_with (go_at_call 147; refine (HCN.o _).mono ?_; rintro e w' ⟨rfl,rfl⟩)
 go_loopw [5] (fun sv wr => ∃ k : Nat,k <= 8 /\ sv = .int .i64 (56 - 8 * (k : Int)) /\ Hid (WB wr w0.heap.size b (l ++ [3] ++ fbytes f k)) /\ Hid (Below w0.heap.size w wr)) (fun sv _ => (intOf sv + 8).toNat)
 case atStart => exact ⟨0,by omega,rfl,by simpa [fbytes] using HW2,HS2⟩
 case round =>
  obtain ⟨k,hk,rfl,HWB,HBL⟩ := hrel; clear c0 c1 c2 c3 c4 c5
  by_cases hlt : k < 8
  ·have hc := wbyte_any w0.heap.size b (l ++ [3] ++ fbytes f k) (fbyte f k) wr.drew HWB.o (by simp [fbytes]; omega) (by have := HBL.o.size; show w0.heap.size <= wr.heap.size; omega)
   have HC := gh hc; clear hc; have hge : decide ((0 : Int) <= 56 - 8 * (k : Int)) = true := by simp; omega
   have hng : decide ((56 - 8 * (k : Int)) < 0) = false := by simp; omega
   go_wp2_with fail
   go_still_tail 7, (by kernel_rfl)
   change wpList _ _ _ _ _ wr.drew
   go_wp2_with fail
   rw [fbyte_nat f k]; refine HC.o.mono ?_; rintro e w3 ⟨rfl,hw3,hb3⟩; have HW3 := gh hw3; have HB3 := gh ((HBL.o.drew).trans hb3); clear hw3 hb3 HC HWB HBL
   go_wp2
   go_roundw
   case rel => exact ⟨k + 1,by omega,by go_num,by rw [fbytes_succ, <- List.append_assoc]; exact HW3,HB3⟩
   case measure => simp [intOf]; omega
  ·obtain rfl : k = 8 := by omega
   have hge : decide ((0 : Int) <= 56 - 8 * ((8 : Nat) : Int)) = false := by simp
   go_wp2_with fail
   first | go_end0 | refine bodyPost_ret (results_none rfl _ _ _) rfl ?_
   exact ⟨rfl,HWB.o,HBL.o⟩
theorem wvalue_str (v : Val) (deep gb go b : Nat) (l : List UInt8) (w0 w : World) (HP : Hid (PVal w0 gb go v)) (HB : Hid (Below w0.heap.size w0 w)) (h : WB w w0.heap.size b l) (hr : v.rightB deep = true) (hlen : l.length + v.enc.length + 20 <= 140737488355328) (HK : Hid (v.k = 4)) :
  Calls Tryz.prog 123 #[.pointer (some ⟨b, 0,none⟩), .pointer (some ⟨gb,go,none⟩)] w fun e w' => NumWrote w0.heap.size b (l ++ v.enc) w e w' := by
 obtain ⟨p4,q4,e4⟩ := HP.o.in.nslice; obtain ⟨p5,q5,e5⟩ := HP.o.in.xslice; have HE4 := gh e4; have HE5 := gh e5; have henc := Val.enc_eq v; rw [HK.o] at henc; have hbsz := HB.o.size; clear e4 e5; have HE : Hid (l ++ v.enc = l ++ [4] ++ ub v.s.size ++ v.s.data.toList) := gh (by rw [henc]; simp [strE])
 have hso := HP.o.in.ok.2.2.2.1; unfold strok at hso; have hsl : v.s.data.toList.length = v.s.size := Array.length_toList
 have hub : 1 <= (ub v.s.size).length := by
  have := ub_ne v.s.size
  rcases h0 : ub v.s.size with _ | ⟨a,m⟩
  ·exact absurd h0 this
  ·simp
 have hl2 : l.length + 12 + v.s.size <= 140737488355328 := by rw [henc] at hlen; simp [strE] at hlen; omega
 rw [HE.o]; clear henc hlen HE hr hsl hub; have c0 := (HP.o.below HB.o).c0; rw [HK.o] at c0; have h1 := gh (wbyte_any w0.heap.size b l 4 w.drew h (by omega) HB.o.size)
 clear h
 go_enter Tryz.func123,Tryz.ntmps123
 go_wp2
 go_still_tail 8, (by kernel_rfl)
 change wpList _ _ _ _ _ w.drew
 go_wp2_with fail
 refine h1.out.mono ?_; rintro e w2 ⟨rfl,hw2,hb2⟩; have HB2 := gh (HB.o.trans ((Below.refl _ w).drew.trans hb2)); have HW2 := gh hw2; have HS2 := gh ((Below.refl w0.heap.size w).drew.trans hb2); clear hw2 hb2 h1 c0; have hq := HP.o.below HB2.o; have c0 := hq.c0; have c1 := hq.c1; have c2 := hq.c2; have c3 := hq.c3; have c4 := hq.c4; have c5 := hq.c5; rw [HK.o] at c0; rw [HE4.o] at c4; rw [HE5.o] at c5; clear hq; have h2 := gh (wstrw_any w0.heap.size b (l ++ [4]) v.s w2 hso HW2.o (by simp; omega) HB2.o.size)
 go_wp2_with fail
 refine h2.out.mono ?_; rintro e w3 ⟨rfl,hw3,hb3⟩; have HF := gh (HS2.o.trans hb3)
 go_wp2
 first | go_end0 | refine bodyPost_ret (results_none rfl _ _ _) rfl ?_
 exact ⟨rfl,hw3,HF.o⟩
theorem wvalue_list (v : Val) (deep gb go b : Nat) (l : List UInt8) (w0 w : World) (HP : Hid (PVal w0 gb go v)) (HB : Hid (Below w0.heap.size w0 w)) (h : WB w w0.heap.size b l) (hr : v.rightB deep = true) (hlen : l.length + v.enc.length + 20 <= 140737488355328) (HK : Hid (v.k = 5))
  (HIH : Hid (∀ (x : Val) (gb go b : Nat) (l : List UInt8) (w : World), x ∈ v.xs -> PVal w0 gb go x -> Below w0.heap.size w0 w -> WB w w0.heap.size b l -> x.rightB (deep + 1) = true -> l.length + x.enc.length + 20 <= 140737488355328 ->
   Calls Tryz.prog 123 #[.pointer (some ⟨b, 0,none⟩), .pointer (some ⟨gb,go,none⟩)] w fun e w' => NumWrote w0.heap.size b (l ++ x.enc) w e w')) :
  Calls Tryz.prog 123 #[.pointer (some ⟨b, 0,none⟩), .pointer (some ⟨gb,go,none⟩)] w fun e w' => NumWrote w0.heap.size b (l ++ v.enc) w e w' := by
 obtain ⟨p4,q4,e4,hn4⟩ := names_in (NamesAt.of HP.o.in); have HN4 := gh hn4; obtain ⟨p5,q5,e5,hx5⟩ := items_at HP.o.in; have HX5 := gh hx5; have HE4 := gh e4; have HE5 := gh e5; have henc := Val.enc_eq v; rw [HK.o] at henc; have hbsz := HB.o.size; clear e4 e5 hx5 hn4
 have hrr : (∀ x, x ∈ v.xs -> x.rightB (deep + 1) = true) := by
  rw [Val.rightB_eq] at hr
  by_cases h12 : 12 < deep
  ·rw [if_pos h12] at hr; cases hr
  ·rw [if_neg h12, if_neg (by rw [HK.o]; decide), if_neg (by rw [HK.o]; decide), if_neg (by rw [HK.o]; decide), if_neg (by rw [HK.o]; decide), if_pos HK.o] at hr
   simp only [Bool.and_eq_true,decide_eq_true_eq] at hr; exact fun x hx => rightAll_mem hr.2 x hx
 have HRR := gh hrr; have HE : Hid (l ++ v.enc = l ++ [5] ++ ub v.xs.length ++ Val.encAll false v.ns v.xs) := gh (by rw [henc]; simp)
 have hxl := HP.o.in.ok.2.2.2.2.2.1; have hub := ub_len64 (n := v.xs.length) (by omega)
 have htot : (l ++ v.enc).length + 20 <= 140737488355328 := by rw [List.length_append]; omega
 have HTOT := gh htot
 have hub1 : 1 <= (ub v.xs.length).length := by
  have := ub_ne v.xs.length
  rcases h0 : ub v.xs.length with _ | ⟨a,m⟩
  ·exact absurd h0 this
  ·simp
 have hl2 : l.length + 12 <= 140737488355328 := by rw [henc] at hlen; simp at hlen; omega
 obtain ⟨T,hT⟩ := gXe (l ++ v.enc); rw [<- hT] at HE HTOT ⊢; obtain ⟨M,hM⟩ := gXe (v.xs.length); rw [<- hM] at hxl HE HE5; have HM := gh hM; have hcv : IntKind.u64.wrap (M : Int) = M := by rw [IntKind.wrap_u64]; omega
 rw [<- HM.o] at hub hub1; clear henc hlen hr hrr htot hT hM; have c0 := (HP.o.below HB.o).c0; rw [HK.o] at c0; have h1 := gh (wbyte_any w0.heap.size b l 5 w.drew h (by omega) HB.o.size)
 clear h
 go_enter Tryz.func123,Tryz.ntmps123
 go_wp2
 go_still_tail 8, (by kernel_rfl)
 change wpList _ _ _ _ _ w.drew
 go_wp2_with fail
 refine h1.out.mono ?_; rintro e w2 ⟨rfl,hw2,hb2⟩; have HB2 := gh (HB.o.trans ((Below.refl _ w).drew.trans hb2)); have HW2 := gh hw2; have HS2 := gh ((Below.refl w0.heap.size w).drew.trans hb2); clear hw2 hb2 h1 c0; have hq := HP.o.below HB2.o; have c0 := hq.c0; have c1 := hq.c1; have c2 := hq.c2; have c3 := hq.c3; have c4 := hq.c4; have c5 := hq.c5; rw [HK.o] at c0; rw [HE4.o] at c4; rw [<- HM.o,HE5.o] at c5; clear hq; have h2 := gh (wuint_any w0.heap.size b (l ++ [5]) M w2 (by omega) HW2.o (by simp; omega) HB2.o.size)
 go_wp2_with fail
 refine h2.out.mono ?_; rintro e w3 ⟨rfl,hw3,hb3⟩; have HB3 := gh (HB2.o.trans hb3); have HS3 := gh (HS2.o.trans hb3); have HW3 := gh hw3; clear hw3 hb3 h2 HB2 HS2 HW2 c0 c1 c2 c3 c4 c5; have hq := HP.o.below HB3.o; have c5 := hq.c5; rw [<- HM.o,HE5.o] at c5; clear hq
 go_wp2_with fail
 clear c5
 go_loopw [33] (fun iv wr => ∃ (i : Nat) (m : List UInt8),iv = .int .i64 (i : Int) /\ i <= M /\ Hid (m ++ Val.encAll false (v.ns.drop i) (v.xs.drop i) = T) /\ Hid (WB wr w0.heap.size b m) /\ Hid (Below w0.heap.size w0 wr) /\ Hid (Below w0.heap.size w wr)) (fun iv _ => M - (intOf iv).toNat)
 case atStart => exact ⟨0,_,rfl,by omega,gh (by rw [HE.o]; rfl),HW3,HB3,HS3⟩
 case round =>
  obtain ⟨i,m,rfl,hi,HMT,HWM,HBM,HSM⟩ := hrel
  by_cases hlt : i < M
  ·have hil : i < v.xs.length := by rw [<- HM.o]; exact hlt
   obtain ⟨xb,xo,rfl,hpx,hlc⟩ := HX5.o i hil; rw [<- HM.o] at hlc; have hst := HMT.o; rw [encAll_step hil] at hst; have hxm : v.xs[i]'hil ∈ v.xs := by simp
   obtain ⟨x,hx⟩ := gXe (v.xs[i]'hil); rw [<- hx] at hpx hst hxm; have hk0 : (0 : Int) <= (i : Int) := by omega
   have hk1 : (i : Int) < (M : Int) := by omega
   have hq := HP.o.below HBM.o; have c0 := hq.c0; have c4 := hq.c4; have c5 := hq.c5; rw [HK.o] at c0; rw [HE4.o] at c4; rw [<- HM.o,HE5.o] at c5; have hlen := HTOT.o; simp only [cond_false,List.nil_append] at hst; have hc := HIH.o x xb (xo + i * 6) b m wr hxm hpx HBM.o HWM.o (HRR.o x hxm) (by rw [<- hst] at hlen; simp only [List.length_append] at hlen; omega)
   have HC := gh hc; have HST := gh hst; clear hil hx hpx hxm hq hlen hc hst HMT
   go_wp2_with fail
   refine HC.o.mono ?_; rintro e w4 ⟨rfl,hw4,hb4⟩; have HR : Hid (m ++ x.enc ++ Val.encAll false (v.ns.drop (i + 1)) (v.xs.drop (i + 1)) = T) := gh (by rw [<- HST.o,List.append_assoc])
   have HW4 := gh hw4; have HB4 := gh (HBM.o.trans hb4); have HS4 := gh (HSM.o.trans hb4); clear hw4 hb4 HC HST HWM HBM HSM c0 c4 c5
   go_wp2
   exact ⟨⟨i + 1,_,by go_num,by omega,HR,HW4,HB4,HS4⟩,by simp [intOf]; omega⟩
  ·have hT : m = T := by rw [<- HMT.o, show v.xs.drop i = [] from List.drop_eq_nil_of_le (by rw [<- HM.o]; omega)]; simp [Val.encAll]
   have HW5 := gh (show WB wr w0.heap.size b T by rw [<- hT]; exact HWM.o)
   clear hT
   go_wp2_with fail
   first | go_end0 | refine bodyPost_ret (results_none rfl _ _ _) rfl ?_
   exact ⟨rfl,HW5.o,HSM.o⟩
theorem wvalue_rec (v : Val) (deep gb go b : Nat) (l : List UInt8) (w0 w : World) (HP : Hid (PVal w0 gb go v)) (HB : Hid (Below w0.heap.size w0 w)) (h : WB w w0.heap.size b l) (hr : v.rightB deep = true) (hlen : l.length + v.enc.length + 20 <= 140737488355328) (HK : Hid (v.k = 6))
  (HIH : Hid (∀ (x : Val) (gb go b : Nat) (l : List UInt8) (w : World), x ∈ v.xs -> PVal w0 gb go x -> Below w0.heap.size w0 w -> WB w w0.heap.size b l -> x.rightB (deep + 1) = true -> l.length + x.enc.length + 20 <= 140737488355328 ->
   Calls Tryz.prog 123 #[.pointer (some ⟨b, 0,none⟩), .pointer (some ⟨gb,go,none⟩)] w fun e w' => NumWrote w0.heap.size b (l ++ x.enc) w e w')) :
  Calls Tryz.prog 123 #[.pointer (some ⟨b, 0,none⟩), .pointer (some ⟨gb,go,none⟩)] w fun e w' => NumWrote w0.heap.size b (l ++ v.enc) w e w' := by
 obtain ⟨p4,q4,e4,hn4⟩ := names_in (NamesAt.of HP.o.in); have HN4 := gh hn4; obtain ⟨p5,q5,e5,hx5⟩ := items_at HP.o.in; have HX5 := gh hx5; have HE4 := gh e4; have HE5 := gh e5; have henc := Val.enc_eq v; rw [HK.o] at henc; have hbsz := HB.o.size; clear e4 e5 hx5 hn4
 have hrr : (∀ x, x ∈ v.xs -> x.rightB (deep + 1) = true) /\ v.ns.length = v.xs.length /\ (∀ i, i < v.ns.length -> (v.ns.getD i ByteArray.empty).size <= 30) := by
  rw [Val.rightB_eq] at hr
  by_cases h12 : 12 < deep
  ·rw [if_pos h12] at hr; cases hr
  ·rw [if_neg h12, if_neg (by rw [HK.o]; decide), if_neg (by rw [HK.o]; decide), if_neg (by rw [HK.o]; decide), if_neg (by rw [HK.o]; decide), if_neg (by rw [HK.o]; decide), if_pos HK.o] at hr
   simp only [Bool.and_eq_true,decide_eq_true_eq] at hr; exact ⟨fun x hx => rightAll_mem hr.2 x hx,hr.1.1.1,fun i hi => rising_size hr.1.1.2 hi⟩
 have HRR := gh hrr; have HE : Hid (l ++ v.enc = l ++ [6] ++ ub v.xs.length ++ Val.encAll true v.ns v.xs) := gh (by rw [henc]; simp)
 have hxl := HP.o.in.ok.2.2.2.2.2.1; have hub := ub_len64 (n := v.xs.length) (by omega)
 have htot : (l ++ v.enc).length + 20 <= 140737488355328 := by rw [List.length_append]; omega
 have HTOT := gh htot
 have hub1 : 1 <= (ub v.xs.length).length := by
  have := ub_ne v.xs.length
  rcases h0 : ub v.xs.length with _ | ⟨a,m⟩
  ·exact absurd h0 this
  ·simp
 have hl2 : l.length + 12 <= 140737488355328 := by rw [henc] at hlen; simp at hlen; omega
 obtain ⟨T,hT⟩ := gXe (l ++ v.enc); rw [<- hT] at HE HTOT ⊢; obtain ⟨M,hM⟩ := gXe (v.xs.length); rw [<- hM] at hxl HE HE5; have hLM : v.ns.length = M := by rw [hM]; exact hrr.2.1
 have HLM := gh hLM; clear hLM; have HM := gh hM; have hcv : IntKind.u64.wrap (M : Int) = M := by rw [IntKind.wrap_u64]; omega
 rw [<- HM.o] at hub hub1; clear henc hlen hr hrr htot hT hM; have c0 := (HP.o.below HB.o).c0; rw [HK.o] at c0; have h1 := gh (wbyte_any w0.heap.size b l 6 w.drew h (by omega) HB.o.size)
 clear h
 go_enter Tryz.func123,Tryz.ntmps123
 go_wp2
 go_still_tail 8, (by kernel_rfl)
 change wpList _ _ _ _ _ w.drew
 go_wp2_with fail
 refine h1.out.mono ?_; rintro e w2 ⟨rfl,hw2,hb2⟩; have HB2 := gh (HB.o.trans ((Below.refl _ w).drew.trans hb2)); have HW2 := gh hw2; have HS2 := gh ((Below.refl w0.heap.size w).drew.trans hb2); clear hw2 hb2 h1 c0; have hq := HP.o.below HB2.o; have c0 := hq.c0; have c1 := hq.c1; have c2 := hq.c2; have c3 := hq.c3; have c4 := hq.c4; have c5 := hq.c5; rw [HK.o] at c0; rw [HE4.o] at c4; rw [<- HM.o,HE5.o] at c5; clear hq; have h2 := gh (wuint_any w0.heap.size b (l ++ [6]) M w2 (by omega) HW2.o (by simp; omega) HB2.o.size)
 go_wp2_with fail
 refine h2.out.mono ?_; rintro e w3 ⟨rfl,hw3,hb3⟩; have HB3 := gh (HB2.o.trans hb3); have HS3 := gh (HS2.o.trans hb3); have HW3 := gh hw3; clear hw3 hb3 h2 HB2 HS2 HW2 c0 c1 c2 c3 c4 c5; have hq := HP.o.below HB3.o; have c5 := hq.c5; rw [<- HM.o,HE5.o] at c5; clear hq
 go_wp2_with fail
 clear c5
 go_loopw [33] (fun iv wr => ∃ (i : Nat) (m : List UInt8),iv = .int .i64 (i : Int) /\ i <= M /\ Hid (m ++ Val.encAll true (v.ns.drop i) (v.xs.drop i) = T) /\ Hid (WB wr w0.heap.size b m) /\ Hid (Below w0.heap.size w0 wr) /\ Hid (Below w0.heap.size w wr)) (fun iv _ => M - (intOf iv).toNat)
 case atStart => exact ⟨0,_,rfl,by omega,gh (by rw [HE.o]; rfl),HW3,HB3,HS3⟩
 case round =>
  obtain ⟨i,m,rfl,hi,HMT,HWM,HBM,HSM⟩ := hrel
  by_cases hlt : i < M
  ·have hil : i < v.xs.length := by rw [<- HM.o]; exact hlt
   obtain ⟨xb,xo,rfl,hpx,hlc⟩ := HX5.o i hil; rw [<- HM.o] at hlc; have hst := HMT.o; rw [encAll_step hil] at hst; have hxm : v.xs[i]'hil ∈ v.xs := by simp
   obtain ⟨x,hx⟩ := gXe (v.xs[i]'hil); rw [<- hx] at hpx hst hxm; have hk0 : (0 : Int) <= (i : Int) := by omega
   have hk1 : (i : Int) < (M : Int) := by omega
   have hq := HP.o.below HBM.o; have c0 := hq.c0; have c4 := hq.c4; have c5 := hq.c5; rw [HK.o] at c0; rw [HE4.o] at c4; rw [<- HM.o,HE5.o] at c5; have hlen := HTOT.o; simp only [cond_true] at hst; obtain ⟨nb,no,rfl,hnb,hnc,hncl⟩ := HN4.o i (by rw [HLM.o]; exact hlt)
   obtain ⟨s,hs⟩ := gXe (v.ns.getD i ByteArray.empty); have hs30 : s.size <= 30 := by rw [hs]; exact HRR.o.2.2 i (by rw [HLM.o]; exact hlt)
   rw [<- hs] at hnc hst; rw [HLM.o] at hncl; have hnw : wr.cell? ⟨nb,no + i,none⟩ = some (.string s) := (HBM.o.cell (p := ⟨nb,no + i,none⟩) hnb).trans hnc; rw [HLM.o] at c4; have hsl : s.data.toList.length = s.size := Array.length_toList; have hus := ub_len64 (n := s.size) (by omega)
   have hlm : m.length + (strE s).length + x.enc.length + 20 <= 140737488355328 := by rw [<- hst] at hlen; simp only [List.length_append] at hlen; omega
   have hlm1 : m.length + 20 <= 140737488355328 := by omega
   have hls : (strE s).length <= 40 := by simp only [strE,List.length_append]; omega
   have hus1 : 1 <= (ub s.size).length := by
    have := ub_ne s.size
    rcases h0 : ub s.size with _ | ⟨a,m⟩
    ·exact absurd h0 this
    ·simp
   have hlm2 : m.length + 10 + s.size <= 140737488355328 := by simp only [strE,List.length_append] at hlm; omega
   have h5 := gh (wstrw_any w0.heap.size b m s wr (by omega) HWM.o hlm2 HBM.o.size)
   have HC := gh (fun (W : World) (hb : Below w0.heap.size w0 W) (hw : WB W w0.heap.size b (m ++ ub s.size ++ s.data.toList)) => HIH.o x xb (xo + i * 6) b _ W hxm hpx hb hw (HRR.o.1 x hxm) (by simp only [List.length_append] at hlm ⊢; simp only [strE,List.length_append] at hlm; omega))
   have HST := gh hst; clear hil hx hpx hxm hq hlen hst HMT hs hsl hus hlm hls hus1 hlm2 hnc
   go_wp2_with fail
   refine h5.out.mono ?_; rintro e w4 ⟨rfl,hw4,hb4⟩; have HB4 := gh (HBM.o.trans hb4); have HS4 := gh (HSM.o.trans hb4); have HC4 := gh (HC.o w4 HB4.o hw4); have hq := HP.o.below HB4.o; clear c0 c4 c5 hw4 hb4 h5 HC HWM HBM HSM hnw; have c5 := hq.c5; rw [<- HM.o,HE5.o] at c5; clear hq
   go_wp2_with fail
   refine HC4.o.mono ?_; rintro e w5 ⟨rfl,hw5,hb5⟩; have HR : Hid (m ++ ub s.size ++ s.data.toList ++ x.enc ++ Val.encAll true (v.ns.drop (i + 1)) (v.xs.drop (i + 1)) = T) := gh (by rw [<- HST.o]; simp only [strE,List.append_assoc])
   have HW5 := gh hw5; have HB5 := gh (HB4.o.trans hb5); have HS5 := gh (HS4.o.trans hb5); clear hw5 hb5 HC4 HST HB4 HS4 c5
   go_wp2
   exact ⟨⟨i + 1,_,by go_num,by omega,HR,HW5,HB5,HS5⟩,by simp [intOf]; omega⟩
  ·have hT : m = T := by rw [<- HMT.o, show v.xs.drop i = [] from List.drop_eq_nil_of_le (by rw [<- HM.o]; omega)]; simp [Val.encAll]
   have HW5 := gh (show WB wr w0.heap.size b T by rw [<- hT]; exact HWM.o)
   clear hT
   go_wp2_with fail
   first | go_end0 | refine bodyPost_ret (results_none rfl _ _ _) rfl ?_
   exact ⟨rfl,HW5.o,HSM.o⟩
theorem wvalue_any (w0 : World) (d : Nat) : ∀ (v : Val) (deep gb go b : Nat) (l : List UInt8) (w : World), v.sz <= d -> PVal w0 gb go v -> Below w0.heap.size w0 w -> WB w w0.heap.size b l -> v.rightB deep = true -> l.length + v.enc.length + 20 <= 140737488355328 ->
  Calls Tryz.prog 123 #[.pointer (some ⟨b, 0,none⟩), .pointer (some ⟨gb,go,none⟩)] w fun e w' => NumWrote w0.heap.size b (l ++ v.enc) w e w' := by
 induction d with
 | zero => intro v deep gb go b l w hd; rw [Val.sz_eq] at hd; omega
 | succ d ih =>
  intro v deep gb go b l w hd hp hb h hr hlen; have hkk := ((Val.kinds_iff v).1 (Val.kinds_of_right v.sz v deep (Nat.le_refl _) hr)).1
  have hih : ∀ (x : Val) (gb go b : Nat) (l : List UInt8) (w : World), x ∈ v.xs -> PVal w0 gb go x -> Below w0.heap.size w0 w -> WB w w0.heap.size b l -> x.rightB (deep + 1) = true -> l.length + x.enc.length + 20 <= 140737488355328 ->
   Calls Tryz.prog 123 #[.pointer (some ⟨b, 0,none⟩), .pointer (some ⟨gb,go,none⟩)] w fun e w' => NumWrote w0.heap.size b (l ++ x.enc) w e w' := fun x gb go b l w hx => ih x (deep + 1) gb go b l w (by have := Val.size_mem hx; omega)
  rcases (by omega : v.k = 1 \/ v.k = 2 \/ v.k = 3 \/ v.k = 4 \/ v.k = 5 \/ v.k = 6) with hk | hk | hk | hk | hk | hk
  ·exact wvalue_bool1 v deep gb go b l w0 w hp hb h hr hlen hk
  ·exact wvalue_int v deep gb go b l w0 w hp hb h hr hlen hk
  ·exact wvalue_float3 v deep gb go b l w0 w hp hb h hr hlen hk
  ·exact wvalue_str v deep gb go b l w0 w hp hb h hr hlen hk
  ·exact wvalue_list v deep gb go b l w0 w hp hb h hr hlen hk hih
  ·exact wvalue_rec v deep gb go b l w0 w hp hb h hr hlen hk hih
end Go.Proofs.YtaamihdibpioaaaGreat
namespace Go.Proofs.YtaamihdibpioaaaGreat
open Go.RowKit
def ValuedOr (b : Bool) (s : List UInt8) (w : World) (e : Ending) (w' : World) : Prop := e = .returned (.tuple #[.string (bif b then ⟨s.toArray⟩ else ByteArray.empty), .int .i64 (bif b then 0 else 5)]) /\ Below w.heap.size w w'
theorem Val.enc_ne (v : Val) : v.enc ≠ [] := by rw [Val.enc_eq]; simp
theorem Val.enc_bound {w : World} (v : Val) (h : v.RightB = true) (hin : v.In w) : v.enc.length <= 60000 := by
 unfold Val.RightB at h; rw [Bool.and_eq_true,decide_eq_true_eq] at h; have h1 := Val.count_sz v.sz v 0 (Nat.le_refl _) (by omega)
 have h2 := Val.enc_len v.sz v 1 (Nat.le_refl _) h.2 hin
 omega
theorem value_any (v : Val) (w : World) (h : v.In w) : Calls Tryz.prog 102 #[v.agg] w fun e w' => ValuedOr v.RightB v.enc w e w' := by
 obtain ⟨W,hW⟩ := gXe (w.alloc (.cells #[.int .i64 v.k, .int .i64 v.n, .float .f64 v.f, .string v.s,v.na.val v.ns.length,v.xa.val v.xs.length] 37)); have hp : PVal W w.heap.size 0 v := by rw [hW]; exact PVal.new w v 37 h
 have hB : Below w.heap.size w W := by rw [hW]; exact (Below.refl _ _).alloc (Nat.le_refl _) _
 have hr := rightf_any v W hp.in; have c0 := hp.c0; have c1 := hp.c1; have c2 := hp.c2; have c3 := hp.c3; have c4 := hp.c4; have c5 := hp.c5; simp only [Nat.zero_add] at c1 c2 c3 c4 c5; obtain ⟨p4,q4,e4⟩ := hp.in.nslice; obtain ⟨p5,q5,e5⟩ := hp.in.xslice; have HEB := gh (fun hr : v.RightB = true => Val.enc_bound v hr h)
 have HW := gh hW; have HP := gh hp; have HBL := gh hB; have HR := gh hr; have hlt := gh hp.2.1; clear hW hp hB hr e4 e5 h
 by_cases hv : v.RightB = true
 ·have HV := gh hv
  rw [hv] at HR; clear hv
  go_enter Tryz.func102,Tryz.ntmps102
  go_wp2_with fail
  rw [<- HW.o]
  go_wp2_with fail
  refine HR.o.mono ?_; rintro e w2 ⟨rfl,hl⟩; have hp2 := HP.o.below (hl.mono (Nat.le_refl _)); have hL2 := HBL.o.trans (hl.mono HBL.o.size); have hen := HEB.o HV.o
  have hV1 : v.rightB 1 = true := by
   have := HV.o; unfold Val.RightB at this; rw [Bool.and_eq_true] at this; exact this.2
  have HC := gh (wvalue_any w2 v.sz v 1 w.heap.size 0 w2.heap.size [] (w2.alloc (.cells #[.pointer none, .slice none 0 0] 188)) (Nat.le_refl _) hp2 ((Below.refl _ _).alloc (Nat.le_refl _) _) (wb_new w2 _ (Nat.le_refl _)) hV1 (by simp only [List.length_nil]; omega))
  have hz2 := hp2.2.1; have HL := gh (hL2.alloc hL2.size (.cells #[.pointer none, .slice none 0 0] 188)); clear hl hp2 hL2 hen hV1 HR HBL HEB HP c0 c1 c2 c3 c4 c5
  go_wp2_with fail
  refine HC.o.mono ?_; rintro e w3 ⟨rfl,hw3,hb3⟩; have hs := gh (string_some w2.heap.size w2.heap.size w3 ([] ++ v.enc) hw3 (by simpa using Val.enc_ne v))
  have hz3 : w.heap.size <= w2.heap.size := by omega
  have HL3 := gh (HL.o.trans (hb3.mono hz3)); clear hw3 hb3 HC HL
  go_wp2_with fail
  refine hs.out.mono ?_; rintro e w4 ⟨rfl,hb4⟩; have hL4 := HL3.o.trans (hb4.mono hz3); clear hb4 HL3 hs
  go_wp2
  go_ret2
  exact ⟨by rw [HV.o]; rfl,hL4⟩
 ·rw [Bool.not_eq_true] at hv
  have HV := gh hv; rw [hv] at HR; clear hv
  go_enter Tryz.func102,Tryz.ntmps102
  go_wp2_with fail
  rw [<- HW.o]
  go_wp2_with fail
  refine HR.o.mono ?_; rintro e w2 ⟨rfl,hl⟩; have HL2 := gh (HBL.o.trans (hl.mono HBL.o.size)); clear hl
  go_wp2
  go_ret2
  exact ⟨by rw [HV.o]; rfl,HL2.o⟩
end Go.Proofs.YtaamihdibpioaaaGreat
namespace Go.Proofs.YtaamihdibpioaaaGreat
open Go.RowKit
mutual
def Ty.enc : Ty -> List UInt8
 | .mk k _ ns _ xs => UInt8.ofNat k.toNat :: ((if k = 6 then ub xs.length else []) ++ Ty.encAll (decide (k = 6)) ns xs)
def Ty.encAll : Bool -> List ByteArray -> List Ty -> List UInt8
 | _,_, [] => []
 | b,ns,x :: xs => (bif b then strE (ns.headD ByteArray.empty) else []) ++ (x.enc ++ Ty.encAll b ns.tail xs)
end
theorem Ty.enc_eq (v : Ty) : v.enc = UInt8.ofNat v.k.toNat :: ((if v.k = 6 then ub v.xs.length else []) ++ Ty.encAll (decide (v.k = 6)) v.ns v.xs) := by
 cases v
 simp only [Ty.enc,Ty.k,Ty.ns,Ty.xs]
 rfl
theorem Ty.enc_ne (v : Ty) : v.enc ≠ [] := by rw [Ty.enc_eq]; simp
theorem Ty.count_sz (d : Nat) : ∀ (v : Ty) (n : Nat), v.sz <= d -> v.count n < 500 -> v.count n = n + v.sz := by
 induction d with
 | zero => intro v n hd; rw [Ty.sz_eq] at hd; omega
 | succ d ih =>
  intro v n hd h; rw [Ty.count_eq] at h ⊢
  have key : ∀ (xs : List Ty) (m : Nat), (∀ x, x ∈ xs -> x.sz <= d) -> m < 500 -> Ty.countAll xs m < 500 -> Ty.countAll xs m = m + Ty.szAll xs := fun xs => by
   induction xs with
   | nil => intro m _ _ _; simp [Ty.countAll,Ty.szAll]
   | cons x xs ihx =>
    intro m hm hm5 hc; simp only [Ty.countAll] at hc ⊢; rw [if_neg (by omega)] at hc ⊢
    have hle := Ty.count_le x.sz x m (Nat.le_refl _) hm5
    have hx5 : x.count m < 500 := by
     rcases Nat.lt_or_ge (x.count m) 500 with h' | h'
     ·exact h'
     ·rw [Ty.countAll_ge h'] at hc; exact hc
    rw [ihx _ (fun z hz => hm z (List.mem_cons_of_mem _ hz)) hx5 hc,ih x m (hm x (by simp)) hx5]
    simp only [Ty.szAll]
    omega
  have hn : n + 1 < 500 := by
   rcases Nat.lt_or_ge (n + 1) 500 with h' | h'
   ·exact h'
   ·rw [Ty.countAll_ge h'] at h; exact h
  rw [key v.xs (n + 1) (fun x hx => by have := Ty.size_mem hx; omega) hn h,Ty.sz_eq v]
  omega
theorem Ty.right_kinds {v : Ty} {deep : Nat} (h : v.rightB deep = true) : 1 <= v.k /\ v.k <= 7 := by
 rw [Ty.rightB_eq] at h
 by_cases h12 : 12 < deep
 ·rw [if_pos h12] at h; cases h
 rw [if_neg h12] at h
 by_cases h5 : v.k = 5
 ·omega
 rw [if_neg h5] at h
 by_cases h6 : v.k = 6
 ·omega
 rw [if_neg h6] at h
 by_cases h7 : 1 <= v.k /\ v.k <= 7
 ·exact h7
 ·rw [if_neg h7] at h; cases h
theorem Ty.right_parts {v : Ty} {deep : Nat} (h : v.rightB deep = true) : (∀ x, x ∈ v.xs -> x.rightB (deep + 1) = true) /\ (v.k = 6 -> v.ns.length = v.xs.length /\ ∀ s, s ∈ v.ns -> s.size <= 30) := by
 rw [Ty.rightB_eq] at h
 by_cases h12 : 12 < deep
 ·rw [if_pos h12] at h; cases h
 rw [if_neg h12] at h
 by_cases h5 : v.k = 5
 ·rw [if_pos h5, Bool.and_eq_true, Bool.and_eq_true] at h
  exact ⟨trightAll_mem h.2,fun h6 => by omega⟩
 rw [if_neg h5] at h
 by_cases h6 : v.k = 6
 ·rw [if_pos h6, Bool.and_eq_true, Bool.and_eq_true, decide_eq_true_eq] at h
  refine ⟨trightAll_mem h.2,fun _ => ⟨h.1.1,fun s hs => ?_⟩⟩
  obtain ⟨i,hi,rfl⟩ := List.getElem_of_mem hs; have := rising_size h.1.2 hi
  simpa [hi] using this
 rw [if_neg h6] at h
 by_cases h7 : 1 <= v.k /\ v.k <= 7
 ·rw [if_pos h7, Bool.and_eq_true, decide_eq_true_eq, decide_eq_true_eq] at h
  refine ⟨fun x hx => ?_,fun h => absurd h h6⟩
  rw [List.eq_nil_of_length_eq_zero h.2] at hx
  simp at hx
 ·rw [if_neg h7] at h; cases h
theorem Ty.enc_len {w : World} (d : Nat) : ∀ (v : Ty) (deep : Nat), v.sz <= d -> v.rightB deep = true -> v.In w -> v.enc.length + 50 <= 300 * v.sz := by
 induction d with
 | zero => intro v deep hd; rw [Ty.sz_eq] at hd; omega
 | succ d ih =>
  intro v deep hd h hin; obtain ⟨hxr,hnr⟩ := Ty.right_parts h
  have hall : ∀ (b : Bool) (ns : List ByteArray) (xs : List Ty), (∀ x, x ∈ xs -> x ∈ v.xs) -> (b = true -> ∀ s, s ∈ ns -> s.size <= 30) -> (Ty.encAll b ns xs).length <= 300 * Ty.szAll xs := fun b ns xs => by
   induction xs generalizing ns with
   | nil => intro _ _; simp [Ty.encAll]
   | cons x xs ihx =>
    intro hx hs; simp only [Ty.encAll,Ty.szAll,List.length_append]; have h1 := ih x (deep + 1) (by have := Ty.size_mem (hx x (by simp)); omega) (hxr x (hx x (by simp))) (((Ty.in_iff _ v).1 hin).2.2.2 x (hx x (by simp)))
    have h2 := ihx ns.tail (fun z hz => hx z (List.mem_cons_of_mem _ hz)) (fun hb s h => hs hb s (List.mem_of_mem_tail h))
    have h3 : (bif b then strE (ns.headD ByteArray.empty) else []).length <= 40 := by
     cases b
     ·simp
     ·have h4 : (ns.headD ByteArray.empty).size <= 30 := by
       cases ns with
       | nil => exact Nat.zero_le _
       | cons s ns => exact hs rfl s (by simp)
      have h5 := ub_len64 (n := (ns.headD ByteArray.empty).size) (by omega)
      have h6 : (ns.headD ByteArray.empty).data.toList.length = (ns.headD ByteArray.empty).size := Array.length_toList; simp only [cond_true,strE,List.length_append]
      omega
    omega
  rw [Ty.enc_eq,Ty.sz_eq]; have hub := ub_len64 (n := v.xs.length) (by have := hin.ok.2.2.1; omega)
  have := hall (decide (v.k = 6)) v.ns v.xs (fun x hx => hx) (fun hb s hs => (hnr (of_decide_eq_true hb)).2 s hs)
  rw [List.length_cons,List.length_append]
  by_cases h6 : v.k = 6
  ·rw [if_pos h6]; omega
  ·rw [if_neg h6]; simp only [List.length_nil]; omega
theorem Ty.enc_bound {w : World} (v : Ty) (h : v.RightB = true) (hin : v.In w) : v.enc.length <= 60000 := by
 unfold Ty.RightB at h; rw [Bool.and_eq_true,decide_eq_true_eq] at h; have h1 := Ty.count_sz v.sz v 0 (Nat.le_refl _) (by omega)
 have h2 := Ty.enc_len v.sz v 1 (Nat.le_refl _) h.2 hin
 omega
end Go.Proofs.YtaamihdibpioaaaGreat
namespace Go.Proofs.YtaamihdibpioaaaGreat
open Go.RowKit
section
variable (v : Val)
theorem Val.erase_k : v.erase.k = v.k := by rw [Val.erase_eq]; rfl
theorem Val.erase_n : v.erase.n = v.n := by rw [Val.erase_eq]; rfl
theorem Val.erase_f : v.erase.f = v.f := by rw [Val.erase_eq]; rfl
theorem Val.erase_s : v.erase.s = v.s := by rw [Val.erase_eq]; rfl
theorem Val.erase_ns : v.erase.ns = v.ns := by rw [Val.erase_eq]; rfl
theorem Val.erase_xs : v.erase.xs = v.xs.map Val.erase := by rw [Val.erase_eq]; rfl
end
theorem Val.count_erase (d : Nat) : ∀ (v : Val) (n : Nat), v.sz <= d -> v.erase.count n = v.count n := by
 induction d with
 | zero => intro v n hd; rw [Val.sz_eq] at hd; omega
 | succ d ih =>
  intro v n hd
  have key : ∀ (xs : List Val) (m : Nat), (∀ x, x ∈ xs -> x.sz <= d) -> Val.countAll (xs.map Val.erase) m = Val.countAll xs m := fun xs => by
   induction xs with
   | nil => intro m _; rfl
   | cons x xs ihx =>
    intro m hm; simp only [List.map_cons,Val.countAll]; rw [ih x m (hm x (by simp)),ihx _ (fun z hz => hm z (List.mem_cons_of_mem _ hz))]
  rw [Val.count_eq,Val.count_eq,Val.erase_xs]; exact key v.xs _ (fun x hx => by have := Val.size_mem hx; omega)
theorem bareB_erase (v : Val) (n f s r : Bool) : bareB v.erase n f s r = bareB v n f s r := by
 unfold bareB; rw [Val.erase_n,Val.erase_f,Val.erase_s,Val.erase_ns,Val.erase_xs,List.length_map]
theorem Val.rightB_erase (d : Nat) : ∀ (v : Val) (deep : Nat), v.sz <= d -> v.erase.rightB deep = v.rightB deep := by
 induction d with
 | zero => intro v deep hd; rw [Val.sz_eq] at hd; omega
 | succ d ih =>
  intro v deep hd
  have key : ∀ (xs : List Val) (deep : Nat), (∀ x, x ∈ xs -> x.sz <= d) -> Val.rightAll (xs.map Val.erase) deep = Val.rightAll xs deep := fun xs => by
   induction xs with
   | nil => intro deep _; rfl
   | cons x xs ihx =>
    intro deep hm; simp only [List.map_cons,Val.rightAll]; rw [ih x deep (hm x (by simp)),ihx _ (fun z hz => hm z (List.mem_cons_of_mem _ hz))]
  rw [Val.rightB_eq,Val.rightB_eq v,Val.erase_k,Val.erase_n,Val.erase_s,Val.erase_ns,Val.erase_xs,List.length_map,key v.xs (deep + 1) (fun x hx => by have := Val.size_mem hx; omega)]
  simp only [bareB_erase]
theorem Val.RightB_erase (v : Val) : v.erase.RightB = v.RightB := by
 unfold Val.RightB; rw [Val.count_erase v.sz v 0 (Nat.le_refl _),Val.rightB_erase v.sz v 1 (Nat.le_refl _)]
theorem Val.enc_erase (d : Nat) : ∀ (v : Val), v.sz <= d -> v.erase.enc = v.enc := by
 induction d with
 | zero => intro v hd; rw [Val.sz_eq] at hd; omega
 | succ d ih =>
  intro v hd
  have key : ∀ (xs : List Val) (b : Bool) (ns : List ByteArray), (∀ x, x ∈ xs -> x.sz <= d) -> Val.encAll b ns (xs.map Val.erase) = Val.encAll b ns xs := fun xs => by
   induction xs with
   | nil => intro b ns _; rfl
   | cons x xs ihx =>
    intro b ns hm; simp only [List.map_cons,Val.encAll]; rw [ih x (hm x (by simp)),ihx _ _ (fun z hz => hm z (List.mem_cons_of_mem _ hz))]
  rw [Val.enc_eq,Val.enc_eq v,Val.erase_k,Val.erase_n,Val.erase_f,Val.erase_s,Val.erase_ns,Val.erase_xs,List.length_map,key v.xs _ _ (fun x hx => by have := Val.size_mem hx; omega)]
theorem Val.Enc_erase (v : Val) : v.erase.enc = v.enc := Val.enc_erase v.sz v (Nat.le_refl _)
section
variable (v : Ty)
theorem Ty.erase_k : v.erase.k = v.k := by rw [Ty.erase_eq]; rfl
theorem Ty.erase_ns : v.erase.ns = v.ns := by rw [Ty.erase_eq]; rfl
theorem Ty.erase_xs : v.erase.xs = v.xs.map Ty.erase := by rw [Ty.erase_eq]; rfl
end
theorem Ty.count_erase (d : Nat) : ∀ (v : Ty) (n : Nat), v.sz <= d -> v.erase.count n = v.count n := by
 induction d with
 | zero => intro v n hd; rw [Ty.sz_eq] at hd; omega
 | succ d ih =>
  intro v n hd
  have key : ∀ (xs : List Ty) (m : Nat), (∀ x, x ∈ xs -> x.sz <= d) -> Ty.countAll (xs.map Ty.erase) m = Ty.countAll xs m := fun xs => by
   induction xs with
   | nil => intro m _; rfl
   | cons x xs ihx =>
    intro m hm; simp only [List.map_cons,Ty.countAll]; rw [ih x m (hm x (by simp)),ihx _ (fun z hz => hm z (List.mem_cons_of_mem _ hz))]
  rw [Ty.count_eq,Ty.count_eq,Ty.erase_xs]; exact key v.xs _ (fun x hx => by have := Ty.size_mem hx; omega)
theorem Ty.rightB_erase (d : Nat) : ∀ (v : Ty) (deep : Nat), v.sz <= d -> v.erase.rightB deep = v.rightB deep := by
 induction d with
 | zero => intro v deep hd; rw [Ty.sz_eq] at hd; omega
 | succ d ih =>
  intro v deep hd
  have key : ∀ (xs : List Ty) (deep : Nat), (∀ x, x ∈ xs -> x.sz <= d) -> Ty.rightAll (xs.map Ty.erase) deep = Ty.rightAll xs deep := fun xs => by
   induction xs with
   | nil => intro deep _; rfl
   | cons x xs ihx =>
    intro deep hm; simp only [List.map_cons,Ty.rightAll]; rw [ih x deep (hm x (by simp)),ihx _ (fun z hz => hm z (List.mem_cons_of_mem _ hz))]
  rw [Ty.rightB_eq,Ty.rightB_eq v,Ty.erase_k,Ty.erase_ns,Ty.erase_xs,List.length_map,key v.xs (deep + 1) (fun x hx => by have := Ty.size_mem hx; omega)]
theorem Ty.RightB_erase (v : Ty) : v.erase.RightB = v.RightB := by
 unfold Ty.RightB; rw [Ty.count_erase v.sz v 0 (Nat.le_refl _),Ty.rightB_erase v.sz v 1 (Nat.le_refl _)]
theorem Ty.enc_erase (d : Nat) : ∀ (v : Ty), v.sz <= d -> v.erase.enc = v.enc := by
 induction d with
 | zero => intro v hd; rw [Ty.sz_eq] at hd; omega
 | succ d ih =>
  intro v hd
  have key : ∀ (xs : List Ty) (b : Bool) (ns : List ByteArray), (∀ x, x ∈ xs -> x.sz <= d) -> Ty.encAll b ns (xs.map Ty.erase) = Ty.encAll b ns xs := fun xs => by
   induction xs with
   | nil => intro b ns _; rfl
   | cons x xs ihx =>
    intro b ns hm; simp only [List.map_cons,Ty.encAll]; rw [ih x (hm x (by simp)),ihx _ _ (fun z hz => hm z (List.mem_cons_of_mem _ hz))]
  rw [Ty.enc_eq,Ty.enc_eq v,Ty.erase_k,Ty.erase_ns,Ty.erase_xs,List.length_map,key v.xs _ _ (fun x hx => by have := Ty.size_mem hx; omega)]
theorem Ty.Enc_erase (v : Ty) : v.erase.enc = v.enc := Ty.enc_erase v.sz v (Nat.le_refl _)
theorem size_list (s : ByteArray) : s.data.toList.length = s.size := Array.length_toList
theorem unzig_zig (n : Int) : unzig (zig n) = n := by
 unfold zig unzig
 split <;> split <;> omega
section
variable {A : Type}
def encL (enc : A -> List UInt8) : Bool -> List ByteArray -> List A -> List UInt8
 | _,_, [] => []
 | b,ns,x :: xs => (bif b then strE (ns.headD ByteArray.empty) else []) ++ (enc x ++ encL enc b ns.tail xs)
end
theorem encL_val : ∀ (b : Bool) (ns : List ByteArray) (xs : List Val), Val.encAll b ns xs = encL Val.enc b ns xs
 | _,_, [] => by simp [Val.encAll,encL]
 | b,ns,x :: xs => by simp only [Val.encAll,encL]; rw [encL_val b ns.tail xs]
theorem encL_ty : ∀ (b : Bool) (ns : List ByteArray) (xs : List Ty), Ty.encAll b ns xs = encL Ty.enc b ns xs
 | _,_, [] => by simp [Ty.encAll,encL]
 | b,ns,x :: xs => by simp only [Ty.encAll,encL]; rw [encL_ty b ns.tail xs]
end Go.Proofs.YtaamihdibpioaaaGreat
namespace Go.Proofs.YtaamihdibpioaaaGreat
open Go.RowKit
def Err2 (k : Int) : Prop := k = 5 \/ k = 14
theorem readU_err2 (s : ByteArray) (p i n : Nat) : ∀ k, readU s p i n = .error k -> Err2 k := by
 intro k hr
 by_cases hp : p < s.size
 ·by_cases hb : i < 10 /\ (i < 9 \/ (s[p]'hp).toNat <= 1) /\ (i = 0 \/ (s[p]'hp).toNat ≠ 0)
  ·by_cases hl : (s[p]'hp).toNat < 128
   ·rw [readU_end hp hb hl] at hr
    cases hr
   ·rw [readU_on hp hb hl] at hr
    exact readU_err2 s (p + 1) (i + 1) _ k hr
  ·rw [readU_bad hp hb] at hr
   injection hr with hr; exact .inl hr.symm
 ·rw [readU_torn hp] at hr
  injection hr with hr; exact .inr hr.symm
termination_by s.size - p
theorem err5 {A : Type} {k : Int} (h : (Except.error 5 : Except Int A) = .error k) : Err2 k := by injection h with h; exact .inl h.symm
theorem err14 {A : Type} {k : Int} (h : (Except.error 14 : Except Int A) = .error k) : Err2 k := by injection h with h; exact .inr h.symm
theorem readS_err2 {s : ByteArray} {p : Nat} {most k : Int} (h : readS s p most = .error k) : Err2 k := by
 unfold readS at h
 cases hu : readU s p 0 0 with
 | error k' => rw [hu] at h; injection h with h; subst h; exact readU_err2 s p 0 0 _ hu
 | ok x =>
  obtain ⟨n,q⟩ := x; rw [hu] at h; simp only at h
  split at h
  ·split at h
   ·cases h
   ·exact err14 h
  ·exact err5 h
theorem readM_err2 {s : ByteArray} {p : Nat} {k : Int} (h : readM s p = .error k) : Err2 k := by
 unfold readM at h
 cases hu : readU s p 0 0 with
 | error k' => rw [hu] at h; injection h with h; subst h; exact readU_err2 s p 0 0 _ hu
 | ok x =>
  obtain ⟨n,q⟩ := x; rw [hu] at h; simp only at h
  split at h
  ·cases h
  ·exact err5 h
theorem readF_err2 {s : ByteArray} {p : Nat} {k : Int} (h : readF s p = .error k) : Err2 k := by
 unfold readF at h
 split at h
 ·split at h
  ·cases h
  ·exact err5 h
 ·exact err14 h
theorem rdL_err2 {A : Type} {s : ByteArray} {rd : Nat -> Nat -> Except Int (A × Nat × Nat)} {b : Bool} (hrd : ∀ p m k, rd p m = .error k -> Err2 k) :
  ∀ n p m k,rdL s rd b n p m = .error k -> Err2 k
 | 0,p,m,k,h => by simp [rdL] at h
 | n + 1, p, m, k, h => by
  cases b with
  | false =>
   cases h1 : rd p m with
   | error k' => rw [rdL_item_bad0 h1] at h; injection h with h; subst h; exact hrd _ _ _ h1
   | ok x =>
    obtain ⟨v,q2,m2⟩ := x; rw [rdL_next0 h1] at h
    cases h2 : rdL s rd false n q2 m2 with
    | error k' => rw [h2] at h; injection h with h; subst h; exact rdL_err2 hrd n q2 m2 _ h2
    | ok y => obtain ⟨a,b,c,e⟩ := y; rw [h2] at h; cases h
  | true =>
   cases h0 : readS s p 30 with
   | error k' => rw [rdL_name_bad h0] at h; injection h with h; subst h; exact readS_err2 h0
   | ok tq =>
    obtain ⟨t,q1⟩ := tq
    cases h1 : rd q1 m with
    | error k' => rw [rdL_item_bad1 h0 h1] at h; injection h with h; subst h; exact hrd _ _ _ h1
    | ok x =>
     obtain ⟨v,q2,m2⟩ := x; rw [rdL_next1 h0 h1] at h
     cases h2 : rdL s rd true n q2 m2 with
     | error k' => rw [h2] at h; injection h with h; subst h; exact rdL_err2 hrd n q2 m2 _ h2
     | ok y => obtain ⟨a,b,c,e⟩ := y; rw [h2] at h; cases h
theorem rdV_err2 (s : ByteArray) : ∀ d p m k, rdV s d p m = .error k -> Err2 k
 | 0,p,m,k,h => err5 h
 | d + 1, p, m, k, h => by
  unfold rdV at h
  split at h
  ·exact err5 h
  split at h
  ·exact err14 h
  split at h
  ·split at h
   ·exact err14 h
   ·split at h
    ·cases h
    ·exact err5 h
  split at h
  ·split at h
   ·next hu => injection h with h; subst h; exact readU_err2 _ _ _ _ _ hu
   ·cases h
  split at h
  ·split at h
   ·next hu => injection h with h; subst h; exact readF_err2 hu
   ·cases h
  split at h
  ·split at h
   ·next hu => injection h with h; subst h; exact readS_err2 hu
   ·cases h
  split at h
  ·split at h
   ·next hu => injection h with h; subst h; exact readM_err2 hu
   ·split at h
    ·next hl => injection h with h; subst h; exact rdL_err2 (fun p m k => rdV_err2 s d p m k) _ _ _ _ hl
    ·cases h
  ·exact err5 h
def from_ (s : ByteArray) (p : Nat) : List UInt8 := s.data.toList.drop p
theorem from_cons {s : ByteArray} {p : Nat} {c : UInt8} {l : List UInt8} (h : from_ s p = c :: l) : p < s.size /\ byteAt s p = c /\ from_ s (p + 1) = l := by
 have hlt : p < s.size := by
  rcases Nat.lt_or_ge p s.size with h' | h'
  ·exact h'
  ·unfold from_ at h; rw [List.drop_eq_nil_of_le (by rw [size_list]; exact h')] at h; cases h
 have h' : p < s.data.toList.length := by rw [size_list]; exact hlt
 unfold from_ at h ⊢; rw [List.drop_eq_getElem_cons h'] at h; injection h with h1 h2; refine ⟨hlt,?_,h2⟩; unfold byteAt; rw [List.getD_eq_getElem?_getD,List.getElem?_eq_getElem h', <- h1]
 rfl
theorem from_app {s : ByteArray} {p : Nat} {a l : List UInt8} (h : from_ s p = a ++ l) : from_ s (p + a.length) = l := by
 unfold from_ at h ⊢; rw [<- List.drop_drop,h,List.drop_left]
theorem from_len (s : ByteArray) (p : Nat) : (from_ s p).length = s.size - p := by unfold from_; rw [List.length_drop,size_list]
theorem from_nil {s : ByteArray} {p : Nat} (h : from_ s p = []) : s.size <= p := by
 have := from_len s p; rw [h] at this
 simp at this
 omega
theorem torn_app {a b r l : List UInt8} (h : a ++ b = l ++ r) (hr : r ≠ []) : (∃ r', r' ≠ [] /\ a = l ++ r') \/ ∃ l', l = a ++ l' /\ b = l' ++ r := by
 rcases List.append_eq_append_iff.1 h with ⟨l',h1,h2⟩ | ⟨r',h1,h2⟩
 ·exact .inr ⟨l',h1,h2⟩
 ·by_cases h0 : r' = []
  ·subst h0
   exact .inr ⟨[],by simpa using h1.symm,by simpa using h2.symm⟩
  ·exact .inl ⟨r',h0,h1⟩
theorem pow128_10' : (128 : Nat) ^ 10 = 1180591620717411303424 := by decide
theorem mul_le_pow {t i : Nat} (hi : 9 < i) (ht : t ≠ 0) : 18446744073709551616 <= t * 128 ^ i := by
 have h1 : 128 ^ 10 <= 128 ^ i := Nat.pow_le_pow_right (by omega) (by omega)
 have h2 : 1 * 128 ^ i <= t * 128 ^ i := Nat.mul_le_mul_right _ (by omega)
 rw [pow128_10'] at h1
 omega
theorem step_ok {t i c : Nat} (ht : t * 128 ^ i < 18446744073709551616) (h0 : 0 < i -> t ≠ 0) (hc : c = (if t < 128 then t else t % 128 + 128)) : i < 10 /\ (i < 9 \/ c <= 1) /\ (i = 0 \/ c ≠ 0) := by
 have hi : i < 10 := by
  rcases Nat.lt_or_ge i 10 with h | h
  ·exact h
  ·have := mul_le_pow (t := t) (i := i) (by omega) (h0 (by omega)); omega
 refine ⟨hi,?_,?_⟩
 ·rcases Nat.lt_or_ge i 9 with h | h
  ·exact .inl h
  ·have e : i = 9 := by omega
   subst e; have h9 : (128 : Nat) ^ 9 = 9223372036854775808 := by decide
   rw [h9] at ht; refine .inr ?_; rw [hc,if_pos (by omega)]
   omega
 ·rcases Nat.eq_zero_or_pos i with h | h
  ·exact .inl h
  ·refine .inr ?_
   have := h0 h; rw [hc]
   split <;> omega
theorem readU_back : ∀ (t : Nat) (s : ByteArray) (p i n : Nat) (rest : List UInt8), t * 128 ^ i < 18446744073709551616 -> (0 < i -> t ≠ 0) -> from_ s p = ub t ++ rest ->
  readU s p i n = .ok (n + t * 128 ^ i,p + (ub t).length) := by
 intro t
 induction t using Nat.strongRecOn with
 | _ t ih =>
  intro s p i n rest ht h0 hf
  by_cases hs : t < 128
  ·rw [ub_small hs] at hf ⊢
   obtain ⟨hp,hb,_⟩ := from_cons hf; have hc : (s[p]'hp).toNat = t := by rw [<- byteAt_eq hp,hb,byte_of (by omega)]
   rw [readU_end hp (by rw [hc]; exact step_ok ht h0 (by rw [if_pos hs])) (by omega),hc,Nat.mod_eq_of_lt hs]
   rfl
  ·rw [ub_great (by omega)] at hf ⊢
   obtain ⟨hp,hb,hf'⟩ := from_cons hf; have hc : (s[p]'hp).toNat = t % 128 + 128 := by rw [<- byteAt_eq hp,hb,byte_of (by omega)]
   have hpow : t / 128 * 128 ^ (i + 1) = t / 128 * 128 * 128 ^ i := by rw [Nat.pow_succ,Nat.mul_comm (128 ^ i) 128,Nat.mul_assoc]
   have hle : t / 128 * 128 * 128 ^ i <= t * 128 ^ i := Nat.mul_le_mul_right _ (by omega)
   rw [readU_on hp (by rw [hc]; exact step_ok ht h0 (by rw [if_neg hs])) (by omega),ih (t / 128) (by omega) s (p + 1) (i + 1) _ rest (by omega) (fun _ => by omega) hf',hc]
   congr 2
   ·rw [show (t % 128 + 128) % 128 = t % 128 from by omega, hpow, Nat.add_assoc, <- Nat.add_mul]
    congr 2
    omega
   ·simp only [List.length_cons]; omega
theorem readU_cut : ∀ (t : Nat) (s : ByteArray) (p i n : Nat) (rest : List UInt8), t * 128 ^ i < 18446744073709551616 -> (0 < i -> t ≠ 0) -> ub t = from_ s p ++ rest -> rest ≠ [] ->
  readU s p i n = .error 14 := by
 intro t
 induction t using Nat.strongRecOn with
 | _ t ih =>
  intro s p i n rest ht h0 hf hr
  cases hfr : from_ s p with
  | nil =>
   have := from_nil hfr; exact readU_torn (by omega)
  | cons c l =>
   rw [hfr] at hf; obtain ⟨hp,hb,hf'⟩ := from_cons hfr
   by_cases hs : t < 128
   ·rw [ub_small hs] at hf
    injection hf with _ hf; exact absurd (List.append_eq_nil_iff.1 hf.symm).2 hr
   ·rw [ub_great (by omega)] at hf
    injection hf with hf1 hf2; have hc : (s[p]'hp).toNat = t % 128 + 128 := by rw [<- byteAt_eq hp,hb, <- hf1,byte_of (by omega)]
    have hpow : t / 128 * 128 ^ (i + 1) = t / 128 * 128 * 128 ^ i := by rw [Nat.pow_succ,Nat.mul_comm (128 ^ i) 128,Nat.mul_assoc]
    have hle : t / 128 * 128 * 128 ^ i <= t * 128 ^ i := Nat.mul_le_mul_right _ (by omega)
    rw [readU_on hp (by rw [hc]; exact step_ok ht h0 (by rw [if_neg hs])) (by omega)]
    exact ih (t / 128) (by omega) s (p + 1) (i + 1) _ rest (by omega) (fun _ => by omega) (by rw [hf']; exact hf2) hr
theorem readN_back {s : ByteArray} {p t : Nat} {rest : List UInt8} (ht : t < 18446744073709551616) (h : from_ s p = ub t ++ rest) : readU s p 0 0 = .ok (t, p + (ub t).length) := by
 rw [readU_back t s p 0 0 rest (by omega) (fun h => absurd h (by omega)) h]
 simp
theorem readN_cut {s : ByteArray} {p t : Nat} {rest : List UInt8} (ht : t < 18446744073709551616) (h : ub t = from_ s p ++ rest) (hr : rest ≠ []) : readU s p 0 0 = .error 14 :=
 readU_cut t s p 0 0 rest (by omega) (fun h => absurd h (by omega)) h hr
theorem readS_back {s t : ByteArray} {p : Nat} {most : Int} {rest : List UInt8} (h1 : t.size < 18446744073709551616) (h2 : (t.size : Int) <= most) (h : from_ s p = strE t ++ rest) : readS s p most = .ok (t, p + (strE t).length) := by
 unfold strE at h ⊢; rw [List.append_assoc] at h; have hu := readN_back h1 h; have h3 := from_app h; have hl := from_len s (p + (ub t.size).length); rw [h3,List.length_append,size_list] at hl; unfold readS; rw [hu]
 simp only
 rw [if_pos h2,if_pos (by omega)]
 have hx : s.extract (p + (ub t.size).length) (p + (ub t.size).length + t.size) = t := by
  apply ByteArray.ext
  apply Array.ext'
  rw [ByteArray.data_extract,Array.toList_extract,List.extract_eq_take_drop]
  show (from_ s (p + (ub t.size).length)).take _ = _
  rw [h3,show p + (ub t.size).length + t.size - (p + (ub t.size).length) = t.data.toList.length from by rw [size_list]; omega,List.take_left]
 rw [hx,List.length_append,size_list,Nat.add_assoc]
theorem readS_cut {s t : ByteArray} {p : Nat} {most : Int} {rest : List UInt8} (h1 : t.size < 18446744073709551616) (h2 : (t.size : Int) <= most) (h : strE t = from_ s p ++ rest) (hr : rest ≠ []) : readS s p most = .error 14 := by
 unfold strE at h
 rcases torn_app h hr with ⟨r',h0,h'⟩ | ⟨l',h',h''⟩
 ·unfold readS
  rw [readN_cut h1 h' h0]
 ·have hu := readN_back h1 h'
  have h3 := from_app h'; have hl := from_len s (p + (ub t.size).length)
  have hlt : l'.length < t.size := by
   have := congrArg List.length h''; rw [size_list,List.length_append] at this; have : 0 < rest.length := List.length_pos_iff.2 hr
   omega
  rw [h3] at hl; unfold readS; rw [hu]
  simp only
  rw [if_pos h2,if_neg (by omega)]
theorem readM_back {s : ByteArray} {p n : Nat} {rest : List UInt8} (hn : n <= 200) (h : from_ s p = ub n ++ rest) : readM s p = .ok (n, p + (ub n).length) := by
 unfold readM; rw [readN_back (by omega) h]
 simp only
 rw [if_pos hn]
theorem readM_cut {s : ByteArray} {p n : Nat} {rest : List UInt8} (hn : n <= 200) (h : ub n = from_ s p ++ rest) (hr : rest ≠ []) : readM s p = .error 14 := by
 unfold readM; rw [readN_cut (by omega) h hr]
theorem readF_back {s : ByteArray} {p f : Nat} {rest : List UInt8} (hf : f < 18446744073709551616) (hc : fcan f = f) (h : from_ s p = fbytes f 8 ++ rest) : readF s p = .ok (f, p + 8) := by
 have hl := from_len s p; rw [h,List.length_append,fbytes_len] at hl; simp only [fbytes,List.range_succ,List.range_zero,List.nil_append,List.map_append,List.map_cons,List.map_nil,List.cons_append] at h; obtain ⟨_,b0,h⟩ := from_cons h; obtain ⟨_,b1,h⟩ := from_cons h; obtain ⟨_,b2,h⟩ := from_cons h; obtain ⟨_,b3,h⟩ := from_cons h; obtain ⟨_,b4,h⟩ := from_cons h; obtain ⟨_,b5,h⟩ := from_cons h; obtain ⟨_,b6,h⟩ := from_cons h; obtain ⟨_,b7,h⟩ := from_cons h
 have e : beAt s p 8 = f := by
  simp only [beAt,Nat.add_zero,Nat.zero_mul,Nat.zero_add]; rw [b0,b1,b2,b3,b4,b5,b6,b7]; simp only [fbyte]; rw [byte_of (by omega),byte_of (by omega),byte_of (by omega),byte_of (by omega),byte_of (by omega),byte_of (by omega),byte_of (by omega),byte_of (by omega)]
  omega
 unfold readF; rw [if_pos (by omega),e,if_pos hc]
theorem readF_cut {s : ByteArray} {p f : Nat} {rest : List UInt8} (h : fbytes f 8 = from_ s p ++ rest) (hr : rest ≠ []) : readF s p = .error 14 := by
 have hl := from_len s p; have h2 := congrArg List.length h; rw [fbytes_len,List.length_append] at h2; have : 0 < rest.length := List.length_pos_iff.2 hr; unfold readF; rw [if_neg (by omega)]
section
variable {A B : Type}
theorem rdL_back {s : ByteArray} {rd : Nat -> Nat -> Except Int (A × Nat × Nat)} {enc : A -> List UInt8} {sz : A -> Nat} {g : A -> B} {Q : A -> Prop} {b : Bool} (M : Nat) :
  ∀ (vs : List A) (ns : List ByteArray) (p m : Nat) (rest : List UInt8),
  (∀ x,x ∈ vs -> ∀ p m rest,from_ s p = enc x ++ rest -> m + sz x <= M -> ∃ u,rd p m = .ok (u,p + (enc x).length,m + sz x) /\ g u = g x /\ Q u) ->
  (b = true -> ns.length = vs.length /\ ∀ t,t ∈ ns -> t.size <= 30) -> (b = false -> ns = []) -> m + (vs.map sz).sum <= M -> from_ s p = encL enc b ns vs ++ rest ->
  ∃ us,rdL s rd b vs.length p m = .ok (ns,us,p + (encL enc b ns vs).length,m + (vs.map sz).sum) /\ us.map g = vs.map g /\ (∀ u,u ∈ us -> Q u)
 | [], ns, p, m, rest, hx, hb, hnb, hm, hf => by
  have : ns = [] := by
   cases b with
   | false => exact hnb rfl
   | true => exact List.eq_nil_of_length_eq_zero (hb rfl).1
  subst this; exact ⟨[],by simp [rdL,encL],rfl,fun u h => by simp at h⟩
 | x :: vs, ns, p, m, rest, hx, hb, hnb, hm, hf => by
  simp only [List.map_cons,List.sum_cons] at hm ⊢
  cases b with
  | false =>
   obtain rfl := hnb rfl; simp only [encL,cond_false,List.nil_append,List.tail_nil] at hf ⊢; rw [List.append_assoc] at hf; obtain ⟨u,h1,h2,h3⟩ := hx x (by simp) p m _ hf (by omega)
   obtain ⟨us,h4,h5,h6⟩ := rdL_back M vs [] (p + (enc x).length) (m + sz x) rest (fun y hy => hx y (List.mem_cons_of_mem _ hy)) (fun h => by cases h) (fun _ => rfl) (by omega) (from_app hf)
   refine ⟨u :: us,?_,by simp only [List.map_cons,h2,h5],fun y hy => ?_⟩
   ·rw [List.length_cons, rdL_next0 h1, h4]
    simp only [preL,List.nil_append,List.cons_append,List.length_append,Except.ok.injEq,Prod.mk.injEq,true_and]
    omega
   ·rcases List.mem_cons.1 hy with rfl | hy
    ·exact h3
    ·exact h6 _ hy
  | true =>
   obtain ⟨hl,hts⟩ := hb rfl
   cases ns with
   | nil => simp at hl
   | cons t ns =>
    simp only [encL,cond_true,List.headD_cons,List.tail_cons] at hf ⊢; rw [List.append_assoc,List.append_assoc] at hf; have h0 := readS_back (most := 30) (by have := hts t (by simp); omega) (by have := hts t (by simp); omega) hf
    obtain ⟨u,h1,h2,h3⟩ := hx x (by simp) (p + (strE t).length) m _ (from_app hf) (by omega)
    obtain ⟨us,h4,h5,h6⟩ := rdL_back M vs ns (p + (strE t).length + (enc x).length) (m + sz x) rest (fun y hy => hx y (List.mem_cons_of_mem _ hy)) (fun _ => ⟨by simpa using hl,fun t ht => hts t (List.mem_cons_of_mem _ ht)⟩) (fun h => by cases h) (by omega) (from_app (from_app hf))
    refine ⟨u :: us,?_,by simp only [List.map_cons,h2,h5],fun y hy => ?_⟩
    ·rw [List.length_cons, rdL_next1 h0 h1, h4]
     simp only [preL,List.nil_append,List.cons_append,List.length_append,Except.ok.injEq,Prod.mk.injEq,true_and]
     omega
    ·rcases List.mem_cons.1 hy with rfl | hy
     ·exact h3
     ·exact h6 _ hy
theorem rdL_cut {s : ByteArray} {rd : Nat -> Nat -> Except Int (A × Nat × Nat)} {enc : A -> List UInt8} {sz : A -> Nat} {b : Bool} (M : Nat) :
  ∀ (vs : List A) (ns : List ByteArray) (p m : Nat) (rest : List UInt8),
  (∀ x,x ∈ vs -> ∀ p m rest,from_ s p = enc x ++ rest -> m + sz x <= M -> ∃ u,rd p m = .ok (u,p + (enc x).length,m + sz x)) ->
  (∀ x,x ∈ vs -> ∀ p m rest,enc x = from_ s p ++ rest -> rest ≠ [] -> m + sz x <= M -> rd p m = .error 14) ->
  (b = true -> ns.length = vs.length /\ ∀ t,t ∈ ns -> t.size <= 30) -> (b = false -> ns = []) -> m + (vs.map sz).sum <= M -> encL enc b ns vs = from_ s p ++ rest -> rest ≠ [] ->
  rdL s rd b vs.length p m = .error 14
 | [], ns, p, m, rest, hx, hy, hb, hnb, hm, hf, hr => by
  simp only [encL] at hf; exact absurd (List.append_eq_nil_iff.1 hf.symm).2 hr
 | x :: vs, ns, p, m, rest, hx, hy, hb, hnb, hm, hf, hr => by
  simp only [List.map_cons,List.sum_cons] at hm; rw [List.length_cons]
  cases b with
  | false =>
   obtain rfl := hnb rfl; simp only [encL,cond_false,List.nil_append,List.tail_nil] at hf
   rcases torn_app hf hr with ⟨r',h0,h'⟩ | ⟨l',h',h''⟩
   ·exact rdL_item_bad0 (hy x (by simp) p m r' h' h0 (by omega))
   ·obtain ⟨u, h1⟩ := hx x (by simp) p m _ h' (by omega)
    have h3 := from_app h'; have h4 := rdL_cut (b := false) M vs [] (p + (enc x).length) (m + sz x) rest (fun y hy => hx y (List.mem_cons_of_mem _ hy)) (fun z hz => hy z (List.mem_cons_of_mem _ hz)) (fun h => by cases h) (fun _ => rfl) (by omega) (by rw [h3]; exact h'') hr
    rw [rdL_next0 h1,h4]
    rfl
  | true =>
   obtain ⟨hl,hts⟩ := hb rfl
   cases ns with
   | nil => simp at hl
   | cons t ns =>
    have ht1 : t.size < 18446744073709551616 := by have := hts t (by simp); omega
    have ht2 : (t.size : Int) <= 30 := by have := hts t (by simp); omega
    simp only [encL,cond_true,List.headD_cons,List.tail_cons] at hf
    rcases torn_app hf hr with ⟨r',h0,h'⟩ | ⟨l',h',h''⟩
    ·exact rdL_name_bad (readS_cut ht1 ht2 h' h0)
    ·have h0 := readS_back ht1 ht2 h'
     have h3 := from_app h'
     rcases torn_app h'' hr with ⟨r',h0',hh'⟩ | ⟨l2,hh',hh''⟩
     ·exact rdL_item_bad1 h0 (hy x (by simp) _ m r' (by rw [h3]; exact hh') h0' (by omega))
     ·obtain ⟨u, h1⟩ := hx x (by simp) (p + (strE t).length) m l2 (by rw [h3]; exact hh') (by omega)
      have h5 : from_ s (p + (strE t).length + (enc x).length) = l2 := from_app (by rw [h3]; exact hh')
      have h4 := rdL_cut (b := true) M vs ns (p + (strE t).length + (enc x).length) (m + sz x) rest (fun y hy => hx y (List.mem_cons_of_mem _ hy)) (fun z hz => hy z (List.mem_cons_of_mem _ hz)) (fun _ => ⟨by simpa using hl,fun t ht => hts t (List.mem_cons_of_mem _ ht)⟩) (fun h => by cases h) (by omega) (by rw [h5]; exact hh'') hr
      rw [rdL_next1 h0 h1,h4]
      rfl
end
end Go.Proofs.YtaamihdibpioaaaGreat
namespace Go.Proofs.YtaamihdibpioaaaGreat
open Go.RowKit
theorem Val.szAll_sum : ∀ xs : List Val, Val.szAll xs = (xs.map Val.sz).sum
 | [] => rfl
 | x :: xs => by simp only [Val.szAll,List.map_cons,List.sum_cons,Val.szAll_sum xs]
theorem Ty.szAll_sum : ∀ xs : List Ty, Ty.szAll xs = (xs.map Ty.sz).sum
 | [] => rfl
 | x :: xs => by simp only [Ty.szAll,List.map_cons,List.sum_cons,Ty.szAll_sum xs]
theorem Val.count_up (d : Nat) : ∀ (v : Val) (n : Nat), v.sz <= d -> v.count n <= n + v.sz := by
 induction d with
 | zero => intro v n hd; rw [Val.sz_eq] at hd; omega
 | succ d ih =>
  intro v n hd
  have key : ∀ (xs : List Val) (m : Nat), (∀ x, x ∈ xs -> x.sz <= d) -> Val.countAll xs m <= m + Val.szAll xs := fun xs => by
   induction xs with
   | nil => intro m _; simp [Val.countAll]
   | cons x xs ihx =>
    intro m hm; simp only [Val.countAll,Val.szAll]
    split
    ·omega
    ·have h1 := ih x m (hm x (by simp))
     have h2 := ihx (x.count m) (fun z hz => hm z (List.mem_cons_of_mem _ hz))
     omega
  rw [Val.count_eq,Val.sz_eq]; have := key v.xs (n + 1) (fun x hx => by have := Val.size_mem hx; omega)
  omega
theorem Ty.count_up (d : Nat) : ∀ (v : Ty) (n : Nat), v.sz <= d -> v.count n <= n + v.sz := by
 induction d with
 | zero => intro v n hd; rw [Ty.sz_eq] at hd; omega
 | succ d ih =>
  intro v n hd
  have key : ∀ (xs : List Ty) (m : Nat), (∀ x, x ∈ xs -> x.sz <= d) -> Ty.countAll xs m <= m + Ty.szAll xs := fun xs => by
   induction xs with
   | nil => intro m _; simp [Ty.countAll]
   | cons x xs ihx =>
    intro m hm; simp only [Ty.countAll,Ty.szAll]
    split
    ·omega
    ·have h1 := ih x m (hm x (by simp))
     have h2 := ihx (x.count m) (fun z hz => hm z (List.mem_cons_of_mem _ hz))
     omega
  rw [Ty.count_eq,Ty.sz_eq]; have := key v.xs (n + 1) (fun x hx => by have := Ty.size_mem hx; omega)
  omega
theorem right_sz {v : Val} (h : v.RightB = true) : v.sz <= 200 /\ v.rightB 1 = true := by
 unfold Val.RightB at h; rw [Bool.and_eq_true,decide_eq_true_eq] at h; have := Val.count_sz v.sz v 0 (Nat.le_refl _) (by omega)
 exact ⟨by omega,h.2⟩
theorem rightAll_of : ∀ {xs : List Val} {d : Nat}, (∀ x, x ∈ xs -> x.rightB d = true) -> Val.rightAll xs d = true
 | [],_,_ => by simp [Val.rightAll]
 | x :: xs, d, h => by
  simp only [Val.rightAll,Bool.and_eq_true]; exact ⟨h x (by simp),rightAll_of (fun y hy => h y (List.mem_cons_of_mem _ hy))⟩
theorem bare_mk {v : Val} {n f s r : Bool} (h1 : n = true \/ v.n = 0) (h2 : f = true \/ ford v.f 0 = 0) (h3 : s = true \/ v.s.toList.isEmpty = true) (h4 : r = true \/ (v.ns.length = 0 /\ v.xs.length = 0)) : bareB v n f s r = true := by
 unfold bareB; simp only [Bool.and_eq_true,Bool.or_eq_true,beq_iff_eq,decide_eq_true_eq]; exact ⟨⟨⟨h1,h2⟩,h3⟩,h4⟩
theorem ford00 : ford 0 0 = 0 := by decide
theorem empty_isEmpty : ByteArray.empty.toList.isEmpty = true := by decide +kernel
theorem leafN_bare (k n : Int) : bareB (Val.leafN k n) true false false false = true := by
 exact bare_mk (.inl rfl) (.inr ford00) (.inr empty_isEmpty) (.inr ⟨rfl,rfl⟩)
def Back (v : Val) (deep : Nat) (u : Val) : Prop := (u.nf,u.sz) = (v.nf,v.sz) /\ u.rightB deep = true
theorem back_leaf {v u : Val} {deep : Nat} (h1 : u.nf = v.nf) (h2 : u.xs = []) (h3 : v.xs = []) (h4 : u.rightB deep = true) : Back v deep u := by
 refine ⟨?_,h4⟩; rw [h1,Val.sz_eq u,Val.sz_eq v,h2,h3]
theorem right_cases {v : Val} {deep : Nat} (h : v.rightB deep = true) : deep <= 12 /\
  ((v.k = 1 /\ (v.n = 0 \/ v.n = 1) /\ v.xs = []) \/ (v.k = 2 /\ v.xs = []) \/ (v.k = 3 /\ v.xs = []) \/ (v.k = 4 /\ v.xs = [] /\ v.s.size <= 200) \/
   (v.k = 5 /\ v.ns = [] /\ ∀ x,x ∈ v.xs -> x.rightB (deep + 1) = true) \/ (v.k = 6 /\ v.ns.length = v.xs.length /\ risingB v.ns = true /\ (∀ t,t ∈ v.ns -> t.size <= 30) /\ ∀ x,x ∈ v.xs -> x.rightB (deep + 1) = true)) := by
 rw [Val.rightB_eq] at h
 by_cases h12 : 12 < deep
 ·rw [if_pos h12] at h; cases h
 rw [if_neg h12] at h; refine ⟨by omega,?_⟩
 by_cases h1 : v.k = 1
 ·rw [if_pos h1, Bool.and_eq_true, beq_iff_eq] at h
  exact .inl ⟨h1,by omega,bare_xs h.1⟩
 rw [if_neg h1] at h
 by_cases h2 : v.k = 2
 ·rw [if_pos h2] at h
  exact .inr (.inl ⟨h2,bare_xs h⟩)
 rw [if_neg h2] at h
 by_cases h3 : v.k = 3
 ·rw [if_pos h3] at h
  exact .inr (.inr (.inl ⟨h3,bare_xs h⟩))
 rw [if_neg h3] at h
 by_cases h4 : v.k = 4
 ·rw [if_pos h4, Bool.and_eq_true, decide_eq_true_eq] at h
  exact .inr (.inr (.inr (.inl ⟨h4,bare_xs h.1,h.2⟩)))
 rw [if_neg h4] at h
 by_cases h5 : v.k = 5
 ·rw [if_pos h5, Bool.and_eq_true, Bool.and_eq_true, decide_eq_true_eq] at h
  exact .inr (.inr (.inr (.inr (.inl ⟨h5,List.eq_nil_of_length_eq_zero h.1.2,rightAll_mem h.2⟩))))
 rw [if_neg h5] at h
 by_cases h6 : v.k = 6
 ·rw [if_pos h6, Bool.and_eq_true, Bool.and_eq_true, Bool.and_eq_true, decide_eq_true_eq] at h
  refine .inr (.inr (.inr (.inr (.inr ⟨h6,h.1.1.1,h.1.1.2,fun t ht => ?_,rightAll_mem h.2⟩))))
  obtain ⟨i,hi,rfl⟩ := List.getElem_of_mem ht; have := rising_size h.1.1.2 hi
  simpa [hi] using this
 rw [if_neg h6] at h; cases h
theorem enc_node {v : Val} (h : v.k = 5 \/ v.k = 6) : v.enc = UInt8.ofNat v.k.toNat :: (ub v.xs.length ++ encL Val.enc (decide (v.k = 6)) v.ns v.xs) := by
 rw [Val.enc_eq, <- encL_val]
 rcases h with h | h <;> rw [h] <;> rfl
theorem fcan_fcan (f : Nat) : fcan (fcan f) = fcan f := by
 cases h : fnan f with
 | true =>
  have h2 : fnan (fcan f) = true := by rw [fnan_fcan,h]
  unfold fcan; rw [h]; simp only [if_true]
  split <;> rfl
 | false =>
  have : fcan f = f := by unfold fcan; rw [h]; rfl
  rw [this,this]
section
variable {s : ByteArray} {w : World}
theorem Val.back (d : Nat) : ∀ (v : Val) (deep p m : Nat) (rest : List UInt8), deep + d = 13 -> v.rightB deep = true -> v.In w -> m + v.sz <= 200 -> from_ s p = v.enc ++ rest ->
  ∃ u,rdV s d p m = .ok (u,p + v.enc.length,m + v.sz) /\ (u.nf,u.sz) = (v.nf,v.sz) /\ u.rightB deep = true := by
 induction d with
 | zero => intro v deep p m rest hd hr; have := (right_cases hr).1; omega
 | succ d ih =>
  intro v deep p m rest hd hr hin hm hf; obtain ⟨h12,hc⟩ := right_cases hr; have hok := hin.ok; rw [Val.enc_eq] at hf ⊢; rw [List.cons_append] at hf; obtain ⟨hp,hb,hf'⟩ := from_cons hf; have hm1 := Val.sz_eq v
  rcases hc with ⟨hk,hn,hx⟩ | ⟨hk,hx⟩ | ⟨hk,hx⟩ | ⟨hk,hx,hs⟩ | ⟨hk,hns,hall⟩ | ⟨hk,hnl,hris,hts,hall⟩
  ·rw [hk] at hb hf' ⊢
   simp only [if_true] at hf' ⊢; obtain ⟨hp2,hb2,_⟩ := from_cons hf'; have hbk : (byteAt s p).toNat = 1 := by rw [hb]; rfl
   have hbn : (byteAt s (p + 1)).toNat = v.n.toNat := by rw [hb2,byte_of (by omega)]
   have hsz : v.sz = 1 := by rw [Val.sz_eq,hx]; rfl
   refine ⟨Val.leafN 1 v.n,?_,?_⟩
   ·unfold rdV
    rw [if_neg (by omega),if_neg (by omega),if_pos hbk,if_neg (by omega),if_pos (by omega),hbn,hsz,Int.toNat_of_nonneg (by omega)]
    rfl
   ·refine back_leaf ?_ rfl hx ?_
    ·refine (Val.nf_iff _ _).2 ?_
     rw [show (Val.leafN 1 v.n).k = 1 from rfl]
     exact ⟨hk.symm,fun _ => rfl,fun h => absurd h (by decide),fun h => absurd h (by decide),fun h => absurd h (by decide),fun h => absurd h (by decide)⟩
    ·rw [Val.rightB_eq, show (Val.leafN 1 v.n).k = 1 from rfl, if_neg (by omega), if_pos rfl, leafN_bare, Bool.true_and, beq_iff_eq]
     show v.n / 2 = 0
     omega
  ·rw [hk] at hb hf' ⊢
   simp only [if_true,if_neg (show ¬ (2 : Int) = 1 by decide)] at hf' ⊢
   have hbk : (byteAt s p).toNat = 2 := by rw [hb]; rfl
   have hu := readN_back (zig_lt hok.2.1.1 hok.2.1.2) hf'; have hsz : v.sz = 1 := by rw [Val.sz_eq,hx]; rfl
   refine ⟨Val.leafN 2 v.n,?_,?_⟩
   ·unfold rdV
    rw [if_neg (by omega),if_neg (by omega),if_neg (by omega),if_pos hbk,hu,hsz]
    simp only [Except.ok.injEq,Prod.mk.injEq,List.length_cons,unzig_zig,true_and,and_true]
    omega
   ·refine back_leaf ?_ rfl hx ?_
    ·refine (Val.nf_iff _ _).2 ?_
     rw [show (Val.leafN 2 v.n).k = 2 from rfl]
     exact ⟨hk.symm,fun _ => rfl,fun h => absurd h (by decide),fun h => absurd h (by decide),fun h => absurd h (by decide),fun h => absurd h (by decide)⟩
    ·rw [Val.rightB_eq,show (Val.leafN 2 v.n).k = 2 from rfl,if_neg (by omega),if_neg (show ¬ (2 : Int) = 1 by decide),if_pos rfl,leafN_bare]
  ·rw [hk] at hb hf' ⊢
   simp only [if_true,if_neg (show ¬ (3 : Int) = 1 by decide),if_neg (show ¬ (3 : Int) = 2 by decide)] at hf' ⊢
   have hbk : (byteAt s p).toNat = 3 := by rw [hb]; rfl
   have hu := readF_back (fcan_lt hok.2.2.1) (fcan_fcan v.f) hf'; have hsz : v.sz = 1 := by rw [Val.sz_eq,hx]; rfl
   refine ⟨Val.leafF (fcan v.f),?_,?_⟩
   ·unfold rdV
    rw [if_neg (by omega),if_neg (by omega),if_neg (by omega),if_neg (by omega),if_pos hbk,hu,hsz]
    simp only [Except.ok.injEq,Prod.mk.injEq,List.length_cons,fbytes_len,true_and,and_true]
    try omega
   ·refine back_leaf ?_ rfl hx ?_
    ·refine (Val.nf_iff _ _).2 ?_
     rw [show (Val.leafF (fcan v.f)).k = 3 from rfl]
     exact ⟨hk.symm,fun h => absurd h (by decide),fun _ => fkey_fcan v.f,fun h => absurd h (by decide),fun h => absurd h (by decide),fun h => absurd h (by decide)⟩
    ·rw [Val.rightB_eq, show (Val.leafF (fcan v.f)).k = 3 from rfl, if_neg (by omega), if_neg (show ¬ (3 : Int) = 1 by decide), if_neg (show ¬ (3 : Int) = 2 by decide), if_pos rfl]
     exact bare_mk (.inr rfl) (.inl rfl) (.inr empty_isEmpty) (.inr ⟨rfl,rfl⟩)
  ·rw [hk] at hb hf' ⊢
   simp only [if_true,if_neg (show ¬ (4 : Int) = 1 by decide),if_neg (show ¬ (4 : Int) = 2 by decide),if_neg (show ¬ (4 : Int) = 3 by decide)] at hf' ⊢
   have hbk : (byteAt s p).toNat = 4 := by rw [hb]; rfl
   have hu := readS_back (most := 200) (by omega) (by omega) hf'
   have hsz : v.sz = 1 := by rw [Val.sz_eq,hx]; rfl
   refine ⟨Val.leafS v.s,?_,?_⟩
   ·unfold rdV
    rw [if_neg (by omega),if_neg (by omega),if_neg (by omega),if_neg (by omega),if_neg (by omega),if_pos hbk,hu,hsz]
    simp only [Except.ok.injEq,Prod.mk.injEq,List.length_cons,true_and,and_true]
    omega
   ·refine back_leaf ?_ rfl hx ?_
    ·refine (Val.nf_iff _ _).2 ?_
     rw [show (Val.leafS v.s).k = 4 from rfl]
     exact ⟨hk.symm,fun h => absurd h (by decide),fun h => absurd h (by decide),fun _ => rfl,fun h => absurd h (by decide),fun h => absurd h (by decide)⟩
    ·rw [Val.rightB_eq, show (Val.leafS v.s).k = 4 from rfl, if_neg (by omega), if_neg (show ¬ (4 : Int) = 1 by decide), if_neg (show ¬ (4 : Int) = 2 by decide), if_neg (show ¬ (4 : Int) = 3 by decide), if_pos rfl, Bool.and_eq_true, decide_eq_true_eq]
     exact ⟨bare_mk (.inr rfl) (.inr ford00) (.inl rfl) (.inr ⟨rfl,rfl⟩),hs⟩
  all_goals
   have hk56 : v.k = 5 \/ v.k = 6 := by omega
   have henc := enc_node hk56; rw [Val.enc_eq] at henc; have hsum := Val.szAll_sum v.xs
   have hl200 : v.xs.length <= 200 := by
    have : ∀ xs : List Val, xs.length <= (xs.map Val.sz).sum := fun xs => by
     induction xs with
     | nil => simp
     | cons x xs ihx => simp only [List.length_cons,List.map_cons,List.sum_cons]; have := Val.sz_eq x; omega
    have := this v.xs
    omega
   rw [<- List.cons_append,henc,List.cons_append] at hf; rw [henc]; obtain ⟨_,_,hg⟩ := from_cons hf; rw [List.append_assoc] at hg; have hum := readM_back hl200 hg; have hg2 := from_app hg
  ·have hbk : (byteAt s p).toNat = 5 := by rw [hb, hk]; rfl
   rw [hk,hns] at hg2
   obtain ⟨us, h1, h2, h3⟩ := rdL_back (rd := rdV s d) (enc := Val.enc) (sz := Val.sz) (g := fun x => (x.nf, x.sz)) (Q := fun u => u.rightB (deep + 1) = true) (b := false) 200 v.xs [] (p + 1 + (ub v.xs.length).length) (m + 1) rest
    (fun x hx p m rest hf hm => ih x (deep + 1) p m rest (by omega) (hall x hx) (((Val.in_iff _ v).1 hin).2.2.2 x hx) hm hf) (fun h => by cases h) (fun _ => rfl) (by omega) hg2
   have hsu : Val.szAll us = Val.szAll v.xs := by
    rw [Val.szAll_sum,Val.szAll_sum]; have := congrArg (List.map Prod.snd) h2; simp only [List.map_map] at this; exact congrArg List.sum this
   have hnf : us.map Val.nf = v.xs.map Val.nf := by
    have := congrArg (List.map Prod.fst) h2; simp only [List.map_map] at this; exact this
   refine ⟨Val.node 5 [] us,?_,?_,?_⟩
   ·unfold rdV
    rw [if_neg (by omega),if_neg (by omega),if_neg (by omega),if_neg (by omega),if_neg (by omega),if_neg (by omega),if_pos (.inl hbk),hum]
    simp only
    rw [hbk,show decide ((5 : Nat) = 6) = false from rfl,h1]
    simp only [Except.ok.injEq,Prod.mk.injEq,List.length_cons,List.length_append]; refine ⟨rfl,?_,by omega⟩
    rw [hk,hns,show decide ((5 : Int) = 6) = false from rfl]
    omega
   ·rw [Prod.mk.injEq]
    refine ⟨(Val.nf_iff _ _).2 (by rw [show (Val.node 5 [] us).k = 5 from rfl]; exact ⟨hk.symm,fun h => absurd h (by decide),fun h => absurd h (by decide),fun h => absurd h (by decide),fun h => absurd h (by decide),fun _ => hnf⟩),?_⟩
    rw [Val.sz_eq,Val.sz_eq v]; exact congrArg (1 + ·) hsu
   ·rw [Val.rightB_eq, show (Val.node 5 [] us).k = 5 from rfl, if_neg (by omega), if_neg (show ¬ (5 : Int) = 1 by decide), if_neg (show ¬ (5 : Int) = 2 by decide), if_neg (show ¬ (5 : Int) = 3 by decide), if_neg (show ¬ (5 : Int) = 4 by decide), if_pos rfl, Bool.and_eq_true, Bool.and_eq_true]
    exact ⟨⟨bare_mk (.inr rfl) (.inr ford00) (.inr empty_isEmpty) (.inl rfl),rfl⟩,rightAll_of h3⟩
  ·have hbk : (byteAt s p).toNat = 6 := by rw [hb, hk]; rfl
   rw [hk] at hg2
   obtain ⟨us, h1, h2, h3⟩ := rdL_back (rd := rdV s d) (enc := Val.enc) (sz := Val.sz) (g := fun x => (x.nf, x.sz)) (Q := fun u => u.rightB (deep + 1) = true) (b := true) 200 v.xs v.ns (p + 1 + (ub v.xs.length).length) (m + 1) rest
    (fun x hx p m rest hf hm => ih x (deep + 1) p m rest (by omega) (hall x hx) (((Val.in_iff _ v).1 hin).2.2.2 x hx) hm hf) (fun _ => ⟨hnl,hts⟩) (fun h => by cases h) (by omega) hg2
   have hsu : Val.szAll us = Val.szAll v.xs := by
    rw [Val.szAll_sum,Val.szAll_sum]; have := congrArg (List.map Prod.snd) h2; simp only [List.map_map] at this; exact congrArg List.sum this
   have hnf : us.map Val.nf = v.xs.map Val.nf := by
    have := congrArg (List.map Prod.fst) h2; simp only [List.map_map] at this; exact this
   have hul : us.length = v.xs.length := by have := congrArg List.length h2; simpa using this
   refine ⟨Val.node 6 v.ns us,?_,?_,?_⟩
   ·unfold rdV
    rw [if_neg (by omega),if_neg (by omega),if_neg (by omega),if_neg (by omega),if_neg (by omega),if_neg (by omega),if_pos (.inr hbk),hum]
    simp only
    rw [hbk,show decide ((6 : Nat) = 6) = true from rfl,h1]
    simp only [Except.ok.injEq,Prod.mk.injEq,List.length_cons,List.length_append]; refine ⟨rfl,?_,by omega⟩
    rw [hk,show decide ((6 : Int) = 6) = true from rfl]
    omega
   ·rw [Prod.mk.injEq]
    refine ⟨(Val.nf_iff _ _).2 (by rw [show (Val.node 6 v.ns us).k = 6 from rfl]; exact ⟨hk.symm,fun h => absurd h (by decide),fun h => absurd h (by decide),fun h => absurd h (by decide),fun _ => rfl,fun _ => hnf⟩),?_⟩
    rw [Val.sz_eq,Val.sz_eq v]; exact congrArg (1 + ·) hsu
   ·rw [Val.rightB_eq, show (Val.node 6 v.ns us).k = 6 from rfl, if_neg (by omega), if_neg (show ¬ (6 : Int) = 1 by decide), if_neg (show ¬ (6 : Int) = 2 by decide), if_neg (show ¬ (6 : Int) = 3 by decide), if_neg (show ¬ (6 : Int) = 4 by decide), if_neg (show ¬ (6 : Int) = 5 by decide), if_pos rfl, Bool.and_eq_true, Bool.and_eq_true, Bool.and_eq_true, decide_eq_true_eq]
    exact ⟨⟨⟨by show v.ns.length = us.length; omega,hris⟩,bare_mk (.inr rfl) (.inr ford00) (.inr empty_isEmpty) (.inl rfl)⟩,rightAll_of h3⟩
theorem Val.cut (d : Nat) : ∀ (v : Val) (deep p m : Nat) (rest : List UInt8), deep + d = 13 -> v.rightB deep = true -> v.In w -> m + v.sz <= 200 -> v.enc = from_ s p ++ rest -> rest ≠ [] ->
  rdV s d p m = .error 14 := by
 induction d with
 | zero => intro v deep p m rest hd hr; have := (right_cases hr).1; omega
 | succ d ih =>
  intro v deep p m rest hd hr hin hm hf hre; obtain ⟨h12,hc⟩ := right_cases hr; have hok := hin.ok; have hm1 := Val.sz_eq v
  cases hfr : from_ s p with
  | nil =>
   have := from_nil hfr; unfold rdV; rw [if_neg (by omega),if_pos this]
  | cons c l =>
   rw [hfr,Val.enc_eq] at hf; obtain ⟨hp,hb,hf'⟩ := from_cons hfr; rw [List.cons_append] at hf; injection hf with hf1 hf2; rw [<- hf1] at hb
   rcases hc with ⟨hk,hn,hx⟩ | ⟨hk,hx⟩ | ⟨hk,hx⟩ | ⟨hk,hx,hs⟩ | ⟨hk,hns,hall⟩ | ⟨hk,hnl,hris,hts,hall⟩
   ·rw [hk] at hb hf2
    simp only [if_true] at hf2; have hbk : (byteAt s p).toNat = 1 := by rw [hb]; rfl
    have hl0 : l = [] := by
     have h1 := congrArg List.length hf2; have h2 : 0 < rest.length := List.length_pos_iff.2 hre; simp only [List.length_cons,List.length_nil,List.length_append] at h1; exact List.eq_nil_of_length_eq_zero (by omega)
    have := from_nil (hf'.trans hl0); unfold rdV; rw [if_neg (by omega),if_neg (by omega),if_pos hbk,if_pos this]
   ·rw [hk] at hb hf2
    simp only [if_true,if_neg (show ¬ (2 : Int) = 1 by decide)] at hf2
    have hbk : (byteAt s p).toNat = 2 := by rw [hb]; rfl
    unfold rdV; rw [if_neg (by omega),if_neg (by omega),if_neg (by omega),if_pos hbk,readN_cut (zig_lt hok.2.1.1 hok.2.1.2) (by rw [hf']; exact hf2) hre]
   ·rw [hk] at hb hf2
    simp only [if_true,if_neg (show ¬ (3 : Int) = 1 by decide),if_neg (show ¬ (3 : Int) = 2 by decide)] at hf2
    have hbk : (byteAt s p).toNat = 3 := by rw [hb]; rfl
    unfold rdV; rw [if_neg (by omega),if_neg (by omega),if_neg (by omega),if_neg (by omega),if_pos hbk,readF_cut (by rw [hf']; exact hf2) hre]
   ·rw [hk] at hb hf2
    simp only [if_true,if_neg (show ¬ (4 : Int) = 1 by decide),if_neg (show ¬ (4 : Int) = 2 by decide),if_neg (show ¬ (4 : Int) = 3 by decide)] at hf2
    have hbk : (byteAt s p).toNat = 4 := by rw [hb]; rfl
    unfold rdV; rw [if_neg (by omega),if_neg (by omega),if_neg (by omega),if_neg (by omega),if_neg (by omega),if_pos hbk,readS_cut (t := v.s) (most := 200) (by omega) (by omega) (by rw [hf']; exact hf2) hre]
   all_goals
    have hk56 : v.k = 5 \/ v.k = 6 := by omega
    have henc := enc_node hk56; rw [Val.enc_eq] at henc; injection henc with _ henc; rw [henc] at hf2; have hsum := Val.szAll_sum v.xs
    have hl200 : v.xs.length <= 200 := by
     have : ∀ xs : List Val, xs.length <= (xs.map Val.sz).sum := fun xs => by
      induction xs with
      | nil => simp
      | cons x xs ihx => simp only [List.length_cons,List.map_cons,List.sum_cons]; have := Val.sz_eq x; omega
     have := this v.xs
     omega
    rw [<- hf'] at hf2
   ·have hbk : (byteAt s p).toNat = 5 := by rw [hb, hk]; rfl
    unfold rdV; rw [if_neg (by omega),if_neg (by omega),if_neg (by omega),if_neg (by omega),if_neg (by omega),if_neg (by omega),if_pos (.inl hbk)]
    rcases torn_app hf2 hre with ⟨r',h0,h'⟩ | ⟨l',h',h''⟩
    ·rw [readM_cut hl200 h' h0]
    ·have hum := readM_back hl200 h'
     have hg := from_app h'; rw [hk,hns] at h''; rw [hum,hbk,show decide ((5 : Nat) = 6) = false from rfl]
     simp only
     rw [rdL_cut (rd := rdV s d) (enc := Val.enc) (sz := Val.sz) (b := false) 200 v.xs [] (p + 1 + (ub v.xs.length).length) (m + 1) rest
      (fun x hx p m rest hf hm => let ⟨u,h1,_⟩ := Val.back (w := w) d x (deep + 1) p m rest (by omega) (hall x hx) (((Val.in_iff _ v).1 hin).2.2.2 x hx) hm hf; ⟨u,h1⟩)
      (fun x hx p m rest hf hr hm => ih x (deep + 1) p m rest (by omega) (hall x hx) (((Val.in_iff _ v).1 hin).2.2.2 x hx) hm hf hr) (fun h => by cases h) (fun _ => rfl) (by omega) (by rw [hg]; exact h'') hre]
   ·have hbk : (byteAt s p).toNat = 6 := by rw [hb, hk]; rfl
    unfold rdV; rw [if_neg (by omega),if_neg (by omega),if_neg (by omega),if_neg (by omega),if_neg (by omega),if_neg (by omega),if_pos (.inr hbk)]
    rcases torn_app hf2 hre with ⟨r',h0,h'⟩ | ⟨l',h',h''⟩
    ·rw [readM_cut hl200 h' h0]
    ·have hum := readM_back hl200 h'
     have hg := from_app h'; rw [hk] at h''; rw [hum,hbk,show decide ((6 : Nat) = 6) = true from rfl]
     simp only
     rw [rdL_cut (rd := rdV s d) (enc := Val.enc) (sz := Val.sz) (b := true) 200 v.xs v.ns (p + 1 + (ub v.xs.length).length) (m + 1) rest
      (fun x hx p m rest hf hm => let ⟨u,h1,_⟩ := Val.back (w := w) d x (deep + 1) p m rest (by omega) (hall x hx) (((Val.in_iff _ v).1 hin).2.2.2 x hx) hm hf; ⟨u,h1⟩)
      (fun x hx p m rest hf hr hm => ih x (deep + 1) p m rest (by omega) (hall x hx) (((Val.in_iff _ v).1 hin).2.2.2 x hx) hm hf hr) (fun _ => ⟨hnl,hts⟩) (fun h => by cases h) (by omega) (by rw [hg]; exact h'') hre]
theorem tright_cases {v : Ty} {deep : Nat} (h : v.rightB deep = true) : deep <= 12 /\
  ((v.k = 5 /\ v.ns = [] /\ v.xs.length = 1) \/ (v.k = 6 /\ v.ns.length = v.xs.length) \/ (v.k ≠ 5 /\ v.k ≠ 6 /\ v.ns = [] /\ v.xs = [])) := by
 rw [Ty.rightB_eq] at h
 by_cases h12 : 12 < deep
 ·rw [if_pos h12] at h; cases h
 rw [if_neg h12] at h; refine ⟨by omega,?_⟩
 by_cases h5 : v.k = 5
 ·rw [if_pos h5, Bool.and_eq_true, Bool.and_eq_true, decide_eq_true_eq, decide_eq_true_eq] at h
  exact .inl ⟨h5,List.eq_nil_of_length_eq_zero h.1.1,h.1.2⟩
 rw [if_neg h5] at h
 by_cases h6 : v.k = 6
 ·rw [if_pos h6, Bool.and_eq_true, Bool.and_eq_true, decide_eq_true_eq] at h
  exact .inr (.inl ⟨h6,h.1.1⟩)
 rw [if_neg h6] at h
 by_cases h7 : 1 <= v.k /\ v.k <= 7
 ·rw [if_pos h7, Bool.and_eq_true, decide_eq_true_eq, decide_eq_true_eq] at h
  exact .inr (.inr ⟨h5,h6,List.eq_nil_of_length_eq_zero h.1,List.eq_nil_of_length_eq_zero h.2⟩)
 ·rw [if_neg h7] at h; cases h
theorem tlen_sz : ∀ xs : List Ty, xs.length <= (xs.map Ty.sz).sum := fun xs => by
 induction xs with
 | nil => simp
 | cons x xs ihx => simp only [List.length_cons,List.map_cons,List.sum_cons]; have := Ty.sz_eq x; omega
theorem tmany {v : Ty} {deep p : Nat} {rest : List UInt8} (h : v.rightB deep = true) (hl : v.xs.length <= 200) (hf : from_ s p = (if v.k = 6 then ub v.xs.length else []) ++ rest) :
  tyMany s v.k.toNat p = .ok (v.xs.length,p + (if v.k = 6 then ub v.xs.length else []).length) := by
 have hk := Ty.right_kinds h
 rcases (tright_cases h).2 with ⟨h5,h1,h2⟩ | ⟨h6,h1⟩ | ⟨h5,h6,h1,h2⟩
 ·unfold tyMany
  rw [if_pos (by omega),if_neg (by omega),h2]
  rfl
 ·rw [if_pos h6] at hf ⊢
  unfold tyMany; rw [if_neg (by omega),if_pos (by omega),readM_back hl hf]
 ·unfold tyMany
  rw [if_neg (by omega),if_neg (by omega),if_pos (by omega),if_neg h6,h2]
  rfl
theorem Ty.back (d : Nat) : ∀ (v : Ty) (deep p m : Nat) (rest : List UInt8), deep + d = 13 -> v.rightB deep = true -> m + v.sz <= 200 -> from_ s p = v.enc ++ rest ->
  ∃ u,rdT s d p m = .ok (u,p + v.enc.length,m + v.sz) /\ u = v.erase /\ True := by
 induction d with
 | zero => intro v deep p m rest hd hr; have := (tright_cases hr).1; omega
 | succ d ih =>
  intro v deep p m rest hd hr hm hf; have hk := Ty.right_kinds hr; have hm1 := Ty.sz_eq v; have hsum := Ty.szAll_sum v.xs; have hl := tlen_sz v.xs; obtain ⟨hpx,hpn⟩ := Ty.right_parts hr; rw [Ty.enc_eq,encL_ty] at hf ⊢; rw [List.cons_append] at hf; obtain ⟨hp,hb,hf'⟩ := from_cons hf; have hbk : (byteAt s p).toNat = v.k.toNat := by rw [hb,byte_of (by omega)]
  rw [List.append_assoc] at hf'; have hum := tmany hr (by omega) hf'
  have hg := from_app hf'
  obtain ⟨us, h1, h2, h3⟩ := rdL_back (rd := rdT s d) (enc := Ty.enc) (sz := Ty.sz) (g := fun x => x.erase) (Q := fun u => u.erase = u) (b := decide (v.k = 6)) 200 v.xs v.ns _ (m + 1) rest
   (fun x hx p m rest hf hm => by
    obtain ⟨u,h1,h2,_⟩ := ih x (deep + 1) p m rest (by omega) (hpx x hx) hm hf
    have he : x.erase.erase = x.erase := by
     have : ∀ (d : Nat) (x : Ty), x.sz <= d -> x.erase.erase = x.erase := fun d => by
      induction d with
      | zero => intro x hd; rw [Ty.sz_eq] at hd; omega
      | succ d ihd =>
       intro x hd; rw [Ty.erase_eq x.erase,Ty.erase_k,Ty.erase_ns,Ty.erase_xs,List.map_map,Ty.erase_eq x]
       congr 1
       exact List.map_congr_left (fun y hy => ihd y (by have := Ty.size_mem hy; omega))
     exact this x.sz x (Nat.le_refl _)
    exact ⟨u,h1,by rw [h2]; exact he,by rw [h2]; exact he⟩)
   (fun h => hpn (by simpa using h)) (fun h => by
    have h6 : v.k ≠ 6 := by simpa using h
    rcases (tright_cases hr).2 with ⟨_,h1,_⟩ | ⟨h1,_⟩ | ⟨_,_,h1,_⟩
    ·exact h1
    ·exact absurd h1 h6
    ·exact h1) (by omega) hg
  refine ⟨Ty.node v.k v.ns us,?_,?_,trivial⟩
  ·unfold rdT
   rw [if_neg (by omega),if_neg (by omega),hbk,hum]
   simp only
   have hdec : decide (v.k.toNat = 6) = decide (v.k = 6) := by
    by_cases h : v.k = 6
    ·rw [decide_eq_true h,decide_eq_true (by omega)]
    ·rw [decide_eq_false h,decide_eq_false (by omega)]
   rw [hdec,h1]; simp only [Except.ok.injEq,Prod.mk.injEq,List.length_cons,List.length_append]; refine ⟨?_,by omega,by omega⟩
   rw [Int.toNat_of_nonneg (by omega)]
  ·rw [Ty.erase_eq v]
   show Ty.mk v.k .no v.ns .no us = _
   congr 1
   have : us.map Ty.erase = us := by
    conv => rhs; rw [<- List.map_id us]
    exact List.map_congr_left (fun y hy => h3 y hy)
   rw [<- this]; exact h2
theorem Ty.cut (d : Nat) : ∀ (v : Ty) (deep p m : Nat) (rest : List UInt8), deep + d = 13 -> v.rightB deep = true -> m + v.sz <= 200 -> v.enc = from_ s p ++ rest -> rest ≠ [] ->
  rdT s d p m = .error 14 := by
 induction d with
 | zero => intro v deep p m rest hd hr; have := (tright_cases hr).1; omega
 | succ d ih =>
  intro v deep p m rest hd hr hm hf hre; have hk := Ty.right_kinds hr; have hm1 := Ty.sz_eq v; have hsum := Ty.szAll_sum v.xs; have hl := tlen_sz v.xs; obtain ⟨hpx,hpn⟩ := Ty.right_parts hr
  cases hfr : from_ s p with
  | nil =>
   have := from_nil hfr; unfold rdT; rw [if_neg (by omega),if_pos this]
  | cons c l =>
   rw [hfr,Ty.enc_eq,encL_ty,List.cons_append] at hf; obtain ⟨hp,hb,hf'⟩ := from_cons hfr; injection hf with hf1 hf2; rw [<- hf1] at hb; have hbk : (byteAt s p).toNat = v.k.toNat := by rw [hb,byte_of (by omega)]
   rw [<- hf'] at hf2
   have hdec : decide (v.k.toNat = 6) = decide (v.k = 6) := by
    by_cases h : v.k = 6
    ·rw [decide_eq_true h,decide_eq_true (by omega)]
    ·rw [decide_eq_false h,decide_eq_false (by omega)]
   unfold rdT; rw [if_neg (by omega),if_neg (by omega),hbk,hdec]
   rcases torn_app hf2 hre with ⟨r',h0,h'⟩ | ⟨l',h',h''⟩
   ·have h6 : v.k = 6 := by
     by_cases h : v.k = 6
     ·exact h
     ·rw [if_neg h] at h'
      exact absurd (List.append_eq_nil_iff.1 h'.symm).2 h0
    rw [if_pos h6] at h'
    have : tyMany s v.k.toNat (p + 1) = .error 14 := by
     unfold tyMany; rw [if_neg (by omega),if_pos (by omega),readM_cut (by omega) h' h0]
    rw [this]
   ·have hum := tmany hr (by omega) h'
    have hg := from_app h'; rw [hum]
    simp only
    rw [rdL_cut (rd := rdT s d) (enc := Ty.enc) (sz := Ty.sz) (b := decide (v.k = 6)) 200 v.xs v.ns _ (m + 1) rest
     (fun x hx p m rest hf hm => let ⟨u,h1,_⟩ := Ty.back d x (deep + 1) p m rest (by omega) (hpx x hx) hm hf; ⟨u,h1⟩)
     (fun x hx p m rest hf hr hm => ih x (deep + 1) p m rest (by omega) (hpx x hx) hm hf hr) (fun h => hpn (by simpa using h)) (fun h => by
      have h6 : v.k ≠ 6 := by simpa using h
      rcases (tright_cases hr).2 with ⟨_,h1,_⟩ | ⟨h1,_⟩ | ⟨_,_,h1,_⟩
      ·exact h1
      ·exact absurd h1 h6
      ·exact h1) (by omega) (by rw [hg]; exact h'') hre]
end
end Go.Proofs.YtaamihdibpioaaaGreat
namespace Go.Proofs.YtaamihdibpioaaaGreat
open Go.RowKit
theorem conv1v (W : World) (g : Nat) (a : Int) (c : Nat) (hg : g = W.heap.size) : (convert 105 9 (.slice (some ⟨g, 0, none⟩) 1 c)).run Tryz.prog (W.alloc (.cells #[.int .u8 a] 5)) = .ok (.string ⟨[UInt8.ofNat a.toNat].toArray⟩) (W.alloc (.cells #[.int .u8 a] 5)) :=
 run_convert_bytes_arg (P := Tryz.prog) _ 105 5 Tryz.underlying105 Tryz.underlying5 g 0 1 c [a] rfl (fun i hi => by
  subst hg; have hb := Blk.new W 5 #[.int .u8 a]; rw [hb.cell]
  match i,hi with
  | 0,_ => rfl) _ Tryz.underlying9
def strB (l : List UInt8) : ByteArray := ⟨l.toArray⟩
theorem strB_size (l : List UInt8) : (strB l).size = l.length := by show l.toArray.size = _; exact List.size_toArray ..
theorem strB_append (a b : List UInt8) : strB a ++ strB b = strB (a ++ b) := by
 apply ByteArray.ext
 simp [strB,ByteArray.data_append]
theorem rwv_bool (v : Val) (deep : Nat) (w : World) (hv : v.In w) (hr : v.rightB deep = true) (hlen : v.enc.length + 20 <= 140737488355328) (hk : v.k = 1) :
  Calls Tryz.prog 133 #[v.agg] w fun e w' => Told (strB v.enc) w.heap.size w e w' := by
 obtain ⟨W,hW⟩ := gXe (w.alloc (.cells v.cells.toArray 37)); have hbW : Below w.heap.size w W := by rw [hW]; exact (Below.refl _ _).alloc (Nat.le_refl _) _
 have hpv : Blk W w.heap.size 37 v.cells.toArray := by rw [hW]; exact Blk.new w 37 _
 have henc := Val.enc_eq v; have hlt := hpv.lt; have hok := hv.ok; rw [hk] at henc
 have hn : v.n = 0 \/ v.n = 1 := by
  rw [Val.rightB_eq] at hr
  by_cases h12 : 12 < deep
  ·rw [if_pos h12] at hr; cases hr
  ·rw [if_neg h12, if_pos hk, Bool.and_eq_true, beq_iff_eq] at hr
   omega
 obtain ⟨p4,q4,e4⟩ := hv.nslice; obtain ⟨p5,q5,e5⟩ := hv.xslice; unfold Val.cells at hW hpv; unfold Val.agg; rw [hk,e4,e5] at hW hpv ⊢; have a0 := hpv.cell 0; have a1 := hpv.cell 1; have a2 := hpv.cell 2; have a3 := hpv.cell 3; have a4 := hpv.cell 4; have a5 := hpv.cell 5; simp only [gX0,gX1,gX2] at a0 a1 a2 a3 a4 a5; have hzW : W.heap.size = w.heap.size + 1 := by rw [hW]; simp
 have HW := gh hW; have HB := gh hbW; have HPV := gh hpv; have hc1 := conv1v W (w.heap.size + 1) 1 1 (by rw [hzW])
 simp only [show UInt8.ofNat (Int.toNat 1) = 1 from rfl] at hc1
 change _ = Result.ok (Value.string (strB [1])) _ at hc1
 have hs1 := strB_size [1]; clear hr hW hbW hpv e4 e5 hv hok
 rcases hn with hn | hn
 ·have HE : Hid (strB [1] ++ strB [0] = strB v.enc) := gh (by rw [henc, hn, strB_append]; rfl)
  rw [hn] at HW a1 ⊢; have hc2 := conv1v (W.alloc (.cells #[.int .u8 1] 5)) (w.heap.size + 1 + 1) 0 1 (by simp [hzW])
  simp only [show UInt8.ofNat (Int.toNat 0) = 0 from rfl] at hc2
  change _ = Result.ok (Value.string (strB [0])) _ at hc2
  have hs0 := strB_size [0]; clear henc hn hlen
  go_enter Tryz.func133,Tryz.ntmps133
  go_wp2_with fail
  rw [<- HW.o,hc1]
  go_wp2_with fail
  go_ret
  exact ⟨by rw [HE.o]; rfl, (HB.o.alloc HB.o.size _).alloc (by simp; omega) _⟩
 ·have HE : Hid (strB [1] ++ strB [1] = strB v.enc) := gh (by rw [henc, hn, strB_append]; rfl)
  rw [hn] at HW a1 ⊢; have hc2 := conv1v (W.alloc (.cells #[.int .u8 1] 5)) (w.heap.size + 1 + 1) 1 1 (by simp [hzW])
  simp only [show UInt8.ofNat (Int.toNat 1) = 1 from rfl] at hc2
  change _ = Result.ok (Value.string (strB [1])) _ at hc2
  have hs0 := strB_size [1]; clear henc hn hlen
  go_enter Tryz.func133,Tryz.ntmps133
  go_wp2_with fail
  rw [<- HW.o,hc1]
  go_wp2_with fail
  go_ret
  exact ⟨by rw [HE.o]; rfl, (HB.o.alloc HB.o.size _).alloc (by simp; omega) _⟩
theorem rwv_int (v : Val) (deep : Nat) (w : World) (hv : v.In w) (hr : v.rightB deep = true) (hlen : v.enc.length + 20 <= 140737488355328) (hk : v.k = 2) :
  Calls Tryz.prog 133 #[v.agg] w fun e w' => Told (strB v.enc) w.heap.size w e w' := by
 obtain ⟨W,hW⟩ := gXe (w.alloc (.cells v.cells.toArray 37)); have hbW : Below w.heap.size w W := by rw [hW]; exact (Below.refl _ _).alloc (Nat.le_refl _) _
 have hpv : Blk W w.heap.size 37 v.cells.toArray := by rw [hW]; exact Blk.new w 37 _
 have henc := Val.enc_eq v; have hlt := hpv.lt; have hok := hv.ok; rw [hk] at henc; obtain ⟨p4,q4,e4⟩ := hv.nslice; obtain ⟨p5,q5,e5⟩ := hv.xslice; unfold Val.cells at hW hpv; unfold Val.agg; rw [hk,e4,e5] at hW hpv ⊢; have a0 := hpv.cell 0; have a1 := hpv.cell 1; have a2 := hpv.cell 2; have a3 := hpv.cell 3; have a4 := hpv.cell 4; have a5 := hpv.cell 5; simp only [gX0,gX1,gX2] at a0 a1 a2 a3 a4 a5; have hzW : W.heap.size = w.heap.size + 1 := by rw [hW]; simp
 have HW := gh hW; have HB := gh hbW; have HPV := gh hpv; have hc1 := conv1v W (w.heap.size + 1) 2 1 (by rw [hzW])
 simp only [show UInt8.ofNat (Int.toNat 2) = 2 from rfl] at hc1
 change _ = Result.ok (Value.string (strB [2])) _ at hc1
 have hs1 := strB_size [2]; have HE : Hid (strB [2] ++ intS v.n = strB v.enc) := gh (by rw [henc]; show strB [2] ++ strB (ub (zig v.n)) = _; rw [strB_append]; rfl)
 have hul := ub_len64 (zig_lt hok.2.1.1 hok.2.1.2); have hs2 : (intS v.n).size <= 10 := by show (ub (zig v.n)).toArray.size <= 10; rw [List.size_toArray]; exact hul
 have HC := gh (fun W => wint5_any v.n W hok.2.1.1 hok.2.1.2)
 clear hr hW hbW hpv e4 e5 hv hok henc hlen hul
 go_enter Tryz.func133,Tryz.ntmps133
 go_wp2_with fail
 rw [<- HW.o,hc1]
 go_wp2_with fail
 refine (HC.o _).mono ?_; rintro e w2 ⟨rfl,hb⟩; have HB2 := gh ((HB.o.alloc HB.o.size (.cells #[.int .u8 2] 5)).trans (hb.mono (by simp; omega)))
 clear hb
 go_wp2
 go_ret
 exact ⟨by rw [HE.o]; rfl,HB2.o⟩
theorem rwv_str (v : Val) (deep : Nat) (w : World) (hv : v.In w) (hr : v.rightB deep = true) (hlen : v.enc.length + 20 <= 140737488355328) (hk : v.k = 4) :
  Calls Tryz.prog 133 #[v.agg] w fun e w' => Told (strB v.enc) w.heap.size w e w' := by
 obtain ⟨W,hW⟩ := gXe (w.alloc (.cells v.cells.toArray 37)); have hbW : Below w.heap.size w W := by rw [hW]; exact (Below.refl _ _).alloc (Nat.le_refl _) _
 have hpv : Blk W w.heap.size 37 v.cells.toArray := by rw [hW]; exact Blk.new w 37 _
 have henc := Val.enc_eq v; have hlt := hpv.lt; have hok := hv.ok; rw [hk] at henc; obtain ⟨p4,q4,e4⟩ := hv.nslice; obtain ⟨p5,q5,e5⟩ := hv.xslice; unfold Val.cells at hW hpv; unfold Val.agg; rw [hk,e4,e5] at hW hpv ⊢; have a0 := hpv.cell 0; have a1 := hpv.cell 1; have a2 := hpv.cell 2; have a3 := hpv.cell 3; have a4 := hpv.cell 4; have a5 := hpv.cell 5; simp only [gX0,gX1,gX2] at a0 a1 a2 a3 a4 a5; have hzW : W.heap.size = w.heap.size + 1 := by rw [hW]; simp
 have HW := gh hW; have HB := gh hbW; have HPV := gh hpv; have hc1 := conv1v W (w.heap.size + 1) 4 1 (by rw [hzW])
 simp only [show UInt8.ofNat (Int.toNat 4) = 4 from rfl] at hc1
 change _ = Result.ok (Value.string (strB [4])) _ at hc1
 have hs1 := strB_size [4]; have HE : Hid (strB [4] ++ strS v.s = strB v.enc) := gh (by rw [henc]; show strB [4] ++ strB (strE v.s) = _; rw [strB_append]; rfl)
 have hl2 : (strE v.s).length + 20 <= 140737488355328 := by
  rw [henc] at hlen; have e : (UInt8.ofNat (Int.toNat 4) :: (if (4 : Int) = 1 then [UInt8.ofNat v.n.toNat] else if (4 : Int) = 2 then ub (zig v.n) else if (4 : Int) = 3 then fbytes (fcan v.f) 8 else if (4 : Int) = 4 then strE v.s else ub v.xs.length ++ Val.encAll (decide ((4 : Int) = 6)) v.ns v.xs)).length = (strE v.s).length + 1 := rfl
  omega
 have hs2 : (strS v.s).size + 20 <= 140737488355328 := by show (strE v.s).toArray.size + 20 <= _; rw [List.size_toArray]; exact hl2
 have hsz : v.s.size + 10 <= 140737488355328 := by
  have h6 : v.s.data.toList.length = v.s.size := Array.length_toList; simp only [strE,List.length_append] at hl2
  omega
 have HC := gh (fun W => wstr5_any v.s W hsz)
 clear hr hW hbW hpv e4 e5 hv hok henc hlen hl2
 go_enter Tryz.func133,Tryz.ntmps133
 go_wp2_with fail
 rw [<- HW.o,hc1]
 go_wp2_with fail
 refine (HC.o _).mono ?_; rintro e w2 ⟨rfl,hb⟩; have HB2 := gh ((HB.o.alloc HB.o.size (.cells #[.int .u8 4] 5)).trans (hb.mono (by simp; omega)))
 clear hb
 go_wp2
 go_ret
 exact ⟨by rw [HE.o]; rfl,HB2.o⟩
theorem rwv_float (v : Val) (deep : Nat) (w : World) (hv : v.In w) (hr : v.rightB deep = true) (hlen : v.enc.length + 20 <= 140737488355328) (hk : v.k = 3) :
  Calls Tryz.prog 133 #[v.agg] w fun e w' => Told (strB v.enc) w.heap.size w e w' := by
 obtain ⟨W,hW⟩ := gXe (w.alloc (.cells v.cells.toArray 37)); have hbW : Below w.heap.size w W := by rw [hW]; exact (Below.refl _ _).alloc (Nat.le_refl _) _
 have hpv : Blk W w.heap.size 37 v.cells.toArray := by rw [hW]; exact Blk.new w 37 _
 have henc := Val.enc_eq v; have hlt := hpv.lt; have hok := hv.ok; rw [hk] at henc; obtain ⟨p4,q4,e4⟩ := hv.nslice; obtain ⟨p5,q5,e5⟩ := hv.xslice; unfold Val.cells at hW hpv; unfold Val.agg; rw [hk,e4,e5] at hW hpv ⊢; have a0 := hpv.cell 0; have a1 := hpv.cell 1; have a2 := hpv.cell 2; have a3 := hpv.cell 3; have a4 := hpv.cell 4; have a5 := hpv.cell 5; simp only [gX0,gX1,gX2] at a0 a1 a2 a3 a4 a5; have hzW : W.heap.size = w.heap.size + 1 := by rw [hW]; simp
 have HW := gh hW; have HB := gh hbW; have HPV := gh hpv; have hc1 := conv1v W (w.heap.size + 1) 3 1 (by rw [hzW])
 simp only [show UInt8.ofNat (Int.toNat 3) = 3 from rfl] at hc1
 change _ = Result.ok (Value.string (strB [3])) _ at hc1
 have hs1 := strB_size [3]; obtain ⟨i0,hi0,hz0,hz1,hz2⟩ := info_parts byte_info; have HE : Hid (strB ([3] ++ fbytes (fcan v.f) 8) = strB v.enc) := gh (by rw [henc]; rfl)
 have hfl := fcan_lt hok.2.2.1; have HCN := gh (fun W : World => rcanon_any v.f W)
 obtain ⟨f,hf⟩ := gXe (fcan v.f); rw [<- hf] at hfl HE; simp only [<- hf] at HCN; have hbits := bits_run f; have hcv := fun W : World => Lib.run_convert_string_bytes (P := Tryz.prog) W 9 105 5 (strB [3]) Tryz.underlying9 Tryz.underlying105 Tryz.underlying5
 have HOT := gh (fun (W : World) (h : w.heap.size <= W.heap.size) => OwnT.bytes W w.heap.size 5 (strB [3]) h (by rw [strB_size]; unfold maxLen; simp))
 clear hr hW hbW hpv e4 e5 hv hok henc hlen hf
 go_enter Tryz.func133,Tryz.ntmps133
 go_wp2_with fail
 rw [<- HW.o,hc1]
 go_wp2_with (go_at_call 158; refine (HCN.o _).mono ?_; rintro e w' ⟨rfl,rfl⟩)
 have ho := HOT.o (W.alloc (.cells #[.int .u8 3] 5)) (by simp [hzW]; omega)
 rw [hs1] at ho; rw [show (W.alloc (.cells #[.int .u8 3] 5)).heap.size = w.heap.size + 1 + 1 from by simp [hzW]] at ho
 have hb3 := below_bytes' (HB.o.alloc HB.o.size (.cells #[.int .u8 3] 5)) (by simp [hzW]; omega) 5 (strB [3])
 have HO := gh ho; have HB3 := gh hb3; clear ho hb3 hcv HOT HCN hbits a0 a1 a2 a3 a4 a5 hc1
 go_loopw [5, 6] (fun ov sv wr => ∃ k : Nat,k <= 8 /\ sv = .int .i64 (56 - 8 * (k : Int)) /\ Hid (OwnT wr w.heap.size 5 ov (1 + k) (Lib.byteCells ([3] ++ fbytes f k))) /\ Hid (Below w.heap.size w wr)) (fun _ sv _ => (intOf sv + 8).toNat)
 case atStart => exact ⟨0,by omega,rfl,HO,HB3⟩
 case round =>
  obtain ⟨k,hk,rfl,HOW,HBL⟩ := hrel; have hbz := HBL.o.size; clear HO HB3
  by_cases hlt8 : k < 8
  ·have hge : decide ((0 : Int) <= 56 - 8 * (k : Int)) = true := by simp; omega
   have hng : decide ((56 - 8 * (k : Int)) < 0) = false := by simp; omega
   go_wp2_with (at_builtin; refine wpList_append_T _ rfl (.tmp 43) (.tmp 48) 105 rfl w.heap.size 5 i0 Tryz.underlying105 hi0 hz0 hz1 hz2 _ (1 + k) (Lib.byteCells ([3] ++ fbytes f k)) rfl (HOW.o.alloc _) ⟨wr.heap.size, 0,none⟩ 1 _ rfl ((Blk.new wr _ _).cell 0) (by rfl) (by unfold maxLen; omega) (by omega) (by simp; omega) ?_)
   intro v' w' hown' hg'; have hba := HBL.o.alloc hbz (.cells #[.int .u8 ((f : Int) / 2 ^ (56 - 8 * k) % 256)] 5); have hb' := gh (hba.grown hg' hba.size (fun k hk => HOW.o.ge k hk))
   have ho2 : OwnT w' w.heap.size 5 v' (1 + (k + 1)) (Lib.byteCells ([3] ++ fbytes f (k + 1))) := by
    have e : Lib.byteCells ([3] ++ fbytes f (k + 1)) = Lib.byteCells ([3] ++ fbytes f k) ++ [Value.int .u8 ((f : Int) / 2 ^ (56 - 8 * k) % 256)] := by
     rw [fbytes_succ, <- List.append_assoc,Lib.byteCells_append _ [fbyte f k],fbyte_nat]; rfl
    rw [e]; exact hown'
   have HO2 := gh ho2; clear hba hg' hown' ho2 HOW HBL
   go_wp2
   go_roundw
   case rel => exact ⟨k + 1,by omega,by go_num,HO2,hb'⟩
   case measure => simp [intOf]; omega
  ·have hge : decide ((0 : Int) <= 56 - 8 * (k : Int)) = false := by simp; omega
   have h8 : k = 8 := by omega
   subst h8; have hcv2 := conv_T HOW.o
   change _ = Result.ok (Value.string (strB ([3] ++ fbytes f 8))) _ at hcv2
   go_wp2_with fail
   go_ret
   exact ⟨by rw [<- HE.o]; rfl,HBL.o⟩
theorem rwv_list (v : Val) (deep : Nat) (w : World) (hv : v.In w) (hr : v.rightB deep = true) (hlen : v.enc.length + 20 <= 140737488355328) (hk : v.k = 5)
  (hih : ∀ (x : Val) (w : World),x ∈ v.xs -> x.In w -> x.rightB (deep + 1) = true -> x.enc.length + 20 <= 140737488355328 -> Calls Tryz.prog 133 #[x.agg] w fun e w' => Told (strB x.enc) w.heap.size w e w') :
  Calls Tryz.prog 133 #[v.agg] w fun e w' => Told (strB v.enc) w.heap.size w e w' := by
 obtain ⟨W,hW⟩ := gXe (w.alloc (.cells v.cells.toArray 37)); have hbW : Below w.heap.size w W := by rw [hW]; exact (Below.refl _ _).alloc (Nat.le_refl _) _
 have hpv : Blk W w.heap.size 37 v.cells.toArray := by rw [hW]; exact Blk.new w 37 _
 have henc := Val.enc_eq v; have hlt := hpv.lt; have hok := hv.ok; rw [hk] at henc; have HIH := gh hih; obtain ⟨p4,q4,e4,n4⟩ := names_in (NamesAt.of (hv.below hbW)); obtain ⟨p5,q5,e5,x5⟩ := items_at (hv.below hbW)
 have hrr : (∀ x, x ∈ v.xs -> x.rightB (deep + 1) = true) := by
  rw [Val.rightB_eq] at hr
  by_cases h12 : 12 < deep
  ·rw [if_pos h12] at hr; cases hr
  rw [if_neg h12,hk] at hr; simp only [show ¬ ((5 : Int) = 1) from by omega,show ¬ ((5 : Int) = 2) from by omega,show ¬ ((5 : Int) = 3) from by omega,show ¬ ((5 : Int) = 4) from by omega,if_false,if_true] at hr
  rw [Bool.and_eq_true] at hr; exact fun x hx => rightAll_mem hr.2 x hx
 unfold Val.cells at hW hpv; unfold Val.agg; rw [hk,e4,e5] at hW hpv ⊢; have a0 := hpv.cell 0; have a1 := hpv.cell 1; have a2 := hpv.cell 2; have a3 := hpv.cell 3; have a4 := hpv.cell 4; have a5 := hpv.cell 5; simp only [gX0,gX1,gX2] at a0 a1 a2 a3 a4 a5; have hzW : W.heap.size = w.heap.size + 1 := by rw [hW]; simp
 have HW := gh hW; have HB := gh hbW; have HPV := gh hpv; have hc1 := conv1v W (w.heap.size + 1) 5 1 (by rw [hzW])
 simp only [show UInt8.ofNat (Int.toNat 5) = 5 from rfl] at hc1
 change _ = Result.ok (Value.string (strB [5])) _ at hc1
 have hs1 := strB_size [5]; obtain ⟨T,hT⟩ := gXe (v.enc); have hTe : T = [5] ++ ub v.xs.length ++ Val.encAll false v.ns v.xs := by rw [hT,henc]; rfl
 obtain ⟨L,hL⟩ := gXe (v.xs.length); have hxl := hok.2.2.2.2.2.1; rw [<- hT] at hlen ⊢; rw [<- hL] at hxl hTe HW a5 ⊢
 try rw [<- hL] at a4
 have hul := ub_len64 (n := L) (by omega)
 have hs2 : (uintS L).size <= 10 := by show (ub L).toArray.size <= 10; rw [List.size_toArray]; exact hul
 have hwr : IntKind.u64.wrap (L : Int) = L := by rw [IntKind.wrap_u64]; omega
 have HC := gh (fun W => wuint5_any L W (by omega))
 have HT := gh hTe; have HRR := gh hrr; have HX5 := gh x5; have HN4 := gh n4; have HL := gh hL; have HLEN := gh hlen; clear hr hW hbW hpv e4 e5 hv hok henc hlen hul hih hrr x5 n4 hL hT hTe
 go_enter Tryz.func133,Tryz.ntmps133
 go_wp2_with fail
 rw [<- HW.o,hc1]
 go_wp2_with fail
 refine (HC.o _).mono ?_; rintro e w2 ⟨rfl,hb⟩; have HB2 := gh (((Below.refl W.heap.size W).alloc (Nat.le_refl _) (.cells #[.int .u8 5] 5)).trans (hb.mono (by simp)))
 have hj : strB [5] ++ uintS L = strB ([5] ++ ub L) := strB_append _ (ub L); obtain ⟨m0,hm0⟩ := gXe ([5] ++ ub L); rw [<- hm0] at hj; have HM0 := gh hm0; have HJ := gh hj; clear hb HC hj hm0
 go_wp2_with fail
 rw [HJ.o]
 go_loopw [3, 7] (fun sv iv wr => ∃ (i : Nat) (m : List UInt8),sv = .string (strB m) /\ iv = .int .i64 (i : Int) /\ i <= L /\ Hid (m ++ Val.encAll false (v.ns.drop i) (v.xs.drop i) = T) /\ Hid (Below W.heap.size W wr)) (fun _ iv _ => L - (intOf iv).toNat)
 case atStart => exact ⟨0,_,rfl,rfl,by omega,gh (by rw [HT.o,HM0.o]; rfl),HB2⟩
 case round =>
  obtain ⟨i,m,rfl,rfl,hi,HR,HBR⟩ := hrel; clear a0 a1 a2 a3 a4 a5 HB2 HT; have q := HPV.o.below HBR.o HPV.o.lt; have a0 := q.cell 0; have a4 := q.cell 4; have a5 := q.cell 5; simp only [gX0,gX1,gX2] at a0 a4 a5; rw [<- HL.o] at a5
  try rw [<- HL.o] at a4
  by_cases hlt2 : i < L
  ·have hil : i < v.xs.length := by rw [<- HL.o]; exact hlt2
   obtain ⟨xb,xo,rfl,hpx,hlc⟩ := HX5.o i hil; rw [<- HL.o] at hlc; have hst := encAll_step (b := false) (ns := v.ns) hil; obtain ⟨x,hxx⟩ := gXe (v.xs[i]'hil); have hxm : x ∈ v.xs := by rw [hxx]; exact List.getElem_mem hil
   have hR := HR.o; rw [hst] at hR; rw [<- hxx] at hR hpx; simp only [cond_false,cond_true,List.nil_append] at hR; have hk0 : (0 : Int) <= (i : Int) := by omega
   have hk1 : (i : Int) < (L : Int) := by omega
   have hpx := hpx.below HBR.o; have x0 := hpx.c0; have x1 := hpx.c1; have x2 := hpx.c2; have x3 := hpx.c3; have x4 := hpx.c4; have x5 := hpx.c5; obtain ⟨s4,z4,g4⟩ := hpx.in.nslice; obtain ⟨s5,z5,g5⟩ := hpx.in.xslice; rw [g4] at x4; rw [g5] at x5; have hll := HLEN.o; rw [<- hR] at hll; simp only [List.length_append] at hll; have HC2 := gh (HIH.o x wr hxm hpx.in (HRR.o x hxm) (by omega))
   unfold Val.agg at HC2; rw [g4,g5] at HC2; have HR2 := gh hR; have hm1 : (strB m).size + 20 <= 140737488355328 := by rw [strB_size]; omega
   have hm2 : (strB x.enc).size + 20 <= 140737488355328 := by rw [strB_size]; omega
   have hm3 : (strB m).size + (strB x.enc).size + 20 <= 140737488355328 := by rw [strB_size,strB_size]; omega
   have HJ2 := gh (strB_append m x.enc); clear q hst hR hpx g4 g5 hll hxx hil HR
   go_wp2_with fail
   refine HC2.o.mono ?_; rintro e w3 ⟨rfl,hb⟩; have HB3 := gh (HBR.o.trans (hb.mono HBR.o.size)); clear hb HC2 a0 a4 a5 x0 x1 x2 x3 x4 x5
   go_wp2_with fail
   go_roundw
   case rel => exact ⟨i + 1,_,by rw [HJ2.o],by go_num,by omega,gh (by rw [<- HR2.o,List.append_assoc]),HB3⟩
   case measure => simp [intOf]; omega
  ·have t1 : decide ((i : Int) < (L : Int)) = false := by simp; omega
   have t1' : decide (i < L) = false := by simp; omega
   have hmT : m = T := by
    have hR := HR.o; rw [show v.xs.drop i = [] from List.drop_eq_nil_of_le (by rw [<- HL.o]; omega)] at hR
    simpa [Val.encAll] using hR
   subst hmT; clear q HR hlt2 hi
   go_wp2_with fail
   go_ret
   exact ⟨rfl,HB.o.trans (HBR.o.mono HB.o.size)⟩
theorem rwv_rec (v : Val) (deep : Nat) (w : World) (hv : v.In w) (hr : v.rightB deep = true) (hlen : v.enc.length + 20 <= 140737488355328) (hk : v.k = 6)
  (hih : ∀ (x : Val) (w : World),x ∈ v.xs -> x.In w -> x.rightB (deep + 1) = true -> x.enc.length + 20 <= 140737488355328 -> Calls Tryz.prog 133 #[x.agg] w fun e w' => Told (strB x.enc) w.heap.size w e w') :
  Calls Tryz.prog 133 #[v.agg] w fun e w' => Told (strB v.enc) w.heap.size w e w' := by
 obtain ⟨W,hW⟩ := gXe (w.alloc (.cells v.cells.toArray 37)); have hbW : Below w.heap.size w W := by rw [hW]; exact (Below.refl _ _).alloc (Nat.le_refl _) _
 have hpv : Blk W w.heap.size 37 v.cells.toArray := by rw [hW]; exact Blk.new w 37 _
 have henc := Val.enc_eq v; have hlt := hpv.lt; have hok := hv.ok; rw [hk] at henc; have HIH := gh hih; obtain ⟨p4,q4,e4,n4⟩ := names_in (NamesAt.of (hv.below hbW)); obtain ⟨p5,q5,e5,x5⟩ := items_at (hv.below hbW)
 have hrr : (∀ x, x ∈ v.xs -> x.rightB (deep + 1) = true) /\ v.ns.length = v.xs.length := by
  rw [Val.rightB_eq] at hr
  by_cases h12 : 12 < deep
  ·rw [if_pos h12] at hr; cases hr
  rw [if_neg h12,hk] at hr; simp only [show ¬ ((6 : Int) = 1) from by omega,show ¬ ((6 : Int) = 2) from by omega,show ¬ ((6 : Int) = 3) from by omega,show ¬ ((6 : Int) = 4) from by omega,show ¬ ((6 : Int) = 5) from by omega,if_false,if_true] at hr
  rw [Bool.and_eq_true,Bool.and_eq_true,Bool.and_eq_true] at hr; exact ⟨fun x hx => rightAll_mem hr.2 x hx,by simpa using hr.1.1.1⟩
 have e4 : v.na.val v.ns.length = .slice p4 v.xs.length q4 := by rw [e4,hrr.2]
 unfold Val.cells at hW hpv; unfold Val.agg; rw [hk,e4,e5] at hW hpv ⊢; have a0 := hpv.cell 0; have a1 := hpv.cell 1; have a2 := hpv.cell 2; have a3 := hpv.cell 3; have a4 := hpv.cell 4; have a5 := hpv.cell 5; simp only [gX0,gX1,gX2] at a0 a1 a2 a3 a4 a5; have hzW : W.heap.size = w.heap.size + 1 := by rw [hW]; simp
 have HW := gh hW; have HB := gh hbW; have HPV := gh hpv; have hc1 := conv1v W (w.heap.size + 1) 6 1 (by rw [hzW])
 simp only [show UInt8.ofNat (Int.toNat 6) = 6 from rfl] at hc1
 change _ = Result.ok (Value.string (strB [6])) _ at hc1
 have hs1 := strB_size [6]; obtain ⟨T,hT⟩ := gXe (v.enc); have hTe : T = [6] ++ ub v.xs.length ++ Val.encAll true v.ns v.xs := by rw [hT,henc]; rfl
 obtain ⟨L,hL⟩ := gXe (v.xs.length); have hxl := hok.2.2.2.2.2.1; rw [<- hT] at hlen ⊢; rw [<- hL] at hxl hTe HW a5 ⊢
 try rw [<- hL] at a4
 have hul := ub_len64 (n := L) (by omega)
 have hs2 : (uintS L).size <= 10 := by show (ub L).toArray.size <= 10; rw [List.size_toArray]; exact hul
 have hwr : IntKind.u64.wrap (L : Int) = L := by rw [IntKind.wrap_u64]; omega
 have HC := gh (fun W => wuint5_any L W (by omega))
 have HT := gh hTe; have HRR := gh hrr; have HX5 := gh x5; have HN4 := gh n4; have HL := gh hL; have HLEN := gh hlen; clear hr hW hbW hpv e4 e5 hv hok henc hlen hul hih hrr x5 n4 hL hT hTe
 go_enter Tryz.func133,Tryz.ntmps133
 go_wp2_with fail
 rw [<- HW.o,hc1]
 go_wp2_with fail
 refine (HC.o _).mono ?_; rintro e w2 ⟨rfl,hb⟩; have HB2 := gh (((Below.refl W.heap.size W).alloc (Nat.le_refl _) (.cells #[.int .u8 6] 5)).trans (hb.mono (by simp)))
 have hj : strB [6] ++ uintS L = strB ([6] ++ ub L) := strB_append _ (ub L); obtain ⟨m0,hm0⟩ := gXe ([6] ++ ub L); rw [<- hm0] at hj; have HM0 := gh hm0; have HJ := gh hj; clear hb HC hj hm0
 go_wp2_with fail
 rw [HJ.o]
 go_loopw [3, 7] (fun sv iv wr => ∃ (i : Nat) (m : List UInt8),sv = .string (strB m) /\ iv = .int .i64 (i : Int) /\ i <= L /\ Hid (m ++ Val.encAll true (v.ns.drop i) (v.xs.drop i) = T) /\ Hid (Below W.heap.size W wr)) (fun _ iv _ => L - (intOf iv).toNat)
 case atStart => exact ⟨0,_,rfl,rfl,by omega,gh (by rw [HT.o,HM0.o]; rfl),HB2⟩
 case round =>
  obtain ⟨i,m,rfl,rfl,hi,HR,HBR⟩ := hrel; clear a0 a1 a2 a3 a4 a5 HB2 HT; have q := HPV.o.below HBR.o HPV.o.lt; have a0 := q.cell 0; have a4 := q.cell 4; have a5 := q.cell 5; simp only [gX0,gX1,gX2] at a0 a4 a5; rw [<- HL.o] at a5
  try rw [<- HL.o] at a4
  by_cases hlt2 : i < L
  ·have hil : i < v.xs.length := by rw [<- HL.o]; exact hlt2
   obtain ⟨xb,xo,rfl,hpx,hlc⟩ := HX5.o i hil; rw [<- HL.o] at hlc; have hst := encAll_step (b := true) (ns := v.ns) hil; obtain ⟨x,hxx⟩ := gXe (v.xs[i]'hil); have hxm : x ∈ v.xs := by rw [hxx]; exact List.getElem_mem hil
   have hR := HR.o; rw [hst] at hR; rw [<- hxx] at hR hpx; simp only [cond_false,cond_true,List.nil_append] at hR; have hk0 : (0 : Int) <= (i : Int) := by omega
   have hk1 : (i : Int) < (L : Int) := by omega
   have hpx := hpx.below HBR.o; have x0 := hpx.c0; have x1 := hpx.c1; have x2 := hpx.c2; have x3 := hpx.c3; have x4 := hpx.c4; have x5 := hpx.c5; obtain ⟨s4,z4,g4⟩ := hpx.in.nslice; obtain ⟨s5,z5,g5⟩ := hpx.in.xslice; rw [g4] at x4; rw [g5] at x5; have hll := HLEN.o; rw [<- hR] at hll; simp only [List.length_append] at hll; have hns := HRR.o.2; obtain ⟨nb,no,rfl,hnb,hnc,hncl⟩ := HN4.o i (by rw [hns]; exact hil)
   have hnl : v.ns.length = L := by rw [hns, <- HL.o]
   obtain ⟨s,hs⟩ := gXe (v.ns.getD i ByteArray.empty); rw [<- hs] at hnc hR hll; rw [hnl] at hncl; have hnw : wr.cell? ⟨nb,no + i,none⟩ = some (.string s) := (HBR.o.cell (p := ⟨nb,no + i,none⟩) hnb).trans hnc
   have hssz : s.size + 10 <= 140737488355328 := by
    have h6 : s.data.toList.length = s.size := Array.length_toList; simp only [strE,List.length_append] at hll
    omega
   have HCS := gh (wstr5_any s wr hssz); have HC2 := gh (fun (w' : World) (hb : Below wr.heap.size wr w') => HIH.o x w' hxm (hpx.in.below hb) (HRR.o.1 x hxm) (by omega))
   unfold Val.agg at HC2; rw [g4,g5] at HC2; have HPX := gh hpx; have HR2 := gh hR; have hm1 : (strB m).size + 20 <= 140737488355328 := by rw [strB_size]; omega
   have hm2 : (strB x.enc).size + 20 <= 140737488355328 := by rw [strB_size]; omega
   have hes : strS s = strB (strE s) := rfl; have hm4 : (strS s).size + (strB m).size + 20 <= 140737488355328 := by rw [hes,strB_size,strB_size]; omega
   have hm3 : (strB (m ++ strE s)).size + (strB x.enc).size + 20 <= 140737488355328 := by rw [strB_size,strB_size,List.length_append]; omega
   have HJ1 := gh (show strB m ++ strS s = strB (m ++ strE s) from strB_append m (strE s))
   have HJ2 := gh (strB_append (m ++ strE s) x.enc); have HG4 := gh g4; have HG5 := gh g5; have HQ := gh q; clear q hst hR hpx g4 g5 hll hxx hil HR hs hns hnl hnc hes x0 x1 x2 x3 x4 x5
   go_wp2_with fail
   refine HCS.o.mono ?_; rintro e w3 ⟨rfl,hb⟩; have HC3 := gh (HC2.o w3 hb); have hpx := HPX.o.below hb; have hq := HQ.o.below hb HQ.o.lt; have HB3 := gh (HBR.o.trans (hb.mono HBR.o.size)); have a5 := hq.cell 5; simp only [gX0,gX1,gX2] at a5; rw [<- HL.o] at a5; have x0 := hpx.c0; have x1 := hpx.c1; have x2 := hpx.c2; have x3 := hpx.c3; have x4 := hpx.c4; have x5 := hpx.c5; rw [HG4.o] at x4; rw [HG5.o] at x5; clear hb HC2 HCS a0 a4 hnw hpx hq HPX
   go_wp2_with (rw [HJ1.o])
   refine HC3.o.mono ?_; rintro e w4 ⟨rfl,hb⟩; have HB4 := gh (HB3.o.trans (hb.mono HB3.o.size)); clear hb HC3 a5 x0 x1 x2 x3 x4 x5
   go_wp2_with fail
   go_roundw
   case rel => exact ⟨i + 1,_,by rw [HJ2.o],by go_num,by omega,gh (by rw [<- HR2.o]; simp only [List.append_assoc]),HB4⟩
   case measure => simp [intOf]; omega
  ·have t1 : decide ((i : Int) < (L : Int)) = false := by simp; omega
   have t1' : decide (i < L) = false := by simp; omega
   have hmT : m = T := by
    have hR := HR.o; rw [show v.xs.drop i = [] from List.drop_eq_nil_of_le (by rw [<- HL.o]; omega)] at hR
    simpa [Val.encAll] using hR
   subst hmT; clear q HR hlt2 hi
   go_wp2_with fail
   go_ret
   exact ⟨rfl,HB.o.trans (HBR.o.mono HB.o.size)⟩
theorem rwvalue_any (d : Nat) : ∀ (v : Val) (deep : Nat) (w : World), v.sz <= d -> v.In w -> v.rightB deep = true -> v.enc.length + 20 <= 140737488355328 ->
  Calls Tryz.prog 133 #[v.agg] w fun e w' => Told (strB v.enc) w.heap.size w e w' := by
 induction d with
 | zero => intro v deep w hd; rw [Val.sz_eq] at hd; omega
 | succ d ih =>
  intro v deep w hd hv hr hlen; have hkk := ((Val.kinds_iff v).1 (Val.kinds_of_right v.sz v deep (Nat.le_refl _) hr)).1
  have hih : ∀ (x : Val) (w : World), x ∈ v.xs -> x.In w -> x.rightB (deep + 1) = true -> x.enc.length + 20 <= 140737488355328 -> Calls Tryz.prog 133 #[x.agg] w fun e w' => Told (strB x.enc) w.heap.size w e w' :=
   fun x w hx => ih x (deep + 1) w (by have := Val.size_mem hx; omega)
  rcases (by omega : v.k = 1 \/ v.k = 2 \/ v.k = 3 \/ v.k = 4 \/ v.k = 5 \/ v.k = 6) with hk | hk | hk | hk | hk | hk
  ·exact rwv_bool v deep w hv hr hlen hk
  ·exact rwv_int v deep w hv hr hlen hk
  ·exact rwv_float v deep w hv hr hlen hk
  ·exact rwv_str v deep w hv hr hlen hk
  ·exact rwv_list v deep w hv hr hlen hk hih
  ·exact rwv_rec v deep w hv hr hlen hk hih
end Go.Proofs.YtaamihdibpioaaaGreat
