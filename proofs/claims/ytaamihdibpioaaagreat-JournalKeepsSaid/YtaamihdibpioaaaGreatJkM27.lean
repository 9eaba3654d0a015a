/- The bytes of a value; the code's writer writes them. -/
import Derived.Test.YtaamihdibpioaaaGreatJkM10
import Derived.Test.YtaamihdibpioaaaGreatJkM16
import Derived.Test.YtaamihdibpioaaaGreatJkM23
import Derived.Test.YtaamihdibpioaaaGreatJkM26
import Derived.StillTailTactics
import Derived.Laws.Externs
namespace Go.Proofs.YtaamihdibpioaaaGreat
set_option linter.unusedVariables false
open Go.RowKit

/-- A string with its length ahead. -/
def strE (s : ByteArray) : List UInt8 := ub s.size ++ s.data.toList
mutual
/-- A value's bytes. -/
def Val.enc : Val → List UInt8
  | .mk k n f s _ ns _ xs => UInt8.ofNat k.toNat :: (if k = 1 then [UInt8.ofNat n.toNat] else if k = 2 then ub (zig n) else if k = 3 then fbytes (fcan f) 8 else if k = 4 then strE s
      else ub xs.length ++ Val.encAll (decide (k = 6)) ns xs)
def Val.encAll : Bool → List ByteArray → List Val → List UInt8
  | _, _, [] => []
  | b, ns, x :: xs => (bif b then strE (ns.headD ByteArray.empty) else []) ++ (x.enc ++ Val.encAll b ns.tail xs)
end
theorem Val.enc_eq (v : Val) : v.enc = UInt8.ofNat v.k.toNat :: (if v.k = 1 then [UInt8.ofNat v.n.toNat] else if v.k = 2 then ub (zig v.n) else if v.k = 3 then fbytes (fcan v.f) 8 else if v.k = 4 then strE v.s
      else ub v.xs.length ++ Val.encAll (decide (v.k = 6)) v.ns v.xs) := by
  cases v
  simp only [Val.enc, Val.k, Val.n, Val.f, Val.s, Val.ns, Val.xs]
  rfl
theorem encAll_step {b : Bool} {ns : List ByteArray} {xs : List Val} {i : Nat} (h : i < xs.length) : Val.encAll b (ns.drop i) (xs.drop i) = (bif b then strE (ns.getD i ByteArray.empty) else []) ++ ((xs[i]'h).enc ++ Val.encAll b (ns.drop (i + 1)) (xs.drop (i + 1))) := by
  rw [drop_cons h]
  simp only [Val.encAll]
  have e1 : (ns.drop i).headD ByteArray.empty = ns.getD i ByteArray.empty := by
    rw [List.headD_eq_head?_getD, List.head?_drop, List.getD_eq_getElem?_getD]
  have e2 : (ns.drop i).tail = ns.drop (i + 1) := by rw [List.tail_drop]
  rw [e1, e2]

theorem nameB_size {s : ByteArray} (h : nameB s = true) : s.size ≤ 30 := (of_decide_eq_true h : IsName s).2.1
theorem rising_size {ns : List ByteArray} (h : risingB ns = true) {i : Nat} (hi : i < ns.length) : (ns.getD i ByteArray.empty).size ≤ 30 := nameB_size ((of_decide_eq_true h : IsRising ns) i hi).1
theorem Val.count_sz (d : Nat) : ∀ (v : Val) (n : Nat), v.sz ≤ d → v.count n < 500 → v.count n = n + v.sz := by
  induction d with
  | zero => intro v n hd; rw [Val.sz_eq] at hd; omega
  | succ d ih =>
    intro v n hd h
    rw [Val.count_eq] at h ⊢
    have key : ∀ (xs : List Val) (m : Nat), (∀ x, x ∈ xs → x.sz ≤ d) → m < 500 → Val.countAll xs m < 500 → Val.countAll xs m = m + Val.szAll xs := fun xs => by
      induction xs with
      | nil => intro m _ _ _; simp [Val.countAll, Val.szAll]
      | cons x xs ihx =>
        intro m hm hm5 hc
        simp only [Val.countAll] at hc ⊢
        rw [if_neg (by omega)] at hc ⊢
        have hle := Val.count_le x.sz x m (Nat.le_refl _) hm5
        have hx5 : x.count m < 500 := by
          rcases Nat.lt_or_ge (x.count m) 500 with h' | h'
          · exact h'
          · rw [Val.countAll_ge h'] at hc; exact hc
        rw [ihx _ (fun z hz => hm z (List.mem_cons_of_mem _ hz)) hx5 hc, ih x m (hm x (by simp)) hx5]
        simp only [Val.szAll]
        omega
    have hn : n + 1 < 500 := by
      rcases Nat.lt_or_ge (n + 1) 500 with h' | h'
      · exact h'
      · rw [Val.countAll_ge h'] at h; exact h
    rw [key v.xs (n + 1) (fun x hx => by have := Val.size_mem hx; omega) hn h, Val.sz_eq v]
    omega
theorem fbytes_len (x k : Nat) : (fbytes x k).length = k := by simp [fbytes]
theorem Val.enc_len {w : World} (d : Nat) : ∀ (v : Val) (deep : Nat), v.sz ≤ d → v.rightB deep = true → v.In w → v.enc.length + 50 ≤ 300 * v.sz := by
  induction d with
  | zero => intro v deep hd; rw [Val.sz_eq] at hd; omega
  | succ d ih =>
    intro v deep hd h hin
    have hkk := (Val.kinds_iff v).1 (Val.kinds_of_right v.sz v deep (Nat.le_refl _) h)
    have hzz := zig_lt hin.ok.2.1.1 hin.ok.2.1.2
    have hall : ∀ (b : Bool) (ns : List ByteArray) (xs : List Val), (∀ x, x ∈ xs → x ∈ v.xs ∧ x.rightB (deep + 1) = true) → (b = true → ∀ s, s ∈ ns → s.size ≤ 30) → (Val.encAll b ns xs).length ≤ 300 * Val.szAll xs := fun b ns xs => by
      induction xs generalizing ns with
      | nil => intro _ _; simp [Val.encAll]
      | cons x xs ihx =>
        intro hx hs
        simp only [Val.encAll, Val.szAll, List.length_append]
        have h1 := ih x (deep + 1) (by have := Val.size_mem (hx x (by simp)).1; omega) (hx x (by simp)).2 (((Val.in_iff _ v).1 hin).2.2.2 x (hx x (by simp)).1)
        have h2 := ihx ns.tail (fun z hz => hx z (List.mem_cons_of_mem _ hz)) (fun hb s h => hs hb s (List.mem_of_mem_tail h))
        have h3 : (bif b then strE (ns.headD ByteArray.empty) else []).length ≤ 40 := by
          cases b
          · simp
          · have h4 : (ns.headD ByteArray.empty).size ≤ 30 := by
              cases ns with
              | nil => exact Nat.zero_le _
              | cons s ns => exact hs rfl s (by simp)
            have h5 := ub_len64 (n := (ns.headD ByteArray.empty).size) (by omega)
            have h6 : (ns.headD ByteArray.empty).data.toList.length = (ns.headD ByteArray.empty).size := Array.length_toList
            simp only [cond_true, strE, List.length_append]
            omega
        omega
    rw [Val.rightB_eq] at h
    rw [Val.enc_eq, Val.sz_eq]
    have hub := ub_len64 (n := v.xs.length) (by have := hin.ok.2.2.2.2.2.1; omega)
    have hus := ub_len64 (n := v.s.size) (by have := hin.ok.2.2.2.1; unfold strok at this; omega)
    have huz := ub_len64 hzz
    have hsl : v.s.data.toList.length = v.s.size := Array.length_toList
    by_cases h12 : 12 < deep
    · rw [if_pos h12] at h; cases h
    rw [if_neg h12] at h
    simp only [List.length_cons]
    by_cases h1 : v.k = 1
    · rw [if_pos h1]; simp; omega
    rw [if_neg h1] at h ⊢
    by_cases h2 : v.k = 2
    · rw [if_pos h2]; omega
    rw [if_neg h2] at h ⊢
    by_cases h3 : v.k = 3
    · rw [if_pos h3, fbytes_len]; omega
    rw [if_neg h3] at h ⊢
    by_cases h4 : v.k = 4
    · rw [if_pos h4] at h ⊢
      rw [Bool.and_eq_true, decide_eq_true_eq] at h
      simp only [strE, List.length_append]
      omega
    rw [if_neg h4] at h ⊢
    rw [List.length_append]
    by_cases h5 : v.k = 5
    · rw [if_pos h5, Bool.and_eq_true] at h
      have := hall (decide (v.k = 6)) v.ns v.xs (fun x hx => ⟨hx, rightAll_mem h.2 x hx⟩) (fun hb => by simp [h5] at hb)
      omega
    rw [if_neg h5] at h
    by_cases h6 : v.k = 6
    · rw [if_pos h6, Bool.and_eq_true, Bool.and_eq_true, Bool.and_eq_true] at h
      have := hall (decide (v.k = 6)) v.ns v.xs (fun x hx => ⟨hx, rightAll_mem h.2 x hx⟩) (fun _ s hs => by
        obtain ⟨i, hi, rfl⟩ := List.getElem_of_mem hs
        have := rising_size h.1.1.2 hi
        simpa [hi] using this)
      omega
    exact absurd hkk.1 (by omega)
end Go.Proofs.YtaamihdibpioaaaGreat

/- The code's writer writes a right value's bytes. -/
namespace Go.Proofs.YtaamihdibpioaaaGreat
set_option linter.unusedVariables false
open Go.RowKit


set_option maxHeartbeats 8000000 in
set_option maxRecDepth 100000 in
theorem wvalue_bool1 (v : Val) (deep gb go b : Nat) (l : List UInt8) (w0 w : World) (HP : Hid (PVal w0 gb go v)) (HB : Hid (Below w0.heap.size w0 w)) (h : WB w w0.heap.size b l) (hr : v.rightB deep = true) (hlen : l.length + v.enc.length + 20 ≤ 140737488355328) (HK : Hid (v.k = 1)) :
    Calls Tryz.prog 123 #[.pointer (some ⟨b, 0, none⟩), .pointer (some ⟨gb, go, none⟩)] w fun e w' => NumWrote w0.heap.size b (l ++ v.enc) w e w' := by
  obtain ⟨p4, q4, e4⟩ := HP.out.in.nslice
  obtain ⟨p5, q5, e5⟩ := HP.out.in.xslice
  have HE4 := Lib.hid e4; have HE5 := Lib.hid e5
  have henc := Val.enc_eq v
  rw [HK.out] at henc
  have hbsz := HB.out.size
  clear e4 e5
  have hn : v.n = 0 ∨ v.n = 1 := by
    rw [Val.rightB_eq] at hr
    by_cases h12 : 12 < deep
    · rw [if_pos h12] at hr; cases hr
    · rw [if_neg h12, if_pos HK.out, Bool.and_eq_true, beq_iff_eq] at hr
      omega
  clear hr
  rcases hn with hn | hn
  · have HE : Hid (l ++ v.enc = l ++ [1] ++ [0]) := Lib.hid (by rw [henc, hn]; simp)
    have hl2 : l.length + 3 ≤ 140737488355328 := by rw [henc] at hlen; simp at hlen; omega
    rw [HE.out]
    have HN := Lib.hid hn
    clear henc hlen hn HE
    have c0 := (HP.out.below HB.out).c0
    rw [HK.out] at c0
    have h1 := Lib.hid (wbyte_any w0.heap.size b l 1 w.drew h (by omega) HB.out.size)
    clear h
    go_enter Tryz.func123, Tryz.ntmps123
    go_wp2
    go_still_tail 8, (by kernel_rfl)
    change wpList _ _ _ _ _ w.drew
    go_wp2_with fail
    refine h1.out.mono ?_
    rintro e w2 ⟨rfl, hw2, hb2⟩
    have HB2 := Lib.hid (HB.out.trans ((Below.refl _ w).drew.trans hb2))
    have HW2 := Lib.hid hw2; have HS2 := Lib.hid ((Below.refl w0.heap.size w).drew.trans hb2)
    clear hw2 hb2 h1 c0
    have hq := HP.out.below HB2.out
    have c0 := hq.c0; have c1 := hq.c1; have c2 := hq.c2; have c3 := hq.c3; have c4 := hq.c4; have c5 := hq.c5
    rw [HK.out] at c0
    rw [HE4.out] at c4
    rw [HE5.out] at c5
    clear hq
    rw [HN.out] at c1
    have hs2 := HB2.out.size
    have h2 := Lib.hid (wbyte_any w0.heap.size b (l ++ [1]) 0 w2.drew HW2.out (by simp; omega) HB2.out.size)
    go_wp2
    go_still_tail 8, (by kernel_rfl)
    change wpList _ _ _ _ _ w2.drew
    go_wp2_with fail
    refine h2.out.mono ?_
    rintro e w3 ⟨rfl, hw3, hb3⟩
    have HF := Lib.hid (HS2.out.trans ((Below.refl w0.heap.size w2).drew.trans hb3))
    go_wp2
    first | go_end0 | refine bodyPost_ret (results_none rfl _ _ _) rfl ?_
    exact ⟨rfl, hw3, HF.out⟩
  · have HE : Hid (l ++ v.enc = l ++ [1] ++ [1]) := Lib.hid (by rw [henc, hn]; simp)
    have hl2 : l.length + 3 ≤ 140737488355328 := by rw [henc] at hlen; simp at hlen; omega
    rw [HE.out]
    have HN := Lib.hid hn
    clear henc hlen hn HE
    have c0 := (HP.out.below HB.out).c0
    rw [HK.out] at c0
    have h1 := Lib.hid (wbyte_any w0.heap.size b l 1 w.drew h (by omega) HB.out.size)
    clear h
    go_enter Tryz.func123, Tryz.ntmps123
    go_wp2
    go_still_tail 8, (by kernel_rfl)
    change wpList _ _ _ _ _ w.drew
    go_wp2_with fail
    refine h1.out.mono ?_
    rintro e w2 ⟨rfl, hw2, hb2⟩
    have HB2 := Lib.hid (HB.out.trans ((Below.refl _ w).drew.trans hb2))
    have HW2 := Lib.hid hw2; have HS2 := Lib.hid ((Below.refl w0.heap.size w).drew.trans hb2)
    clear hw2 hb2 h1 c0
    have hq := HP.out.below HB2.out
    have c0 := hq.c0; have c1 := hq.c1; have c2 := hq.c2; have c3 := hq.c3; have c4 := hq.c4; have c5 := hq.c5
    rw [HK.out] at c0
    rw [HE4.out] at c4
    rw [HE5.out] at c5
    clear hq
    rw [HN.out] at c1
    have hs2 := HB2.out.size
    have h2 := Lib.hid (wbyte_any w0.heap.size b (l ++ [1]) 1 w2.drew HW2.out (by simp; omega) HB2.out.size)
    go_wp2
    go_still_tail 8, (by kernel_rfl)
    change wpList _ _ _ _ _ w2.drew
    go_wp2_with fail
    refine h2.out.mono ?_
    rintro e w3 ⟨rfl, hw3, hb3⟩
    have HF := Lib.hid (HS2.out.trans ((Below.refl w0.heap.size w2).drew.trans hb3))
    go_wp2
    first | go_end0 | refine bodyPost_ret (results_none rfl _ _ _) rfl ?_
    exact ⟨rfl, hw3, HF.out⟩

set_option maxHeartbeats 8000000 in
set_option maxRecDepth 100000 in
theorem wvalue_int (v : Val) (deep gb go b : Nat) (l : List UInt8) (w0 w : World) (HP : Hid (PVal w0 gb go v)) (HB : Hid (Below w0.heap.size w0 w)) (h : WB w w0.heap.size b l) (hr : v.rightB deep = true) (hlen : l.length + v.enc.length + 20 ≤ 140737488355328) (HK : Hid (v.k = 2)) :
    Calls Tryz.prog 123 #[.pointer (some ⟨b, 0, none⟩), .pointer (some ⟨gb, go, none⟩)] w fun e w' => NumWrote w0.heap.size b (l ++ v.enc) w e w' := by
  obtain ⟨p4, q4, e4⟩ := HP.out.in.nslice
  obtain ⟨p5, q5, e5⟩ := HP.out.in.xslice
  have HE4 := Lib.hid e4; have HE5 := Lib.hid e5
  have henc := Val.enc_eq v
  rw [HK.out] at henc
  have hbsz := HB.out.size
  clear e4 e5
  have HE : Hid (l ++ v.enc = l ++ [2] ++ ub (zig v.n)) := Lib.hid (by rw [henc]; simp)
  have hz := zig_lt HP.out.in.ok.2.1.1 HP.out.in.ok.2.1.2
  have hu := ub_len64 hz
  have hl2 : l.length + 12 ≤ 140737488355328 := by rw [henc] at hlen; simp at hlen; omega
  rw [HE.out]
  clear henc hlen HE hr hz hu
  have c0 := (HP.out.below HB.out).c0
  rw [HK.out] at c0
  have h1 := Lib.hid (wbyte_any w0.heap.size b l 2 w.drew h (by omega) HB.out.size)
  clear h
  go_enter Tryz.func123, Tryz.ntmps123
  go_wp2
  go_still_tail 8, (by kernel_rfl)
  change wpList _ _ _ _ _ w.drew
  go_wp2_with fail
  refine h1.out.mono ?_
  rintro e w2 ⟨rfl, hw2, hb2⟩
  have HB2 := Lib.hid (HB.out.trans ((Below.refl _ w).drew.trans hb2))
  have HW2 := Lib.hid hw2; have HS2 := Lib.hid ((Below.refl w0.heap.size w).drew.trans hb2)
  clear hw2 hb2 h1 c0
  have hq := HP.out.below HB2.out
  have c0 := hq.c0; have c1 := hq.c1; have c2 := hq.c2; have c3 := hq.c3; have c4 := hq.c4; have c5 := hq.c5
  rw [HK.out] at c0
  rw [HE4.out] at c4
  rw [HE5.out] at c5
  clear hq
  have h2 := Lib.hid (wint_any w0.heap.size b (l ++ [2]) v.n w2 HP.out.in.ok.2.1.1 HP.out.in.ok.2.1.2 HW2.out (by simp; omega) HB2.out.size)
  go_wp2_with fail
  refine h2.out.mono ?_
  rintro e w3 ⟨rfl, hw3, hb3⟩
  have HF := Lib.hid (HS2.out.trans hb3)
  go_wp2
  first | go_end0 | refine bodyPost_ret (results_none rfl _ _ _) rfl ?_
  exact ⟨rfl, hw3, HF.out⟩

set_option maxHeartbeats 8000000 in
set_option maxRecDepth 100000 in
theorem wvalue_float3 (v : Val) (deep gb go b : Nat) (l : List UInt8) (w0 w : World) (HP : Hid (PVal w0 gb go v)) (HB : Hid (Below w0.heap.size w0 w)) (h : WB w w0.heap.size b l) (hr : v.rightB deep = true) (hlen : l.length + v.enc.length + 20 ≤ 140737488355328) (HK : Hid (v.k = 3)) :
    Calls Tryz.prog 123 #[.pointer (some ⟨b, 0, none⟩), .pointer (some ⟨gb, go, none⟩)] w fun e w' => NumWrote w0.heap.size b (l ++ v.enc) w e w' := by
  obtain ⟨p4, q4, e4⟩ := HP.out.in.nslice
  obtain ⟨p5, q5, e5⟩ := HP.out.in.xslice
  have HE4 := Lib.hid e4; have HE5 := Lib.hid e5
  have henc := Val.enc_eq v
  rw [HK.out] at henc
  have hbsz := HB.out.size
  clear e4 e5
  have HE : Hid (l ++ v.enc = l ++ [3] ++ fbytes (fcan v.f) 8) := Lib.hid (by rw [henc]; simp)
  have hl2 : l.length + 12 ≤ 140737488355328 := by rw [henc] at hlen; simp [fbytes_len] at hlen; omega
  have hfl := fcan_lt HP.out.in.ok.2.2.1
  rw [HE.out]
  have HCN := Lib.hid (fun W : World => canon_any v.f W)
  obtain ⟨f, hf⟩ : ∃ f, f = fcan v.f := ⟨_, rfl⟩
  rw [← hf] at hfl ⊢
  simp only [← hf] at HCN
  have hbits := bits_run0 f
  clear henc hlen HE hr hf
  have c0 := (HP.out.below HB.out).c0
  rw [HK.out] at c0
  have h1 := Lib.hid (wbyte_any w0.heap.size b l 3 w.drew h (by omega) HB.out.size)
  clear h
  go_enter Tryz.func123, Tryz.ntmps123
  go_wp2
  go_still_tail 8, (by kernel_rfl)
  change wpList _ _ _ _ _ w.drew
  go_wp2_with fail
  refine h1.out.mono ?_
  rintro e w2 ⟨rfl, hw2, hb2⟩
  have HB2 := Lib.hid (HB.out.trans ((Below.refl _ w).drew.trans hb2))
  have HW2 := Lib.hid hw2; have HS2 := Lib.hid ((Below.refl w0.heap.size w).drew.trans hb2)
  clear hw2 hb2 h1 c0
  have hq := HP.out.below HB2.out
  have c0 := hq.c0; have c1 := hq.c1; have c2 := hq.c2; have c3 := hq.c3; have c4 := hq.c4; have c5 := hq.c5
  rw [HK.out] at c0
  rw [HE4.out] at c4
  rw [HE5.out] at c5
  clear hq
  go_wp2_with (go_at_call 147; refine (HCN.out _).mono ?_; rintro e w' ⟨rfl, rfl⟩)
  go_loopw [5] (fun sv wr => ∃ k : Nat, k ≤ 8 ∧ sv = .int .i64 (56 - 8 * (k : Int)) ∧ Hid (WB wr w0.heap.size b (l ++ [3] ++ fbytes f k)) ∧ Hid (Below w0.heap.size w wr)) (fun sv _ => (intOf sv + 8).toNat)
  case atStart => exact ⟨0, by omega, rfl, by simpa [fbytes] using HW2, HS2⟩
  case round =>
    obtain ⟨k, hk, rfl, HWB, HBL⟩ := hrel
    clear c0 c1 c2 c3 c4 c5
    by_cases hlt : k < 8
    · have hc := wbyte_any w0.heap.size b (l ++ [3] ++ fbytes f k) (fbyte f k) wr.drew HWB.out (by simp [fbytes]; omega) (by have := HBL.out.size; show w0.heap.size ≤ wr.heap.size; omega)
      have HC := Lib.hid hc
      clear hc
      have hge : decide ((0 : Int) ≤ 56 - 8 * (k : Int)) = true := by simp; omega
      have hng : decide ((56 - 8 * (k : Int)) < 0) = false := by simp; omega
      go_wp2_with fail
      go_still_tail 7, (by kernel_rfl)
      change wpList _ _ _ _ _ wr.drew
      go_wp2_with fail
      rw [fbyte_nat f k]
      refine HC.out.mono ?_
      rintro e w3 ⟨rfl, hw3, hb3⟩
      have HW3 := Lib.hid hw3
      have HB3 := Lib.hid ((HBL.out.drew).trans hb3)
      clear hw3 hb3 HC HWB HBL
      go_wp2
      go_roundw
      case rel => exact ⟨k + 1, by omega, by go_num, by rw [fbytes_succ, ← List.append_assoc]; exact HW3, HB3⟩
      case measure => simp [intOf]; omega
    · obtain rfl : k = 8 := by omega
      have hge : decide ((0 : Int) ≤ 56 - 8 * ((8 : Nat) : Int)) = false := by simp
      go_wp2_with fail
      first | go_end0 | refine bodyPost_ret (results_none rfl _ _ _) rfl ?_
      exact ⟨rfl, HWB.out, HBL.out⟩

set_option maxHeartbeats 8000000 in
set_option maxRecDepth 100000 in
theorem wvalue_str (v : Val) (deep gb go b : Nat) (l : List UInt8) (w0 w : World) (HP : Hid (PVal w0 gb go v)) (HB : Hid (Below w0.heap.size w0 w)) (h : WB w w0.heap.size b l) (hr : v.rightB deep = true) (hlen : l.length + v.enc.length + 20 ≤ 140737488355328) (HK : Hid (v.k = 4)) :
    Calls Tryz.prog 123 #[.pointer (some ⟨b, 0, none⟩), .pointer (some ⟨gb, go, none⟩)] w fun e w' => NumWrote w0.heap.size b (l ++ v.enc) w e w' := by
  obtain ⟨p4, q4, e4⟩ := HP.out.in.nslice
  obtain ⟨p5, q5, e5⟩ := HP.out.in.xslice
  have HE4 := Lib.hid e4; have HE5 := Lib.hid e5
  have henc := Val.enc_eq v
  rw [HK.out] at henc
  have hbsz := HB.out.size
  clear e4 e5
  have HE : Hid (l ++ v.enc = l ++ [4] ++ ub v.s.size ++ v.s.data.toList) := Lib.hid (by rw [henc]; simp [strE])
  have hso := HP.out.in.ok.2.2.2.1
  unfold strok at hso
  have hsl : v.s.data.toList.length = v.s.size := Array.length_toList
  have hub : 1 ≤ (ub v.s.size).length := by
    have := ub_ne v.s.size
    rcases h0 : ub v.s.size with _ | ⟨a, m⟩
    · exact absurd h0 this
    · simp
  have hl2 : l.length + 12 + v.s.size ≤ 140737488355328 := by rw [henc] at hlen; simp [strE] at hlen; omega
  rw [HE.out]
  clear henc hlen HE hr hsl hub
  have c0 := (HP.out.below HB.out).c0
  rw [HK.out] at c0
  have h1 := Lib.hid (wbyte_any w0.heap.size b l 4 w.drew h (by omega) HB.out.size)
  clear h
  go_enter Tryz.func123, Tryz.ntmps123
  go_wp2
  go_still_tail 8, (by kernel_rfl)
  change wpList _ _ _ _ _ w.drew
  go_wp2_with fail
  refine h1.out.mono ?_
  rintro e w2 ⟨rfl, hw2, hb2⟩
  have HB2 := Lib.hid (HB.out.trans ((Below.refl _ w).drew.trans hb2))
  have HW2 := Lib.hid hw2; have HS2 := Lib.hid ((Below.refl w0.heap.size w).drew.trans hb2)
  clear hw2 hb2 h1 c0
  have hq := HP.out.below HB2.out
  have c0 := hq.c0; have c1 := hq.c1; have c2 := hq.c2; have c3 := hq.c3; have c4 := hq.c4; have c5 := hq.c5
  rw [HK.out] at c0
  rw [HE4.out] at c4
  rw [HE5.out] at c5
  clear hq
  have h2 := Lib.hid (wstrw_any w0.heap.size b (l ++ [4]) v.s w2 hso HW2.out (by simp; omega) HB2.out.size)
  go_wp2_with fail
  refine h2.out.mono ?_
  rintro e w3 ⟨rfl, hw3, hb3⟩
  have HF := Lib.hid (HS2.out.trans hb3)
  go_wp2
  first | go_end0 | refine bodyPost_ret (results_none rfl _ _ _) rfl ?_
  exact ⟨rfl, hw3, HF.out⟩

set_option maxHeartbeats 8000000 in
set_option maxRecDepth 100000 in
theorem wvalue_list (v : Val) (deep gb go b : Nat) (l : List UInt8) (w0 w : World) (HP : Hid (PVal w0 gb go v)) (HB : Hid (Below w0.heap.size w0 w)) (h : WB w w0.heap.size b l) (hr : v.rightB deep = true) (hlen : l.length + v.enc.length + 20 ≤ 140737488355328) (HK : Hid (v.k = 5))
    (HIH : Hid (∀ (x : Val) (gb go b : Nat) (l : List UInt8) (w : World), x ∈ v.xs → PVal w0 gb go x → Below w0.heap.size w0 w → WB w w0.heap.size b l → x.rightB (deep + 1) = true → l.length + x.enc.length + 20 ≤ 140737488355328 →
      Calls Tryz.prog 123 #[.pointer (some ⟨b, 0, none⟩), .pointer (some ⟨gb, go, none⟩)] w fun e w' => NumWrote w0.heap.size b (l ++ x.enc) w e w')) :
    Calls Tryz.prog 123 #[.pointer (some ⟨b, 0, none⟩), .pointer (some ⟨gb, go, none⟩)] w fun e w' => NumWrote w0.heap.size b (l ++ v.enc) w e w' := by
  obtain ⟨p4, q4, e4, hn4⟩ := names_in (NamesAt.of HP.out.in)
  have HN4 := Lib.hid hn4
  obtain ⟨p5, q5, e5, hx5⟩ := items_at HP.out.in
  have HX5 := Lib.hid hx5
  have HE4 := Lib.hid e4; have HE5 := Lib.hid e5
  have henc := Val.enc_eq v
  rw [HK.out] at henc
  have hbsz := HB.out.size
  clear e4 e5 hx5 hn4
  have hrr : (∀ x, x ∈ v.xs → x.rightB (deep + 1) = true) := by
    rw [Val.rightB_eq] at hr
    by_cases h12 : 12 < deep
    · rw [if_pos h12] at hr; cases hr
    · rw [if_neg h12, if_neg (by rw [HK.out]; decide), if_neg (by rw [HK.out]; decide), if_neg (by rw [HK.out]; decide), if_neg (by rw [HK.out]; decide), if_pos HK.out] at hr
      simp only [Bool.and_eq_true, decide_eq_true_eq] at hr
      exact fun x hx => rightAll_mem hr.2 x hx
  have HRR := Lib.hid hrr
  have HE : Hid (l ++ v.enc = l ++ [5] ++ ub v.xs.length ++ Val.encAll false v.ns v.xs) := Lib.hid (by rw [henc]; simp)
  have hxl := HP.out.in.ok.2.2.2.2.2.1
  have hub := ub_len64 (n := v.xs.length) (by omega)
  have htot : (l ++ v.enc).length + 20 ≤ 140737488355328 := by rw [List.length_append]; omega
  have HTOT := Lib.hid htot
  have hub1 : 1 ≤ (ub v.xs.length).length := by
    have := ub_ne v.xs.length
    rcases h0 : ub v.xs.length with _ | ⟨a, m⟩
    · exact absurd h0 this
    · simp
  have hl2 : l.length + 12 ≤ 140737488355328 := by rw [henc] at hlen; simp at hlen; omega
  obtain ⟨T, hT⟩ : ∃ T, T = l ++ v.enc := ⟨_, rfl⟩
  rw [← hT] at HE HTOT ⊢
  obtain ⟨M, hM⟩ : ∃ M, M = v.xs.length := ⟨_, rfl⟩
  rw [← hM] at hxl HE HE5
  have HM := Lib.hid hM
  have hcv : IntKind.u64.wrap (M : Int) = M := by rw [IntKind.wrap_u64]; omega
  rw [← HM.out] at hub hub1
  clear henc hlen hr hrr htot hT hM
  have c0 := (HP.out.below HB.out).c0
  rw [HK.out] at c0
  have h1 := Lib.hid (wbyte_any w0.heap.size b l 5 w.drew h (by omega) HB.out.size)
  clear h
  go_enter Tryz.func123, Tryz.ntmps123
  go_wp2
  go_still_tail 8, (by kernel_rfl)
  change wpList _ _ _ _ _ w.drew
  go_wp2_with fail
  refine h1.out.mono ?_
  rintro e w2 ⟨rfl, hw2, hb2⟩
  have HB2 := Lib.hid (HB.out.trans ((Below.refl _ w).drew.trans hb2))
  have HW2 := Lib.hid hw2; have HS2 := Lib.hid ((Below.refl w0.heap.size w).drew.trans hb2)
  clear hw2 hb2 h1 c0
  have hq := HP.out.below HB2.out
  have c0 := hq.c0; have c1 := hq.c1; have c2 := hq.c2; have c3 := hq.c3; have c4 := hq.c4; have c5 := hq.c5
  rw [HK.out] at c0
  rw [HE4.out] at c4
  rw [← HM.out, HE5.out] at c5
  clear hq
  have h2 := Lib.hid (wuint_any w0.heap.size b (l ++ [5]) M w2 (by omega) HW2.out (by simp; omega) HB2.out.size)
  go_wp2_with fail
  refine h2.out.mono ?_
  rintro e w3 ⟨rfl, hw3, hb3⟩
  have HB3 := Lib.hid (HB2.out.trans hb3); have HS3 := Lib.hid (HS2.out.trans hb3); have HW3 := Lib.hid hw3
  clear hw3 hb3 h2 HB2 HS2 HW2 c0 c1 c2 c3 c4 c5
  have hq := HP.out.below HB3.out
  have c5 := hq.c5
  rw [← HM.out, HE5.out] at c5
  clear hq
  go_wp2_with fail
  clear c5
  go_loopw [33] (fun iv wr => ∃ (i : Nat) (m : List UInt8), iv = .int .i64 (i : Int) ∧ i ≤ M ∧ Hid (m ++ Val.encAll false (v.ns.drop i) (v.xs.drop i) = T) ∧ Hid (WB wr w0.heap.size b m) ∧ Hid (Below w0.heap.size w0 wr) ∧ Hid (Below w0.heap.size w wr)) (fun iv _ => M - (intOf iv).toNat)
  case atStart => exact ⟨0, _, rfl, by omega, Lib.hid (by rw [HE.out]; rfl), HW3, HB3, HS3⟩
  case round =>
    obtain ⟨i, m, rfl, hi, HMT, HWM, HBM, HSM⟩ := hrel
    by_cases hlt : i < M
    · have hil : i < v.xs.length := by rw [← HM.out]; exact hlt
      obtain ⟨xb, xo, rfl, hpx, hlc⟩ := HX5.out i hil
      rw [← HM.out] at hlc
      have hst := HMT.out
      rw [encAll_step hil] at hst
      have hxm : v.xs[i]'hil ∈ v.xs := by simp
      obtain ⟨x, hx⟩ : ∃ x, x = v.xs[i]'hil := ⟨_, rfl⟩
      rw [← hx] at hpx hst hxm
      have hk0 : (0 : Int) ≤ (i : Int) := by omega
      have hk1 : (i : Int) < (M : Int) := by omega
      have hq := HP.out.below HBM.out
      have c0 := hq.c0; have c4 := hq.c4; have c5 := hq.c5
      rw [HK.out] at c0
      rw [HE4.out] at c4
      rw [← HM.out, HE5.out] at c5
      have hlen := HTOT.out
      simp only [cond_false, List.nil_append] at hst
      have hc := HIH.out x xb (xo + i * 6) b m wr hxm hpx HBM.out HWM.out (HRR.out x hxm) (by rw [← hst] at hlen; simp only [List.length_append] at hlen; omega)
      have HC := Lib.hid hc; have HST := Lib.hid hst
      clear hil hx hpx hxm hq hlen hc hst HMT
      go_wp2_with fail
      refine HC.out.mono ?_
      rintro e w4 ⟨rfl, hw4, hb4⟩
      have HR : Hid (m ++ x.enc ++ Val.encAll false (v.ns.drop (i + 1)) (v.xs.drop (i + 1)) = T) := Lib.hid (by rw [← HST.out, List.append_assoc])
      have HW4 := Lib.hid hw4; have HB4 := Lib.hid (HBM.out.trans hb4); have HS4 := Lib.hid (HSM.out.trans hb4)
      clear hw4 hb4 HC HST HWM HBM HSM c0 c4 c5
      go_wp2
      exact ⟨⟨i + 1, _, by go_num, by omega, HR, HW4, HB4, HS4⟩, by simp [intOf]; omega⟩
    · have hT : m = T := by rw [← HMT.out, show v.xs.drop i = [] from List.drop_eq_nil_of_le (by rw [← HM.out]; omega)]; simp [Val.encAll]
      have HW5 := Lib.hid (show WB wr w0.heap.size b T by rw [← hT]; exact HWM.out)
      clear hT
      go_wp2_with fail
      first | go_end0 | refine bodyPost_ret (results_none rfl _ _ _) rfl ?_
      exact ⟨rfl, HW5.out, HSM.out⟩

set_option maxHeartbeats 8000000 in
set_option maxRecDepth 100000 in
theorem wvalue_rec (v : Val) (deep gb go b : Nat) (l : List UInt8) (w0 w : World) (HP : Hid (PVal w0 gb go v)) (HB : Hid (Below w0.heap.size w0 w)) (h : WB w w0.heap.size b l) (hr : v.rightB deep = true) (hlen : l.length + v.enc.length + 20 ≤ 140737488355328) (HK : Hid (v.k = 6))
    (HIH : Hid (∀ (x : Val) (gb go b : Nat) (l : List UInt8) (w : World), x ∈ v.xs → PVal w0 gb go x → Below w0.heap.size w0 w → WB w w0.heap.size b l → x.rightB (deep + 1) = true → l.length + x.enc.length + 20 ≤ 140737488355328 →
      Calls Tryz.prog 123 #[.pointer (some ⟨b, 0, none⟩), .pointer (some ⟨gb, go, none⟩)] w fun e w' => NumWrote w0.heap.size b (l ++ x.enc) w e w')) :
    Calls Tryz.prog 123 #[.pointer (some ⟨b, 0, none⟩), .pointer (some ⟨gb, go, none⟩)] w fun e w' => NumWrote w0.heap.size b (l ++ v.enc) w e w' := by
  obtain ⟨p4, q4, e4, hn4⟩ := names_in (NamesAt.of HP.out.in)
  have HN4 := Lib.hid hn4
  obtain ⟨p5, q5, e5, hx5⟩ := items_at HP.out.in
  have HX5 := Lib.hid hx5
  have HE4 := Lib.hid e4; have HE5 := Lib.hid e5
  have henc := Val.enc_eq v
  rw [HK.out] at henc
  have hbsz := HB.out.size
  clear e4 e5 hx5 hn4
  have hrr : (∀ x, x ∈ v.xs → x.rightB (deep + 1) = true) ∧ v.ns.length = v.xs.length ∧ (∀ i, i < v.ns.length → (v.ns.getD i ByteArray.empty).size ≤ 30) := by
    rw [Val.rightB_eq] at hr
    by_cases h12 : 12 < deep
    · rw [if_pos h12] at hr; cases hr
    · rw [if_neg h12, if_neg (by rw [HK.out]; decide), if_neg (by rw [HK.out]; decide), if_neg (by rw [HK.out]; decide), if_neg (by rw [HK.out]; decide), if_neg (by rw [HK.out]; decide), if_pos HK.out] at hr
      simp only [Bool.and_eq_true, decide_eq_true_eq] at hr
      exact ⟨fun x hx => rightAll_mem hr.2 x hx, hr.1.1.1, fun i hi => rising_size hr.1.1.2 hi⟩
  have HRR := Lib.hid hrr
  have HE : Hid (l ++ v.enc = l ++ [6] ++ ub v.xs.length ++ Val.encAll true v.ns v.xs) := Lib.hid (by rw [henc]; simp)
  have hxl := HP.out.in.ok.2.2.2.2.2.1
  have hub := ub_len64 (n := v.xs.length) (by omega)
  have htot : (l ++ v.enc).length + 20 ≤ 140737488355328 := by rw [List.length_append]; omega
  have HTOT := Lib.hid htot
  have hub1 : 1 ≤ (ub v.xs.length).length := by
    have := ub_ne v.xs.length
    rcases h0 : ub v.xs.length with _ | ⟨a, m⟩
    · exact absurd h0 this
    · simp
  have hl2 : l.length + 12 ≤ 140737488355328 := by rw [henc] at hlen; simp at hlen; omega
  obtain ⟨T, hT⟩ : ∃ T, T = l ++ v.enc := ⟨_, rfl⟩
  rw [← hT] at HE HTOT ⊢
  obtain ⟨M, hM⟩ : ∃ M, M = v.xs.length := ⟨_, rfl⟩
  rw [← hM] at hxl HE HE5
  have hLM : v.ns.length = M := by rw [hM]; exact hrr.2.1
  have HLM := Lib.hid hLM
  clear hLM
  have HM := Lib.hid hM
  have hcv : IntKind.u64.wrap (M : Int) = M := by rw [IntKind.wrap_u64]; omega
  rw [← HM.out] at hub hub1
  clear henc hlen hr hrr htot hT hM
  have c0 := (HP.out.below HB.out).c0
  rw [HK.out] at c0
  have h1 := Lib.hid (wbyte_any w0.heap.size b l 6 w.drew h (by omega) HB.out.size)
  clear h
  go_enter Tryz.func123, Tryz.ntmps123
  go_wp2
  go_still_tail 8, (by kernel_rfl)
  change wpList _ _ _ _ _ w.drew
  go_wp2_with fail
  refine h1.out.mono ?_
  rintro e w2 ⟨rfl, hw2, hb2⟩
  have HB2 := Lib.hid (HB.out.trans ((Below.refl _ w).drew.trans hb2))
  have HW2 := Lib.hid hw2; have HS2 := Lib.hid ((Below.refl w0.heap.size w).drew.trans hb2)
  clear hw2 hb2 h1 c0
  have hq := HP.out.below HB2.out
  have c0 := hq.c0; have c1 := hq.c1; have c2 := hq.c2; have c3 := hq.c3; have c4 := hq.c4; have c5 := hq.c5
  rw [HK.out] at c0
  rw [HE4.out] at c4
  rw [← HM.out, HE5.out] at c5
  clear hq
  have h2 := Lib.hid (wuint_any w0.heap.size b (l ++ [6]) M w2 (by omega) HW2.out (by simp; omega) HB2.out.size)
  go_wp2_with fail
  refine h2.out.mono ?_
  rintro e w3 ⟨rfl, hw3, hb3⟩
  have HB3 := Lib.hid (HB2.out.trans hb3); have HS3 := Lib.hid (HS2.out.trans hb3); have HW3 := Lib.hid hw3
  clear hw3 hb3 h2 HB2 HS2 HW2 c0 c1 c2 c3 c4 c5
  have hq := HP.out.below HB3.out
  have c5 := hq.c5
  rw [← HM.out, HE5.out] at c5
  clear hq
  go_wp2_with fail
  clear c5
  go_loopw [33] (fun iv wr => ∃ (i : Nat) (m : List UInt8), iv = .int .i64 (i : Int) ∧ i ≤ M ∧ Hid (m ++ Val.encAll true (v.ns.drop i) (v.xs.drop i) = T) ∧ Hid (WB wr w0.heap.size b m) ∧ Hid (Below w0.heap.size w0 wr) ∧ Hid (Below w0.heap.size w wr)) (fun iv _ => M - (intOf iv).toNat)
  case atStart => exact ⟨0, _, rfl, by omega, Lib.hid (by rw [HE.out]; rfl), HW3, HB3, HS3⟩
  case round =>
    obtain ⟨i, m, rfl, hi, HMT, HWM, HBM, HSM⟩ := hrel
    by_cases hlt : i < M
    · have hil : i < v.xs.length := by rw [← HM.out]; exact hlt
      obtain ⟨xb, xo, rfl, hpx, hlc⟩ := HX5.out i hil
      rw [← HM.out] at hlc
      have hst := HMT.out
      rw [encAll_step hil] at hst
      have hxm : v.xs[i]'hil ∈ v.xs := by simp
      obtain ⟨x, hx⟩ : ∃ x, x = v.xs[i]'hil := ⟨_, rfl⟩
      rw [← hx] at hpx hst hxm
      have hk0 : (0 : Int) ≤ (i : Int) := by omega
      have hk1 : (i : Int) < (M : Int) := by omega
      have hq := HP.out.below HBM.out
      have c0 := hq.c0; have c4 := hq.c4; have c5 := hq.c5
      rw [HK.out] at c0
      rw [HE4.out] at c4
      rw [← HM.out, HE5.out] at c5
      have hlen := HTOT.out
      simp only [cond_true] at hst
      obtain ⟨nb, no, rfl, hnb, hnc, hncl⟩ := HN4.out i (by rw [HLM.out]; exact hlt)
      obtain ⟨s, hs⟩ : ∃ s, s = v.ns.getD i ByteArray.empty := ⟨_, rfl⟩
      have hs30 : s.size ≤ 30 := by rw [hs]; exact HRR.out.2.2 i (by rw [HLM.out]; exact hlt)
      rw [← hs] at hnc hst
      rw [HLM.out] at hncl
      have hnw : wr.cell? ⟨nb, no + i, none⟩ = some (.string s) := (HBM.out.cell (p := ⟨nb, no + i, none⟩) hnb).trans hnc
      rw [HLM.out] at c4
      have hsl : s.data.toList.length = s.size := Array.length_toList
      have hus := ub_len64 (n := s.size) (by omega)
      have hlm : m.length + (strE s).length + x.enc.length + 20 ≤ 140737488355328 := by rw [← hst] at hlen; simp only [List.length_append] at hlen; omega
      have hlm1 : m.length + 20 ≤ 140737488355328 := by omega
      have hls : (strE s).length ≤ 40 := by simp only [strE, List.length_append]; omega
      have hus1 : 1 ≤ (ub s.size).length := by
        have := ub_ne s.size
        rcases h0 : ub s.size with _ | ⟨a, m⟩
        · exact absurd h0 this
        · simp
      have hlm2 : m.length + 10 + s.size ≤ 140737488355328 := by simp only [strE, List.length_append] at hlm; omega
      have h5 := Lib.hid (wstrw_any w0.heap.size b m s wr (by omega) HWM.out hlm2 HBM.out.size)
      have HC := Lib.hid (fun (W : World) (hb : Below w0.heap.size w0 W) (hw : WB W w0.heap.size b (m ++ ub s.size ++ s.data.toList)) => HIH.out x xb (xo + i * 6) b _ W hxm hpx hb hw (HRR.out.1 x hxm) (by simp only [List.length_append] at hlm ⊢; simp only [strE, List.length_append] at hlm; omega))
      have HST := Lib.hid hst
      clear hil hx hpx hxm hq hlen hst HMT hs hsl hus hlm hls hus1 hlm2 hnc
      go_wp2_with fail
      refine h5.out.mono ?_
      rintro e w4 ⟨rfl, hw4, hb4⟩
      have HB4 := Lib.hid (HBM.out.trans hb4); have HS4 := Lib.hid (HSM.out.trans hb4)
      have HC4 := Lib.hid (HC.out w4 HB4.out hw4)
      have hq := HP.out.below HB4.out
      clear c0 c4 c5 hw4 hb4 h5 HC HWM HBM HSM hnw
      have c5 := hq.c5
      rw [← HM.out, HE5.out] at c5
      clear hq
      go_wp2_with fail
      refine HC4.out.mono ?_
      rintro e w5 ⟨rfl, hw5, hb5⟩
      have HR : Hid (m ++ ub s.size ++ s.data.toList ++ x.enc ++ Val.encAll true (v.ns.drop (i + 1)) (v.xs.drop (i + 1)) = T) := Lib.hid (by rw [← HST.out]; simp only [strE, List.append_assoc])
      have HW5 := Lib.hid hw5; have HB5 := Lib.hid (HB4.out.trans hb5); have HS5 := Lib.hid (HS4.out.trans hb5)
      clear hw5 hb5 HC4 HST HB4 HS4 c5
      go_wp2
      exact ⟨⟨i + 1, _, by go_num, by omega, HR, HW5, HB5, HS5⟩, by simp [intOf]; omega⟩
    · have hT : m = T := by rw [← HMT.out, show v.xs.drop i = [] from List.drop_eq_nil_of_le (by rw [← HM.out]; omega)]; simp [Val.encAll]
      have HW5 := Lib.hid (show WB wr w0.heap.size b T by rw [← hT]; exact HWM.out)
      clear hT
      go_wp2_with fail
      first | go_end0 | refine bodyPost_ret (results_none rfl _ _ _) rfl ?_
      exact ⟨rfl, HW5.out, HSM.out⟩

theorem wvalue_any (w0 : World) (d : Nat) : ∀ (v : Val) (deep gb go b : Nat) (l : List UInt8) (w : World), v.sz ≤ d → PVal w0 gb go v → Below w0.heap.size w0 w → WB w w0.heap.size b l → v.rightB deep = true → l.length + v.enc.length + 20 ≤ 140737488355328 →
    Calls Tryz.prog 123 #[.pointer (some ⟨b, 0, none⟩), .pointer (some ⟨gb, go, none⟩)] w fun e w' => NumWrote w0.heap.size b (l ++ v.enc) w e w' := by
  induction d with
  | zero => intro v deep gb go b l w hd; rw [Val.sz_eq] at hd; omega
  | succ d ih =>
    intro v deep gb go b l w hd hp hb h hr hlen
    have hkk := ((Val.kinds_iff v).1 (Val.kinds_of_right v.sz v deep (Nat.le_refl _) hr)).1
    have hih : ∀ (x : Val) (gb go b : Nat) (l : List UInt8) (w : World), x ∈ v.xs → PVal w0 gb go x → Below w0.heap.size w0 w → WB w w0.heap.size b l → x.rightB (deep + 1) = true → l.length + x.enc.length + 20 ≤ 140737488355328 →
      Calls Tryz.prog 123 #[.pointer (some ⟨b, 0, none⟩), .pointer (some ⟨gb, go, none⟩)] w fun e w' => NumWrote w0.heap.size b (l ++ x.enc) w e w' := fun x gb go b l w hx => ih x (deep + 1) gb go b l w (by have := Val.size_mem hx; omega)
    rcases (by omega : v.k = 1 ∨ v.k = 2 ∨ v.k = 3 ∨ v.k = 4 ∨ v.k = 5 ∨ v.k = 6) with hk | hk | hk | hk | hk | hk
    · exact wvalue_bool1 v deep gb go b l w0 w hp hb h hr hlen hk
    · exact wvalue_int v deep gb go b l w0 w hp hb h hr hlen hk
    · exact wvalue_float3 v deep gb go b l w0 w hp hb h hr hlen hk
    · exact wvalue_str v deep gb go b l w0 w hp hb h hr hlen hk
    · exact wvalue_list v deep gb go b l w0 w hp hb h hr hlen hk hih
    · exact wvalue_rec v deep gb go b l w0 w hp hb h hr hlen hk hih
end Go.Proofs.YtaamihdibpioaaaGreat
