/- The document's TypeRight; the bytes of a type. -/
import Derived.Test.YtemhinagajfemaaConeM43
import Derived.Test.YtemhinagajfemaaConeM45
namespace Go.Proofs.Ytemhinagajfemaa
set_option linter.unusedVariables false
open Go.RowKit

set_option maxHeartbeats 4000000 in
theorem rtrightf_any (v : Ty) (w : World) (h : v.In w) : Calls Try.prog 35 #[v.agg] w fun e w' => BoolBelow v.RightB w e w' := by
  obtain ⟨W, hW⟩ : ∃ W, W = w.alloc (.cells v.cells.toArray 61) := ⟨_, rfl⟩
  have hBW : Below w.heap.size w W := by rw [hW]; exact (Below.refl _ w).alloc (Nat.le_refl _) _
  have hb0 : Blk W w.heap.size 61 v.cells.toArray := by rw [hW]; exact Blk.new w 61 _
  obtain ⟨p4, q4, e4⟩ := h.nslice
  obtain ⟨p5, q5, e5⟩ := h.xslice
  have hp := rtparts_any v W (h.below hBW)
  have hc := fun (W' : World) (hb : Below W.heap.size W W') => rtright_any v.sz v 12 W' (Nat.le_refl _) (by omega) ((h.below hBW).below hb)
  have hcl := Ty.count_le v.sz v 0 (Nat.le_refl _) (by omega)
  obtain ⟨C, hC⟩ : ∃ C, C = v.count 0 := ⟨_, rfl⟩
  have hR : v.RightB = (decide (C ≤ 200) && v.rightB 1) := by rw [hC]; rfl
  rw [← hC] at hcl hp
  unfold Ty.cells at hW hb0
  unfold Ty.agg at hc hp ⊢
  rw [e4, e5] at hW hc hp hb0 ⊢
  obtain ⟨hcl1, hcl2⟩ := hcl
  have HR := Lib.hid hR
  have HW := Lib.hid hW; have HBW := Lib.hid hBW; have HC := Lib.hid hc; have HP := Lib.hid hp; have HB0 := Lib.hid hb0
  have a0 := hb0.cell 0; have a1 := hb0.cell 1; have a2 := hb0.cell 2
  simp only [List.getElem?_toArray, List.getElem?_cons_zero, List.getElem?_cons_succ] at a0 a1 a2
  have hlt := hb0.lt
  clear hW hBW hc hp e4 e5 h hC hb0 hR
  by_cases hd : C ≤ 200
  · have t1 : decide ((C : Int) ≤ 200) = true := by simp; omega
    have HE : Hid (v.RightB = v.rightB 1) := Lib.hid (by rw [HR.out]; simp [hd])
    clear HR
    go_enter Try.func35, Try.ntmps35
    go_wp2_with fail
    rw [← HW.out]
    refine HP.out.mono ?_
    rintro e w1 ⟨rfl, hb1⟩
    have HB1 := Lib.hid hb1
    have hb2 := HB0.out.below hb1 HB0.out.lt
    clear a0 a1 a2
    have a0 := hb2.cell 0; have a1 := hb2.cell 1; have a2 := hb2.cell 2
    simp only [List.getElem?_toArray, List.getElem?_cons_zero, List.getElem?_cons_succ] at a0 a1 a2
    clear hb1 hb2 HP
    go_wp2_with fail
    refine (HC.out _ HB1.out).mono ?_
    rintro e w2 ⟨rfl, hb2⟩
    have HB2 := Lib.hid (HBW.out.trans ((HB1.out.mono HBW.out.size).trans (hb2.mono (Nat.le_trans HBW.out.size HB1.out.size))))
    clear hb2
    go_wp2
    go_ret
    exact ⟨by rw [HE.out]; rfl, HB2.out⟩
  · have t1 : decide ((C : Int) ≤ 200) = false := by simp; omega
    have HE : Hid (v.RightB = false) := Lib.hid (by rw [HR.out]; simp [hd])
    clear HR
    go_enter Try.func35, Try.ntmps35
    go_wp2_with fail
    rw [← HW.out]
    refine HP.out.mono ?_
    rintro e w1 ⟨rfl, hb1⟩
    have HB1 := Lib.hid (HBW.out.trans (hb1.mono HBW.out.size))
    clear hb1
    go_wp2
    go_ret
    exact ⟨by rw [HE.out]; rfl, HB1.out⟩

mutual
/-- A type's bytes. -/
def Ty.enc : Ty → List UInt8
  | .mk k _ ns _ xs => UInt8.ofNat k.toNat :: ((if k = 6 then ub xs.length else []) ++ Ty.encAll (decide (k = 6)) ns xs)
def Ty.encAll : Bool → List ByteArray → List Ty → List UInt8
  | _, _, [] => []
  | b, ns, x :: xs => (bif b then strE (ns.headD ByteArray.empty) else []) ++ (x.enc ++ Ty.encAll b ns.tail xs)
end
theorem Ty.enc_eq (v : Ty) : v.enc = UInt8.ofNat v.k.toNat :: ((if v.k = 6 then ub v.xs.length else []) ++ Ty.encAll (decide (v.k = 6)) v.ns v.xs) := by
  cases v
  simp only [Ty.enc, Ty.k, Ty.ns, Ty.xs]
  rfl
theorem Ty.enc_ne (v : Ty) : v.enc ≠ [] := by rw [Ty.enc_eq]; simp
theorem tencAll_step {b : Bool} {ns : List ByteArray} {xs : List Ty} {i : Nat} (h : i < xs.length) : Ty.encAll b (ns.drop i) (xs.drop i) = (bif b then strE (ns.getD i ByteArray.empty) else []) ++ ((xs[i]'h).enc ++ Ty.encAll b (ns.drop (i + 1)) (xs.drop (i + 1))) := by
  rw [drop_cons h]
  simp only [Ty.encAll]
  have e1 : (ns.drop i).headD ByteArray.empty = ns.getD i ByteArray.empty := by
    rw [List.headD_eq_head?_getD, List.head?_drop, List.getD_eq_getElem?_getD]
  have e2 : (ns.drop i).tail = ns.drop (i + 1) := by rw [List.tail_drop]
  rw [e1, e2]

theorem Ty.count_sz (d : Nat) : ∀ (v : Ty) (n : Nat), v.sz ≤ d → v.count n < 500 → v.count n = n + v.sz := by
  induction d with
  | zero => intro v n hd; rw [Ty.sz_eq] at hd; omega
  | succ d ih =>
    intro v n hd h
    rw [Ty.count_eq] at h ⊢
    have key : ∀ (xs : List Ty) (m : Nat), (∀ x, x ∈ xs → x.sz ≤ d) → m < 500 → Ty.countAll xs m < 500 → Ty.countAll xs m = m + Ty.szAll xs := fun xs => by
      induction xs with
      | nil => intro m _ _ _; simp [Ty.countAll, Ty.szAll]
      | cons x xs ihx =>
        intro m hm hm5 hc
        simp only [Ty.countAll] at hc ⊢
        rw [if_neg (by omega)] at hc ⊢
        have hle := Ty.count_le x.sz x m (Nat.le_refl _) hm5
        have hx5 : x.count m < 500 := by
          rcases Nat.lt_or_ge (x.count m) 500 with h' | h'
          · exact h'
          · rw [Ty.countAll_ge h'] at hc; exact hc
        rw [ihx _ (fun z hz => hm z (List.mem_cons_of_mem _ hz)) hx5 hc, ih x m (hm x (by simp)) hx5]
        simp only [Ty.szAll]
        omega
    have hn : n + 1 < 500 := by
      rcases Nat.lt_or_ge (n + 1) 500 with h' | h'
      · exact h'
      · rw [Ty.countAll_ge h'] at h; exact h
    rw [key v.xs (n + 1) (fun x hx => by have := Ty.size_mem hx; omega) hn h, Ty.sz_eq v]
    omega
theorem Ty.right_kinds {v : Ty} {deep : Nat} (h : v.rightB deep = true) : 1 ≤ v.k ∧ v.k ≤ 7 := by
  rw [Ty.rightB_eq] at h
  by_cases h12 : 12 < deep
  · rw [if_pos h12] at h; cases h
  rw [if_neg h12] at h
  by_cases h5 : v.k = 5
  · omega
  rw [if_neg h5] at h
  by_cases h6 : v.k = 6
  · omega
  rw [if_neg h6] at h
  by_cases h7 : 1 ≤ v.k ∧ v.k ≤ 7
  · exact h7
  · rw [if_neg h7] at h; cases h
/-- What a right type's items and names are. -/
theorem Ty.right_parts {v : Ty} {deep : Nat} (h : v.rightB deep = true) : (∀ x, x ∈ v.xs → x.rightB (deep + 1) = true) ∧ (v.k = 6 → v.ns.length = v.xs.length ∧ ∀ s, s ∈ v.ns → s.size ≤ 30) := by
  rw [Ty.rightB_eq] at h
  by_cases h12 : 12 < deep
  · rw [if_pos h12] at h; cases h
  rw [if_neg h12] at h
  by_cases h5 : v.k = 5
  · rw [if_pos h5, Bool.and_eq_true, Bool.and_eq_true] at h
    exact ⟨trightAll_mem h.2, fun h6 => by omega⟩
  rw [if_neg h5] at h
  by_cases h6 : v.k = 6
  · rw [if_pos h6, Bool.and_eq_true, Bool.and_eq_true, decide_eq_true_eq] at h
    refine ⟨trightAll_mem h.2, fun _ => ⟨h.1.1, fun s hs => ?_⟩⟩
    obtain ⟨i, hi, rfl⟩ := List.getElem_of_mem hs
    have := rising_size h.1.2 hi
    simpa [hi] using this
  rw [if_neg h6] at h
  by_cases h7 : 1 ≤ v.k ∧ v.k ≤ 7
  · rw [if_pos h7, Bool.and_eq_true, decide_eq_true_eq, decide_eq_true_eq] at h
    refine ⟨fun x hx => ?_, fun h => absurd h h6⟩
    rw [List.eq_nil_of_length_eq_zero h.2] at hx
    simp at hx
  · rw [if_neg h7] at h; cases h
theorem Ty.enc_len {w : World} (d : Nat) : ∀ (v : Ty) (deep : Nat), v.sz ≤ d → v.rightB deep = true → v.In w → v.enc.length + 50 ≤ 300 * v.sz := by
  induction d with
  | zero => intro v deep hd; rw [Ty.sz_eq] at hd; omega
  | succ d ih =>
    intro v deep hd h hin
    obtain ⟨hxr, hnr⟩ := Ty.right_parts h
    have hall : ∀ (b : Bool) (ns : List ByteArray) (xs : List Ty), (∀ x, x ∈ xs → x ∈ v.xs) → (b = true → ∀ s, s ∈ ns → s.size ≤ 30) → (Ty.encAll b ns xs).length ≤ 300 * Ty.szAll xs := fun b ns xs => by
      induction xs generalizing ns with
      | nil => intro _ _; simp [Ty.encAll]
      | cons x xs ihx =>
        intro hx hs
        simp only [Ty.encAll, Ty.szAll, List.length_append]
        have h1 := ih x (deep + 1) (by have := Ty.size_mem (hx x (by simp)); omega) (hxr x (hx x (by simp))) (((Ty.in_iff _ v).1 hin).2.2.2 x (hx x (by simp)))
        have h2 := ihx ns.tail (fun z hz => hx z (List.mem_cons_of_mem _ hz)) (fun hb s h => hs hb s (List.mem_of_mem_tail h))
        have h3 : (bif b then strE (ns.headD ByteArray.empty) else []).length ≤ 40 := by
          cases b
          · simp
          · have h4 : (ns.headD ByteArray.empty).size ≤ 30 := by
              cases ns with
              | nil => exact Nat.zero_le _
              | cons s ns => exact hs rfl s (by simp)
            have h5 := ub_len64 (n := (ns.headD ByteArray.empty).size) (by omega)
            have h6 : (ns.headD ByteArray.empty).data.toList.length = (ns.headD ByteArray.empty).size := Array.length_toList
            simp only [cond_true, strE, List.length_append]
            omega
        omega
    rw [Ty.enc_eq, Ty.sz_eq]
    have hub := ub_len64 (n := v.xs.length) (by have := hin.ok.2.2.1; omega)
    have := hall (decide (v.k = 6)) v.ns v.xs (fun x hx => hx) (fun hb s hs => (hnr (of_decide_eq_true hb)).2 s hs)
    rw [List.length_cons, List.length_append]
    by_cases h6 : v.k = 6
    · rw [if_pos h6]; omega
    · rw [if_neg h6]; simp only [List.length_nil]; omega
theorem Ty.enc_bound {w : World} (v : Ty) (h : v.RightB = true) (hin : v.In w) : v.enc.length ≤ 60000 := by
  unfold Ty.RightB at h
  rw [Bool.and_eq_true, decide_eq_true_eq] at h
  have h1 := Ty.count_sz v.sz v 0 (Nat.le_refl _) (by omega)
  have h2 := Ty.enc_len v.sz v 1 (Nat.le_refl _) h.2 hin
  omega
end Go.Proofs.Ytemhinagajfemaa
