/- The bytes of a value; the code's writer writes them. -/
import Derived.Test.YtemhinagajfemaaConeM14
import Derived.Test.YtemhinagajfemaaConeM29
import Derived.Test.YtemhinagajfemaaConeM37
namespace Go.Proofs.Ytemhinagajfemaa
set_option linter.unusedVariables false
open Go.RowKit

/-- A string with its length ahead. -/
def strE (s : ByteArray) : List UInt8 := ub s.size ++ s.data.toList
mutual
/-- A value's bytes. -/
def Val.enc : Val → List UInt8
  | .mk k n f s _ ns _ xs => UInt8.ofNat k.toNat :: (if k = 1 then [UInt8.ofNat n.toNat] else if k = 2 then ub (zig n) else if k = 3 then fbytes (fcan f) 8 else if k = 4 then strE s
      else ub xs.length ++ Val.encAll (decide (k = 6)) ns xs)
def Val.encAll : Bool → List ByteArray → List Val → List UInt8
  | _, _, [] => []
  | b, ns, x :: xs => (bif b then strE (ns.headD ByteArray.empty) else []) ++ (x.enc ++ Val.encAll b ns.tail xs)
end
theorem Val.enc_eq (v : Val) : v.enc = UInt8.ofNat v.k.toNat :: (if v.k = 1 then [UInt8.ofNat v.n.toNat] else if v.k = 2 then ub (zig v.n) else if v.k = 3 then fbytes (fcan v.f) 8 else if v.k = 4 then strE v.s
      else ub v.xs.length ++ Val.encAll (decide (v.k = 6)) v.ns v.xs) := by
  cases v
  simp only [Val.enc, Val.k, Val.n, Val.f, Val.s, Val.ns, Val.xs]
  rfl
theorem encAll_step {b : Bool} {ns : List ByteArray} {xs : List Val} {i : Nat} (h : i < xs.length) : Val.encAll b (ns.drop i) (xs.drop i) = (bif b then strE (ns.getD i ByteArray.empty) else []) ++ ((xs[i]'h).enc ++ Val.encAll b (ns.drop (i + 1)) (xs.drop (i + 1))) := by
  rw [drop_cons h]
  simp only [Val.encAll]
  have e1 : (ns.drop i).headD ByteArray.empty = ns.getD i ByteArray.empty := by
    rw [List.headD_eq_head?_getD, List.head?_drop, List.getD_eq_getElem?_getD]
  have e2 : (ns.drop i).tail = ns.drop (i + 1) := by rw [List.tail_drop]
  rw [e1, e2]

theorem nameB_size {s : ByteArray} (h : nameB s = true) : s.size ≤ 30 := (of_decide_eq_true h : IsName s).2.1
theorem rising_size {ns : List ByteArray} (h : risingB ns = true) {i : Nat} (hi : i < ns.length) : (ns.getD i ByteArray.empty).size ≤ 30 := nameB_size ((of_decide_eq_true h : IsRising ns) i hi).1
theorem Val.count_sz (d : Nat) : ∀ (v : Val) (n : Nat), v.sz ≤ d → v.count n < 500 → v.count n = n + v.sz := by
  induction d with
  | zero => intro v n hd; rw [Val.sz_eq] at hd; omega
  | succ d ih =>
    intro v n hd h
    rw [Val.count_eq] at h ⊢
    have key : ∀ (xs : List Val) (m : Nat), (∀ x, x ∈ xs → x.sz ≤ d) → m < 500 → Val.countAll xs m < 500 → Val.countAll xs m = m + Val.szAll xs := fun xs => by
      induction xs with
      | nil => intro m _ _ _; simp [Val.countAll, Val.szAll]
      | cons x xs ihx =>
        intro m hm hm5 hc
        simp only [Val.countAll] at hc ⊢
        rw [if_neg (by omega)] at hc ⊢
        have hle := Val.count_le x.sz x m (Nat.le_refl _) hm5
        have hx5 : x.count m < 500 := by
          rcases Nat.lt_or_ge (x.count m) 500 with h' | h'
          · exact h'
          · rw [Val.countAll_ge h'] at hc; exact hc
        rw [ihx _ (fun z hz => hm z (List.mem_cons_of_mem _ hz)) hx5 hc, ih x m (hm x (by simp)) hx5]
        simp only [Val.szAll]
        omega
    have hn : n + 1 < 500 := by
      rcases Nat.lt_or_ge (n + 1) 500 with h' | h'
      · exact h'
      · rw [Val.countAll_ge h'] at h; exact h
    rw [key v.xs (n + 1) (fun x hx => by have := Val.size_mem hx; omega) hn h, Val.sz_eq v]
    omega
theorem fbytes_len (x k : Nat) : (fbytes x k).length = k := by simp [fbytes]
theorem Val.enc_len {w : World} (d : Nat) : ∀ (v : Val) (deep : Nat), v.sz ≤ d → v.rightB deep = true → v.In w → v.enc.length + 50 ≤ 300 * v.sz := by
  induction d with
  | zero => intro v deep hd; rw [Val.sz_eq] at hd; omega
  | succ d ih =>
    intro v deep hd h hin
    have hkk := (Val.kinds_iff v).1 (Val.kinds_of_right v.sz v deep (Nat.le_refl _) h)
    have hzz := zig_lt hin.ok.2.1.1 hin.ok.2.1.2
    have hall : ∀ (b : Bool) (ns : List ByteArray) (xs : List Val), (∀ x, x ∈ xs → x ∈ v.xs ∧ x.rightB (deep + 1) = true) → (b = true → ∀ s, s ∈ ns → s.size ≤ 30) → (Val.encAll b ns xs).length ≤ 300 * Val.szAll xs := fun b ns xs => by
      induction xs generalizing ns with
      | nil => intro _ _; simp [Val.encAll]
      | cons x xs ihx =>
        intro hx hs
        simp only [Val.encAll, Val.szAll, List.length_append]
        have h1 := ih x (deep + 1) (by have := Val.size_mem (hx x (by simp)).1; omega) (hx x (by simp)).2 (((Val.in_iff _ v).1 hin).2.2.2 x (hx x (by simp)).1)
        have h2 := ihx ns.tail (fun z hz => hx z (List.mem_cons_of_mem _ hz)) (fun hb s h => hs hb s (List.mem_of_mem_tail h))
        have h3 : (bif b then strE (ns.headD ByteArray.empty) else []).length ≤ 40 := by
          cases b
          · simp
          · have h4 : (ns.headD ByteArray.empty).size ≤ 30 := by
              cases ns with
              | nil => exact Nat.zero_le _
              | cons s ns => exact hs rfl s (by simp)
            have h5 := ub_len64 (n := (ns.headD ByteArray.empty).size) (by omega)
            have h6 : (ns.headD ByteArray.empty).data.toList.length = (ns.headD ByteArray.empty).size := Array.length_toList
            simp only [cond_true, strE, List.length_append]
            omega
        omega
    rw [Val.rightB_eq] at h
    rw [Val.enc_eq, Val.sz_eq]
    have hub := ub_len64 (n := v.xs.length) (by have := hin.ok.2.2.2.2.2.1; omega)
    have hus := ub_len64 (n := v.s.size) (by have := hin.ok.2.2.2.1; unfold strok at this; omega)
    have huz := ub_len64 hzz
    have hsl : v.s.data.toList.length = v.s.size := Array.length_toList
    by_cases h12 : 12 < deep
    · rw [if_pos h12] at h; cases h
    rw [if_neg h12] at h
    simp only [List.length_cons]
    by_cases h1 : v.k = 1
    · rw [if_pos h1]; simp; omega
    rw [if_neg h1] at h ⊢
    by_cases h2 : v.k = 2
    · rw [if_pos h2]; omega
    rw [if_neg h2] at h ⊢
    by_cases h3 : v.k = 3
    · rw [if_pos h3, fbytes_len]; omega
    rw [if_neg h3] at h ⊢
    by_cases h4 : v.k = 4
    · rw [if_pos h4] at h ⊢
      rw [Bool.and_eq_true, decide_eq_true_eq] at h
      simp only [strE, List.length_append]
      omega
    rw [if_neg h4] at h ⊢
    rw [List.length_append]
    by_cases h5 : v.k = 5
    · rw [if_pos h5, Bool.and_eq_true] at h
      have := hall (decide (v.k = 6)) v.ns v.xs (fun x hx => ⟨hx, rightAll_mem h.2 x hx⟩) (fun hb => by simp [h5] at hb)
      omega
    rw [if_neg h5] at h
    by_cases h6 : v.k = 6
    · rw [if_pos h6, Bool.and_eq_true, Bool.and_eq_true, Bool.and_eq_true] at h
      have := hall (decide (v.k = 6)) v.ns v.xs (fun x hx => ⟨hx, rightAll_mem h.2 x hx⟩) (fun _ s hs => by
        obtain ⟨i, hi, rfl⟩ := List.getElem_of_mem hs
        have := rising_size h.1.1.2 hi
        simpa [hi] using this)
      omega
    exact absurd hkk.1 (by omega)
end Go.Proofs.Ytemhinagajfemaa
