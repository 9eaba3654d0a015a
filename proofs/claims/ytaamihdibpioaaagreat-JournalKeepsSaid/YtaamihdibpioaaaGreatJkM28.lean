/- codec.Value at any value. -/
import Derived.Test.YtaamihdibpioaaaGreatJkM10
import Derived.Test.YtaamihdibpioaaaGreatJkM18
import Derived.Test.YtaamihdibpioaaaGreatJkM26
import Derived.Test.YtaamihdibpioaaaGreatJkM27
namespace Go.Proofs.YtaamihdibpioaaaGreat
set_option linter.unusedVariables false
open Go.RowKit

/-- What codec.Value answers. -/
def ValuedOr (b : Bool) (s : List UInt8) (w : World) (e : Ending) (w' : World) : Prop := e = .returned (.tuple #[.string (bif b then ⟨s.toArray⟩ else ByteArray.empty), .int .i64 (bif b then 0 else 5)]) ∧ Below w.heap.size w w'

theorem Val.enc_ne (v : Val) : v.enc ≠ [] := by rw [Val.enc_eq]; simp
theorem Val.enc_bound {w : World} (v : Val) (h : v.RightB = true) (hin : v.In w) : v.enc.length ≤ 60000 := by
  unfold Val.RightB at h
  rw [Bool.and_eq_true, decide_eq_true_eq] at h
  have h1 := Val.count_sz v.sz v 0 (Nat.le_refl _) (by omega)
  have h2 := Val.enc_len v.sz v 1 (Nat.le_refl _) h.2 hin
  omega

set_option maxHeartbeats 1000000 in
theorem value_any (v : Val) (w : World) (h : v.In w) : Calls Tryz.prog 102 #[v.agg] w fun e w' => ValuedOr v.RightB v.enc w e w' := by
  obtain ⟨W, hW⟩ : ∃ W, W = w.alloc (.cells #[.int .i64 v.k, .int .i64 v.n, .float .f64 v.f, .string v.s, v.na.val v.ns.length, v.xa.val v.xs.length] 37) := ⟨_, rfl⟩
  have hp : PVal W w.heap.size 0 v := by rw [hW]; exact PVal.new w v 37 h
  have hB : Below w.heap.size w W := by rw [hW]; exact (Below.refl _ _).alloc (Nat.le_refl _) _
  have hr := rightf_any v W hp.in
  have c0 := hp.c0; have c1 := hp.c1; have c2 := hp.c2; have c3 := hp.c3; have c4 := hp.c4; have c5 := hp.c5
  simp only [Nat.zero_add] at c1 c2 c3 c4 c5
  obtain ⟨p4, q4, e4⟩ := hp.in.nslice
  obtain ⟨p5, q5, e5⟩ := hp.in.xslice
  have HEB := Lib.hid (fun hr : v.RightB = true => Val.enc_bound v hr h)
  have HW := Lib.hid hW; have HP := Lib.hid hp; have HBL := Lib.hid hB; have HR := Lib.hid hr
  have hlt := Lib.hid hp.2.1
  clear hW hp hB hr e4 e5 h
  by_cases hv : v.RightB = true
  · have HV := Lib.hid hv
    rw [hv] at HR
    clear hv
    go_enter Tryz.func102, Tryz.ntmps102
    go_wp2_with fail
    rw [← HW.out]
    go_wp2_with fail
    refine HR.out.mono ?_
    rintro e w2 ⟨rfl, hl⟩
    have hp2 := HP.out.below (hl.mono (Nat.le_refl _))
    have hL2 := HBL.out.trans (hl.mono HBL.out.size)
    have hen := HEB.out HV.out
    have hV1 : v.rightB 1 = true := by
      have := HV.out
      unfold Val.RightB at this
      rw [Bool.and_eq_true] at this
      exact this.2
    have HC := Lib.hid (wvalue_any w2 v.sz v 1 w.heap.size 0 w2.heap.size [] (w2.alloc (.cells #[.pointer none, .slice none 0 0] 188)) (Nat.le_refl _) hp2 ((Below.refl _ _).alloc (Nat.le_refl _) _) (wb_new w2 _ (Nat.le_refl _)) hV1 (by simp only [List.length_nil]; omega))
    have hz2 := hp2.2.1
    have HL := Lib.hid (hL2.alloc hL2.size (.cells #[.pointer none, .slice none 0 0] 188))
    clear hl hp2 hL2 hen hV1 HR HBL HEB HP c0 c1 c2 c3 c4 c5
    go_wp2_with fail
    refine HC.out.mono ?_
    rintro e w3 ⟨rfl, hw3, hb3⟩
    have hs := Lib.hid (string_some w2.heap.size w2.heap.size w3 ([] ++ v.enc) hw3 (by simpa using Val.enc_ne v))
    have hz3 : w.heap.size ≤ w2.heap.size := by omega
    have HL3 := Lib.hid (HL.out.trans (hb3.mono hz3))
    clear hw3 hb3 HC HL
    go_wp2_with fail
    refine hs.out.mono ?_
    rintro e w4 ⟨rfl, hb4⟩
    have hL4 := HL3.out.trans (hb4.mono hz3)
    clear hb4 HL3 hs
    go_wp2
    go_ret2
    exact ⟨by rw [HV.out]; rfl, hL4⟩
  · rw [Bool.not_eq_true] at hv
    have HV := Lib.hid hv
    rw [hv] at HR
    clear hv
    go_enter Tryz.func102, Tryz.ntmps102
    go_wp2_with fail
    rw [← HW.out]
    go_wp2_with fail
    refine HR.out.mono ?_
    rintro e w2 ⟨rfl, hl⟩
    have HL2 := Lib.hid (HBL.out.trans (hl.mono HBL.out.size))
    clear hl
    go_wp2
    go_ret2
    exact ⟨by rw [HV.out]; rfl, HL2.out⟩
end Go.Proofs.YtaamihdibpioaaaGreat

/- The document's TypeRight; the bytes of a type. -/
namespace Go.Proofs.YtaamihdibpioaaaGreat
set_option linter.unusedVariables false
open Go.RowKit

mutual
/-- A type's bytes. -/
def Ty.enc : Ty → List UInt8
  | .mk k _ ns _ xs => UInt8.ofNat k.toNat :: ((if k = 6 then ub xs.length else []) ++ Ty.encAll (decide (k = 6)) ns xs)
def Ty.encAll : Bool → List ByteArray → List Ty → List UInt8
  | _, _, [] => []
  | b, ns, x :: xs => (bif b then strE (ns.headD ByteArray.empty) else []) ++ (x.enc ++ Ty.encAll b ns.tail xs)
end
theorem Ty.enc_eq (v : Ty) : v.enc = UInt8.ofNat v.k.toNat :: ((if v.k = 6 then ub v.xs.length else []) ++ Ty.encAll (decide (v.k = 6)) v.ns v.xs) := by
  cases v
  simp only [Ty.enc, Ty.k, Ty.ns, Ty.xs]
  rfl
theorem Ty.enc_ne (v : Ty) : v.enc ≠ [] := by rw [Ty.enc_eq]; simp
theorem Ty.count_sz (d : Nat) : ∀ (v : Ty) (n : Nat), v.sz ≤ d → v.count n < 500 → v.count n = n + v.sz := by
  induction d with
  | zero => intro v n hd; rw [Ty.sz_eq] at hd; omega
  | succ d ih =>
    intro v n hd h
    rw [Ty.count_eq] at h ⊢
    have key : ∀ (xs : List Ty) (m : Nat), (∀ x, x ∈ xs → x.sz ≤ d) → m < 500 → Ty.countAll xs m < 500 → Ty.countAll xs m = m + Ty.szAll xs := fun xs => by
      induction xs with
      | nil => intro m _ _ _; simp [Ty.countAll, Ty.szAll]
      | cons x xs ihx =>
        intro m hm hm5 hc
        simp only [Ty.countAll] at hc ⊢
        rw [if_neg (by omega)] at hc ⊢
        have hle := Ty.count_le x.sz x m (Nat.le_refl _) hm5
        have hx5 : x.count m < 500 := by
          rcases Nat.lt_or_ge (x.count m) 500 with h' | h'
          · exact h'
          · rw [Ty.countAll_ge h'] at hc; exact hc
        rw [ihx _ (fun z hz => hm z (List.mem_cons_of_mem _ hz)) hx5 hc, ih x m (hm x (by simp)) hx5]
        simp only [Ty.szAll]
        omega
    have hn : n + 1 < 500 := by
      rcases Nat.lt_or_ge (n + 1) 500 with h' | h'
      · exact h'
      · rw [Ty.countAll_ge h'] at h; exact h
    rw [key v.xs (n + 1) (fun x hx => by have := Ty.size_mem hx; omega) hn h, Ty.sz_eq v]
    omega
theorem Ty.right_kinds {v : Ty} {deep : Nat} (h : v.rightB deep = true) : 1 ≤ v.k ∧ v.k ≤ 7 := by
  rw [Ty.rightB_eq] at h
  by_cases h12 : 12 < deep
  · rw [if_pos h12] at h; cases h
  rw [if_neg h12] at h
  by_cases h5 : v.k = 5
  · omega
  rw [if_neg h5] at h
  by_cases h6 : v.k = 6
  · omega
  rw [if_neg h6] at h
  by_cases h7 : 1 ≤ v.k ∧ v.k ≤ 7
  · exact h7
  · rw [if_neg h7] at h; cases h
/-- What a right type's items and names are. -/
theorem Ty.right_parts {v : Ty} {deep : Nat} (h : v.rightB deep = true) : (∀ x, x ∈ v.xs → x.rightB (deep + 1) = true) ∧ (v.k = 6 → v.ns.length = v.xs.length ∧ ∀ s, s ∈ v.ns → s.size ≤ 30) := by
  rw [Ty.rightB_eq] at h
  by_cases h12 : 12 < deep
  · rw [if_pos h12] at h; cases h
  rw [if_neg h12] at h
  by_cases h5 : v.k = 5
  · rw [if_pos h5, Bool.and_eq_true, Bool.and_eq_true] at h
    exact ⟨trightAll_mem h.2, fun h6 => by omega⟩
  rw [if_neg h5] at h
  by_cases h6 : v.k = 6
  · rw [if_pos h6, Bool.and_eq_true, Bool.and_eq_true, decide_eq_true_eq] at h
    refine ⟨trightAll_mem h.2, fun _ => ⟨h.1.1, fun s hs => ?_⟩⟩
    obtain ⟨i, hi, rfl⟩ := List.getElem_of_mem hs
    have := rising_size h.1.2 hi
    simpa [hi] using this
  rw [if_neg h6] at h
  by_cases h7 : 1 ≤ v.k ∧ v.k ≤ 7
  · rw [if_pos h7, Bool.and_eq_true, decide_eq_true_eq, decide_eq_true_eq] at h
    refine ⟨fun x hx => ?_, fun h => absurd h h6⟩
    rw [List.eq_nil_of_length_eq_zero h.2] at hx
    simp at hx
  · rw [if_neg h7] at h; cases h
theorem Ty.enc_len {w : World} (d : Nat) : ∀ (v : Ty) (deep : Nat), v.sz ≤ d → v.rightB deep = true → v.In w → v.enc.length + 50 ≤ 300 * v.sz := by
  induction d with
  | zero => intro v deep hd; rw [Ty.sz_eq] at hd; omega
  | succ d ih =>
    intro v deep hd h hin
    obtain ⟨hxr, hnr⟩ := Ty.right_parts h
    have hall : ∀ (b : Bool) (ns : List ByteArray) (xs : List Ty), (∀ x, x ∈ xs → x ∈ v.xs) → (b = true → ∀ s, s ∈ ns → s.size ≤ 30) → (Ty.encAll b ns xs).length ≤ 300 * Ty.szAll xs := fun b ns xs => by
      induction xs generalizing ns with
      | nil => intro _ _; simp [Ty.encAll]
      | cons x xs ihx =>
        intro hx hs
        simp only [Ty.encAll, Ty.szAll, List.length_append]
        have h1 := ih x (deep + 1) (by have := Ty.size_mem (hx x (by simp)); omega) (hxr x (hx x (by simp))) (((Ty.in_iff _ v).1 hin).2.2.2 x (hx x (by simp)))
        have h2 := ihx ns.tail (fun z hz => hx z (List.mem_cons_of_mem _ hz)) (fun hb s h => hs hb s (List.mem_of_mem_tail h))
        have h3 : (bif b then strE (ns.headD ByteArray.empty) else []).length ≤ 40 := by
          cases b
          · simp
          · have h4 : (ns.headD ByteArray.empty).size ≤ 30 := by
              cases ns with
              | nil => exact Nat.zero_le _
              | cons s ns => exact hs rfl s (by simp)
            have h5 := ub_len64 (n := (ns.headD ByteArray.empty).size) (by omega)
            have h6 : (ns.headD ByteArray.empty).data.toList.length = (ns.headD ByteArray.empty).size := Array.length_toList
            simp only [cond_true, strE, List.length_append]
            omega
        omega
    rw [Ty.enc_eq, Ty.sz_eq]
    have hub := ub_len64 (n := v.xs.length) (by have := hin.ok.2.2.1; omega)
    have := hall (decide (v.k = 6)) v.ns v.xs (fun x hx => hx) (fun hb s hs => (hnr (of_decide_eq_true hb)).2 s hs)
    rw [List.length_cons, List.length_append]
    by_cases h6 : v.k = 6
    · rw [if_pos h6]; omega
    · rw [if_neg h6]; simp only [List.length_nil]; omega
theorem Ty.enc_bound {w : World} (v : Ty) (h : v.RightB = true) (hin : v.In w) : v.enc.length ≤ 60000 := by
  unfold Ty.RightB at h
  rw [Bool.and_eq_true, decide_eq_true_eq] at h
  have h1 := Ty.count_sz v.sz v 0 (Nat.le_refl _) (by omega)
  have h2 := Ty.enc_len v.sz v 1 (Nat.le_refl _) h.2 hin
  omega
end Go.Proofs.YtaamihdibpioaaaGreat

/- What was read has just the bytes that it is written with; what is written is read as it was, and cut off it is torn. Plain lemmas on bytes, no program in sight. -/
namespace Go.Proofs.YtaamihdibpioaaaGreat
set_option linter.unusedVariables false
open Go.RowKit

/-! ### Without places a value, a type is right as it was, and has the same bytes -/
section
variable (v : Val)
theorem Val.erase_k : v.erase.k = v.k := by rw [Val.erase_eq]; rfl
theorem Val.erase_n : v.erase.n = v.n := by rw [Val.erase_eq]; rfl
theorem Val.erase_f : v.erase.f = v.f := by rw [Val.erase_eq]; rfl
theorem Val.erase_s : v.erase.s = v.s := by rw [Val.erase_eq]; rfl
theorem Val.erase_ns : v.erase.ns = v.ns := by rw [Val.erase_eq]; rfl
theorem Val.erase_xs : v.erase.xs = v.xs.map Val.erase := by rw [Val.erase_eq]; rfl
end
theorem Val.count_erase (d : Nat) : ∀ (v : Val) (n : Nat), v.sz ≤ d → v.erase.count n = v.count n := by
  induction d with
  | zero => intro v n hd; rw [Val.sz_eq] at hd; omega
  | succ d ih =>
    intro v n hd
    have key : ∀ (xs : List Val) (m : Nat), (∀ x, x ∈ xs → x.sz ≤ d) → Val.countAll (xs.map Val.erase) m = Val.countAll xs m := fun xs => by
      induction xs with
      | nil => intro m _; rfl
      | cons x xs ihx =>
        intro m hm
        simp only [List.map_cons, Val.countAll]
        rw [ih x m (hm x (by simp)), ihx _ (fun z hz => hm z (List.mem_cons_of_mem _ hz))]
    rw [Val.count_eq, Val.count_eq, Val.erase_xs]
    exact key v.xs _ (fun x hx => by have := Val.size_mem hx; omega)
theorem bareB_erase (v : Val) (n f s r : Bool) : bareB v.erase n f s r = bareB v n f s r := by
  unfold bareB
  rw [Val.erase_n, Val.erase_f, Val.erase_s, Val.erase_ns, Val.erase_xs, List.length_map]
theorem Val.rightB_erase (d : Nat) : ∀ (v : Val) (deep : Nat), v.sz ≤ d → v.erase.rightB deep = v.rightB deep := by
  induction d with
  | zero => intro v deep hd; rw [Val.sz_eq] at hd; omega
  | succ d ih =>
    intro v deep hd
    have key : ∀ (xs : List Val) (deep : Nat), (∀ x, x ∈ xs → x.sz ≤ d) → Val.rightAll (xs.map Val.erase) deep = Val.rightAll xs deep := fun xs => by
      induction xs with
      | nil => intro deep _; rfl
      | cons x xs ihx =>
        intro deep hm
        simp only [List.map_cons, Val.rightAll]
        rw [ih x deep (hm x (by simp)), ihx _ (fun z hz => hm z (List.mem_cons_of_mem _ hz))]
    rw [Val.rightB_eq, Val.rightB_eq v, Val.erase_k, Val.erase_n, Val.erase_s, Val.erase_ns, Val.erase_xs, List.length_map, key v.xs (deep + 1) (fun x hx => by have := Val.size_mem hx; omega)]
    simp only [bareB_erase]
theorem Val.RightB_erase (v : Val) : v.erase.RightB = v.RightB := by
  unfold Val.RightB
  rw [Val.count_erase v.sz v 0 (Nat.le_refl _), Val.rightB_erase v.sz v 1 (Nat.le_refl _)]
theorem Val.enc_erase (d : Nat) : ∀ (v : Val), v.sz ≤ d → v.erase.enc = v.enc := by
  induction d with
  | zero => intro v hd; rw [Val.sz_eq] at hd; omega
  | succ d ih =>
    intro v hd
    have key : ∀ (xs : List Val) (b : Bool) (ns : List ByteArray), (∀ x, x ∈ xs → x.sz ≤ d) → Val.encAll b ns (xs.map Val.erase) = Val.encAll b ns xs := fun xs => by
      induction xs with
      | nil => intro b ns _; rfl
      | cons x xs ihx =>
        intro b ns hm
        simp only [List.map_cons, Val.encAll]
        rw [ih x (hm x (by simp)), ihx _ _ (fun z hz => hm z (List.mem_cons_of_mem _ hz))]
    rw [Val.enc_eq, Val.enc_eq v, Val.erase_k, Val.erase_n, Val.erase_f, Val.erase_s, Val.erase_ns, Val.erase_xs, List.length_map, key v.xs _ _ (fun x hx => by have := Val.size_mem hx; omega)]
theorem Val.Enc_erase (v : Val) : v.erase.enc = v.enc := Val.enc_erase v.sz v (Nat.le_refl _)
section
variable (v : Ty)
theorem Ty.erase_k : v.erase.k = v.k := by rw [Ty.erase_eq]; rfl
theorem Ty.erase_ns : v.erase.ns = v.ns := by rw [Ty.erase_eq]; rfl
theorem Ty.erase_xs : v.erase.xs = v.xs.map Ty.erase := by rw [Ty.erase_eq]; rfl
end
theorem Ty.count_erase (d : Nat) : ∀ (v : Ty) (n : Nat), v.sz ≤ d → v.erase.count n = v.count n := by
  induction d with
  | zero => intro v n hd; rw [Ty.sz_eq] at hd; omega
  | succ d ih =>
    intro v n hd
    have key : ∀ (xs : List Ty) (m : Nat), (∀ x, x ∈ xs → x.sz ≤ d) → Ty.countAll (xs.map Ty.erase) m = Ty.countAll xs m := fun xs => by
      induction xs with
      | nil => intro m _; rfl
      | cons x xs ihx =>
        intro m hm
        simp only [List.map_cons, Ty.countAll]
        rw [ih x m (hm x (by simp)), ihx _ (fun z hz => hm z (List.mem_cons_of_mem _ hz))]
    rw [Ty.count_eq, Ty.count_eq, Ty.erase_xs]
    exact key v.xs _ (fun x hx => by have := Ty.size_mem hx; omega)
theorem Ty.rightB_erase (d : Nat) : ∀ (v : Ty) (deep : Nat), v.sz ≤ d → v.erase.rightB deep = v.rightB deep := by
  induction d with
  | zero => intro v deep hd; rw [Ty.sz_eq] at hd; omega
  | succ d ih =>
    intro v deep hd
    have key : ∀ (xs : List Ty) (deep : Nat), (∀ x, x ∈ xs → x.sz ≤ d) → Ty.rightAll (xs.map Ty.erase) deep = Ty.rightAll xs deep := fun xs => by
      induction xs with
      | nil => intro deep _; rfl
      | cons x xs ihx =>
        intro deep hm
        simp only [List.map_cons, Ty.rightAll]
        rw [ih x deep (hm x (by simp)), ihx _ (fun z hz => hm z (List.mem_cons_of_mem _ hz))]
    rw [Ty.rightB_eq, Ty.rightB_eq v, Ty.erase_k, Ty.erase_ns, Ty.erase_xs, List.length_map, key v.xs (deep + 1) (fun x hx => by have := Ty.size_mem hx; omega)]
theorem Ty.RightB_erase (v : Ty) : v.erase.RightB = v.RightB := by
  unfold Ty.RightB
  rw [Ty.count_erase v.sz v 0 (Nat.le_refl _), Ty.rightB_erase v.sz v 1 (Nat.le_refl _)]
theorem Ty.enc_erase (d : Nat) : ∀ (v : Ty), v.sz ≤ d → v.erase.enc = v.enc := by
  induction d with
  | zero => intro v hd; rw [Ty.sz_eq] at hd; omega
  | succ d ih =>
    intro v hd
    have key : ∀ (xs : List Ty) (b : Bool) (ns : List ByteArray), (∀ x, x ∈ xs → x.sz ≤ d) → Ty.encAll b ns (xs.map Ty.erase) = Ty.encAll b ns xs := fun xs => by
      induction xs with
      | nil => intro b ns _; rfl
      | cons x xs ihx =>
        intro b ns hm
        simp only [List.map_cons, Ty.encAll]
        rw [ih x (hm x (by simp)), ihx _ _ (fun z hz => hm z (List.mem_cons_of_mem _ hz))]
    rw [Ty.enc_eq, Ty.enc_eq v, Ty.erase_k, Ty.erase_ns, Ty.erase_xs, List.length_map, key v.xs _ _ (fun x hx => by have := Ty.size_mem hx; omega)]
theorem Ty.Enc_erase (v : Ty) : v.erase.enc = v.enc := Ty.enc_erase v.sz v (Nat.le_refl _)

/-! ### A stretch of bytes -/
theorem size_list (s : ByteArray) : s.data.toList.length = s.size := Array.length_toList
/-! ### What was read has these bytes -/
theorem unzig_zig (n : Int) : unzig (zig n) = n := by
  unfold zig unzig
  split <;> split <;> omega
section
variable {A : Type}
def encL (enc : A → List UInt8) : Bool → List ByteArray → List A → List UInt8
  | _, _, [] => []
  | b, ns, x :: xs => (bif b then strE (ns.headD ByteArray.empty) else []) ++ (enc x ++ encL enc b ns.tail xs)
end
theorem encL_val : ∀ (b : Bool) (ns : List ByteArray) (xs : List Val), Val.encAll b ns xs = encL Val.enc b ns xs
  | _, _, [] => by simp [Val.encAll, encL]
  | b, ns, x :: xs => by simp only [Val.encAll, encL]; rw [encL_val b ns.tail xs]
theorem encL_ty : ∀ (b : Bool) (ns : List ByteArray) (xs : List Ty), Ty.encAll b ns xs = encL Ty.enc b ns xs
  | _, _, [] => by simp [Ty.encAll, encL]
  | b, ns, x :: xs => by simp only [Ty.encAll, encL]; rw [encL_ty b ns.tail xs]
end Go.Proofs.YtaamihdibpioaaaGreat
