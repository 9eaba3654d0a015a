/- Two values are the same just if they have one normal form. Plain laws. -/
import Derived.Test.YtaamihdibpioaaaGreatJkM7
import Derived.Test.YtaamihdibpioaaaGreatJkM10
import Derived.Test.YtaamihdibpioaaaGreatJkM12
import Derived.Test.YtaamihdibpioaaaGreatJkM23
import Derived.Test.YtaamihdibpioaaaGreatJkM24
import Derived.Test.YtaamihdibpioaaaGreatJkM25
import Derived.BigGuardPart
import Derived.Deep.QuietTactic
import Derived.BigQuiet
import Derived.StillTailTactics
namespace Go.Proofs.YtaamihdibpioaaaGreat
set_option linter.unusedVariables false
open Go.RowKit

theorem sgnI_zero {a b : Int} : sgnI a b = 0 ↔ a = b := by
  unfold sgnI
  by_cases h : a < b
  · rw [if_pos h]; omega
  · rw [if_neg h]
    by_cases h' : b < a
    · rw [if_pos h']; omega
    · rw [if_neg h']; omega
theorem ford_zero_key {a b : Nat} : ford a b = 0 ↔ fkey a = fkey b := by
  unfold ford
  by_cases h : fkey a < fkey b
  · rw [if_pos h]; omega
  · rw [if_neg h]
    by_cases h' : fkey b < fkey a
    · rw [if_pos h']; omega
    · rw [if_neg h']; omega
theorem bytesLess_irrefl : ∀ l : List UInt8, Op.bytesLess l l = false
  | [] => rfl
  | a :: l => by simp [Op.bytesLess, bytesLess_irrefl l]
theorem scmp_zero {a b : ByteArray} : scmp a b = 0 ↔ a = b := by
  unfold scmp
  cases h1 : Op.bytesLess a.toList b.toList with
  | true =>
    rw [if_pos rfl]
    refine ⟨fun h => absurd h (by decide), fun h => ?_⟩
    subst h
    rw [bytesLess_irrefl] at h1
    cases h1
  | false =>
    rw [if_neg (by simp)]
    cases h2 : (a.toList == b.toList) with
    | true =>
      rw [if_pos rfl]
      refine ⟨fun _ => ?_, fun _ => rfl⟩
      have e : a.toList = b.toList := by simpa using h2
      rw [Lib.toList_data, Lib.toList_data] at e
      exact ByteArray.ext (Array.ext' e)
    | false =>
      rw [if_neg (by simp)]
      refine ⟨fun h => absurd h (by decide), fun h => ?_⟩
      subst h
      simp at h2
theorem ncmp_zero : ∀ {l m : List ByteArray}, ncmp l m = 0 ↔ l = m
  | [], [] => by simp [ncmp]
  | [], _ :: _ => by simp [ncmp]
  | _ :: _, [] => by simp [ncmp]
  | a :: l, b :: m => by
    simp only [ncmp]
    by_cases h : scmp a b = 0
    · rw [if_neg (by simpa using h), ncmp_zero, scmp_zero.1 h]
      simp
    · rw [if_pos h]
      refine ⟨fun h' => absurd h' h, fun e => ?_⟩
      injection e with e _
      exact absurd (scmp_zero.2 e) h

mutual
/-- What counts of a value. -/
def Val.nf : Val → Val
  | .mk k n f s na ns xa xs => .mk k (if k = 1 ∨ k = 2 then n else 0) (if k = 3 then (fkey f + 9223372036854775808).toNat else 0) (if k = 4 then s else ByteArray.empty) .no (if k = 6 then ns else []) .no (if k = 5 ∨ k = 6 then Val.nfAll xs else [])
def Val.nfAll : List Val → List Val
  | [] => []
  | x :: xs => x.nf :: Val.nfAll xs
end
theorem Val.nfAll_map : ∀ xs : List Val, Val.nfAll xs = xs.map Val.nf
  | [] => rfl
  | x :: xs => by rw [Val.nfAll, Val.nfAll_map xs]; rfl
theorem Val.nf_eq (v : Val) : v.nf = .mk v.k (if v.k = 1 ∨ v.k = 2 then v.n else 0) (if v.k = 3 then (fkey v.f + 9223372036854775808).toNat else 0) (if v.k = 4 then v.s else ByteArray.empty) .no (if v.k = 6 then v.ns else []) .no (if v.k = 5 ∨ v.k = 6 then v.xs.map Val.nf else []) := by
  cases v
  simp only [Val.nf, Val.nfAll_map, Val.k, Val.n, Val.f, Val.s, Val.ns, Val.xs]
  rfl
theorem fkey_nat {a b : Nat} : (fkey a + 9223372036854775808).toNat = (fkey b + 9223372036854775808).toNat ↔ fkey a = fkey b := by
  have := fkey_i64 a; have := fkey_i64 b; omega
theorem Val.nf_iff (v u : Val) : v.nf = u.nf ↔ v.k = u.k ∧ ((v.k = 1 ∨ v.k = 2) → v.n = u.n) ∧ (v.k = 3 → fkey v.f = fkey u.f) ∧ (v.k = 4 → v.s = u.s) ∧ (v.k = 6 → v.ns = u.ns) ∧ ((v.k = 5 ∨ v.k = 6) → v.xs.map Val.nf = u.xs.map Val.nf) := by
  rw [Val.nf_eq v, Val.nf_eq u]
  simp only [Val.mk.injEq, true_and, and_true]
  constructor
  · rintro ⟨hk, hn, hf, hs, hns, hxs⟩
    rw [← hk] at hn hf hs hns hxs
    refine ⟨hk, fun h => by simpa [h] using hn, fun h => ?_, fun h => by simpa [h] using hs, fun h => by simpa [h] using hns, fun h => by simpa [h] using hxs⟩
    rw [if_pos h, if_pos h] at hf
    exact fkey_nat.1 hf
  · rintro ⟨hk, hn, hf, hs, hns, hxs⟩
    rw [← hk]
    refine ⟨rfl, ?_, ?_, ?_, ?_, ?_⟩
    · split
      · rename_i h; exact hn h
      · rfl
    · split
      · rename_i h; rw [hf h]
      · rfl
    · split
      · rename_i h; exact hs h
      · rfl
    · split
      · rename_i h; exact hns h
      · rfl
    · split
      · rename_i h; exact hxs h
      · rfl
theorem rordAll_zero : ∀ {xs ys : List Val}, (∀ x, x ∈ xs → ∀ y, (x.rord y = 0 ↔ x.nf = y.nf)) → (Val.rordAll xs ys = 0 ↔ xs.map Val.nf = ys.map Val.nf)
  | [], [], _ => by simp [Val.rordAll]
  | [], _ :: _, _ => by simp [Val.rordAll]
  | _ :: _, [], _ => by simp [Val.rordAll]
  | x :: xs, y :: ys, h => by
    simp only [Val.rordAll, List.map_cons, List.cons.injEq]
    by_cases h0 : x.rord y = 0
    · rw [if_neg (by simpa using h0), rordAll_zero (fun z hz => h z (List.mem_cons_of_mem _ hz))]
      simp [(h x (by simp) y).1 h0]
    · rw [if_pos h0]
      exact ⟨fun h' => absurd h' h0, fun h' => absurd ((h x (by simp) y).2 h'.1) h0⟩
theorem Val.rord_nf (d : Nat) : ∀ (v u : Val), v.sz ≤ d → v.Kinds → (v.rord u = 0 ↔ v.nf = u.nf) := by
  induction d with
  | zero => intro v u hd; rw [Val.sz_eq] at hd; omega
  | succ d ih =>
    intro v u hd hk
    have hk2 := (Val.kinds_iff v).1 hk
    have hi : ∀ x, x ∈ v.xs → ∀ y, (x.rord y = 0 ↔ x.nf = y.nf) := fun x hx y => ih x y (by have := Val.size_mem hx; omega) (hk2.2 x hx)
    have hall := rordAll_zero (ys := u.xs) hi
    rw [Val.nf_iff, Val.rord_eq]
    by_cases h0 : v.k = u.k
    · rw [if_neg (by simpa using h0)]
      obtain ⟨hk1, hk6⟩ := hk2.1
      rcases (by omega : v.k = 1 ∨ v.k = 2 ∨ v.k = 3 ∨ v.k = 4 ∨ v.k = 5 ∨ v.k = 6) with h | h | h | h | h | h
      · simp [h, ← h0, sgnI_zero]
      · simp [h, ← h0, sgnI_zero]
      · simp [h, ← h0, ford_zero_key]
      · simp [h, ← h0, scmp_zero]
      · have hr : v.rhead u = 0 := by simp [Val.rhead, Val.rh1, h]
        rw [if_neg (by omega), if_neg (by omega), if_neg (by omega), hr, if_neg (by simp), hall]
        simp [h, ← h0]
      · have hr : v.rhead u = ncmp v.ns u.ns := by simp [Val.rhead, Val.rh1, h]
        rw [if_neg (by omega), if_neg (by omega), if_neg (by omega), hr]
        by_cases hn : ncmp v.ns u.ns = 0
        · rw [if_neg (by simp [hn]), hall]
          simp [h, ← h0, ncmp_zero.1 hn]
        · rw [if_pos hn]
          have hne : v.ns ≠ u.ns := fun e => hn (ncmp_zero.2 e)
          simp [h, ← h0, hn, hne]
    · rw [if_pos h0]
      exact ⟨fun h => absurd (sgnI_zero.1 h) h0, fun h => absurd h.1 h0⟩
/-- What is the same but for where it lies is the same. -/
theorem Val.rord_erase (d : Nat) : ∀ (v u : Val), v.sz ≤ d → v.erase = u.erase → v.rord u = 0 := by
  induction d with
  | zero => intro v u hd; rw [Val.sz_eq] at hd; omega
  | succ d ih =>
    intro v u hd he
    rw [Val.erase_eq, Val.erase_eq u] at he
    injection he with e1 e2 e3 e4 _ e5 _ e6
    rw [Val.rord_eq, e1, e2, e3, e4]
    have hall : ∀ (xs ys : List Val), (∀ x, x ∈ xs → x ∈ v.xs) → xs.map Val.erase = ys.map Val.erase → Val.rordAll xs ys = 0 := fun xs => by
      induction xs with
      | nil => intro ys _ h; cases ys with
        | nil => rfl
        | cons y ys => simp at h
      | cons x xs ihx =>
        intro ys hm h
        cases ys with
        | nil => simp at h
        | cons y ys =>
          simp only [List.map_cons, List.cons.injEq] at h
          simp only [Val.rordAll]
          have hx := hm x (by simp)
          rw [ih x y (by have := Val.size_mem hx; omega) h.1, if_neg (by simp)]
          exact ihx ys (fun z hz => hm z (List.mem_cons_of_mem _ hz)) h.2
    have hr : v.rhead u = 0 := by
      have h1 : v.rh1 u = 0 := by
        unfold Val.rh1
        rw [e2, e4, sgnI_refl]
        simp [scmp_zero]
      unfold Val.rhead
      rw [h1, e5]
      split
      · exact ncmp_zero.2 rfl
      · rfl
    rw [if_neg (by simp)]
    split
    · exact sgnI_refl _
    · split
      · exact ford_eq rfl
      · split
        · exact scmp_zero.2 rfl
        · rw [hr, if_neg (by simp)]
          exact hall v.xs u.xs (fun x hx => hx) e6
theorem Val.nf_erase (d : Nat) : ∀ v : Val, v.sz ≤ d → v.erase.nf = v.nf := by
  induction d with
  | zero => intro v hd; rw [Val.sz_eq] at hd; omega
  | succ d ih =>
    intro v hd
    have hm : v.xs.map (Val.nf ∘ Val.erase) = v.xs.map Val.nf := List.map_congr_left fun x hx => ih x (by have := Val.size_mem hx; omega)
    rw [Val.erase_eq, Val.nf_eq, Val.nf_eq v]
    show Val.mk _ _ _ _ _ _ _ _ = _
    simp only [show ∀ k n f s na ns xa xs, Val.xs (.mk k n f s na ns xa xs) = xs from fun _ _ _ _ _ _ _ _ => rfl, show ∀ k n f s na ns xa xs, Val.f (.mk k n f s na ns xa xs) = f from fun _ _ _ _ _ _ _ _ => rfl, List.map_map, fkey_fcan, hm]
    rfl
theorem Val.kinds_erase (d : Nat) : ∀ v : Val, v.sz ≤ d → (v.erase.Kinds ↔ v.Kinds) := by
  induction d with
  | zero => intro v hd; rw [Val.sz_eq] at hd; omega
  | succ d ih =>
    intro v hd
    rw [Val.kinds_iff, Val.kinds_iff v, Val.erase_eq]
    simp only [Val.k, Val.xs, List.mem_map, forall_exists_index, and_imp, forall_apply_eq_imp_iff₂]
    refine and_congr_right fun _ => forall_congr' fun x => imp_congr_right fun hx => ?_
    exact ih x (by have := Val.size_mem hx; omega)
theorem rightAll_mem : ∀ {xs : List Val} {d : Nat}, Val.rightAll xs d = true → ∀ x, x ∈ xs → x.rightB d = true
  | [], _, _, x, hx => by simp at hx
  | y :: xs, d, h, x, hx => by
    simp only [Val.rightAll, Bool.and_eq_true] at h
    rcases List.mem_cons.1 hx with rfl | hx
    · exact h.1
    · exact rightAll_mem h.2 x hx
theorem bare_xs {v : Val} {n f s : Bool} (h : bareB v n f s false = true) : v.xs = [] := by
  unfold bareB at h
  simp only [Bool.and_eq_true, Bool.false_or, decide_eq_true_eq] at h
  exact List.length_eq_zero_iff.1 h.2.2
theorem Val.kinds_of_right (d : Nat) : ∀ (v : Val) (deep : Nat), v.sz ≤ d → v.rightB deep = true → v.Kinds := by
  induction d with
  | zero => intro v deep hd; rw [Val.sz_eq] at hd; omega
  | succ d ih =>
    intro v deep hd h
    rw [Val.rightB_eq] at h
    rw [Val.kinds_iff]
    by_cases h12 : 12 < deep
    · rw [if_pos h12] at h; cases h
    rw [if_neg h12] at h
    have nil : v.xs = [] → ∀ x, x ∈ v.xs → x.Kinds := fun e x hx => by rw [e] at hx; simp at hx
    by_cases h1 : v.k = 1
    · rw [if_pos h1, Bool.and_eq_true] at h; exact ⟨by omega, nil (bare_xs h.1)⟩
    rw [if_neg h1] at h
    by_cases h2 : v.k = 2
    · rw [if_pos h2] at h; exact ⟨by omega, nil (bare_xs h)⟩
    rw [if_neg h2] at h
    by_cases h3 : v.k = 3
    · rw [if_pos h3] at h; exact ⟨by omega, nil (bare_xs h)⟩
    rw [if_neg h3] at h
    by_cases h4 : v.k = 4
    · rw [if_pos h4, Bool.and_eq_true] at h; exact ⟨by omega, nil (bare_xs h.1)⟩
    rw [if_neg h4] at h
    by_cases h5 : v.k = 5
    · rw [if_pos h5, Bool.and_eq_true] at h
      exact ⟨by omega, fun x hx => ih x (deep + 1) (by have := Val.size_mem hx; omega) (rightAll_mem h.2 x hx)⟩
    rw [if_neg h5] at h
    by_cases h6 : v.k = 6
    · rw [if_pos h6, Bool.and_eq_true] at h
      exact ⟨by omega, fun x hx => ih x (deep + 1) (by have := Val.size_mem hx; omega) (rightAll_mem h.2 x hx)⟩
    rw [if_neg h6] at h
    cases h
theorem Val.RightB.kinds {v : Val} (h : v.RightB = true) : v.Kinds := by
  unfold Val.RightB at h
  rw [Bool.and_eq_true] at h
  exact Val.kinds_of_right v.sz v 1 (Nat.le_refl _) h.2
end Go.Proofs.YtaamihdibpioaaaGreat

/- May it be a type? (printed by wip/gen_tyright.py) -/
namespace Go.Proofs.YtaamihdibpioaaaGreat
set_option linter.unusedVariables false
open Go.RowKit

mutual
def Ty.rightB : Ty → Nat → Bool
  | .mk k na ns xa xs, deep =>
    if 12 < deep then false
    else if k = 5 then decide (ns.length = 0) && decide (xs.length = 1) && Ty.rightAll xs (deep + 1)
    else if k = 6 then decide (ns.length = xs.length) && risingB ns && Ty.rightAll xs (deep + 1)
    else if 1 ≤ k ∧ k ≤ 7 then decide (ns.length = 0) && decide (xs.length = 0)
    else false
def Ty.rightAll : List Ty → Nat → Bool
  | [], _ => true
  | x :: xs, deep => x.rightB deep && Ty.rightAll xs deep
end
theorem Ty.rightB_eq (v : Ty) (deep : Nat) : v.rightB deep =
    if 12 < deep then false
    else if v.k = 5 then decide (v.ns.length = 0) && decide (v.xs.length = 1) && Ty.rightAll v.xs (deep + 1)
    else if v.k = 6 then decide (v.ns.length = v.xs.length) && risingB v.ns && Ty.rightAll v.xs (deep + 1)
    else if 1 ≤ v.k ∧ v.k ≤ 7 then decide (v.ns.length = 0) && decide (v.xs.length = 0)
    else false := by
  cases v
  simp only [Ty.rightB, Ty.k, Ty.ns, Ty.xs]
  rfl
theorem trightAll_mem {xs : List Ty} {deep : Nat} (h : Ty.rightAll xs deep = true) : ∀ x, x ∈ xs → x.rightB deep = true := by
  induction xs with
  | nil => intro x hx; simp at hx
  | cons y ys ih =>
    simp only [Ty.rightAll, Bool.and_eq_true] at h
    intro x hx
    rcases List.mem_cons.1 hx with rfl | hx
    · exact h.1
    · exact ih h.2 x hx
def Ty.RightB (v : Ty) : Bool := decide (v.count 0 ≤ 200) && v.rightB 1

end Go.Proofs.YtaamihdibpioaaaGreat

/- The document's answer: may it be a type? (printed by wip/gen_reftright.py) -/
namespace Go.Proofs.YtaamihdibpioaaaGreat
set_option linter.unusedVariables false
open Go.RowKit

end Go.Proofs.YtaamihdibpioaaaGreat

/- The document's TypeRight. -/
namespace Go.Proofs.YtaamihdibpioaaaGreat
set_option linter.unusedVariables false
open Go.RowKit

end Go.Proofs.YtaamihdibpioaaaGreat

/- value.TypeRight. -/
namespace Go.Proofs.YtaamihdibpioaaaGreat
set_option linter.unusedVariables false
open Go.RowKit

end Go.Proofs.YtaamihdibpioaaaGreat

/- The document's answers: are two values the same? -/
namespace Go.Proofs.YtaamihdibpioaaaGreat
set_option linter.unusedVariables false
open Go.RowKit

def Val.rsame (v u : Val) : Bool := v.rord u == 0
theorem rsamev_any (v u : Val) (w : World) (hv : v.In w) (hu : u.In w) : Calls Tryz.prog 30 #[v.agg, u.agg] w fun e w' => BoolBelow (v.rsame u) w e w' := by
  obtain ⟨W, hW⟩ : ∃ W, W = (w.alloc (.cells v.cells.toArray 37)).alloc (.cells u.cells.toArray 37) := ⟨_, rfl⟩
  have hbW : Below w.heap.size w W := by rw [hW]; exact ((Below.refl _ _).alloc (Nat.le_refl _) _).alloc (by simp) _
  have hc := rord_any v.sz v u W (Nat.le_refl _) (hv.below hbW) (hu.below hbW)
  obtain ⟨p4, q4, e4⟩ := hv.nslice
  obtain ⟨p5, q5, e5⟩ := hv.xslice
  obtain ⟨r4, t4, f4⟩ := hu.nslice
  obtain ⟨r5, t5, f5⟩ := hu.xslice
  unfold Val.rsame
  unfold Val.cells at hW
  unfold Val.agg at hc ⊢
  rw [e4, e5, f4, f5] at hW hc ⊢
  obtain ⟨R, hR⟩ : ∃ R, R = v.rord u := ⟨_, rfl⟩
  rw [← hR] at hc ⊢
  have HW := Lib.hid hW; have HBW := Lib.hid hbW; have HC := Lib.hid hc
  clear hW hbW hc e4 e5 f4 f5 hR hv hu
  go_enter Tryz.func30, Tryz.ntmps30
  go_wp2_with fail
  rw [← HW.out]
  refine HC.out.mono ?_
  rintro e w1 ⟨rfl, hb1⟩
  have HB1 := Lib.hid (HBW.out.trans (hb1.mono HBW.out.size))
  clear hb1
  go_wp2
  go_ret
  exact ⟨rfl, HB1.out⟩
end Go.Proofs.YtaamihdibpioaaaGreat

/- basculeref05.SameType of any two types: whether they are one but for their places. -/
namespace Go.Proofs.YtaamihdibpioaaaGreat
set_option linter.unusedVariables false
open Go.RowKit

mutual
/-- Are they one, but for where they lie? -/
def Ty.sameB : Ty → Ty → Bool
  | .mk k _ ns _ xs, .mk k' _ ns' _ xs' => decide (k = k') && decide (ns = ns') && Ty.sameAll xs xs'
def Ty.sameAll : List Ty → List Ty → Bool
  | [], [] => true
  | [], _ :: _ => false
  | _ :: _, [] => false
  | x :: xs, y :: ys => x.sameB y && Ty.sameAll xs ys
end
end Go.Proofs.YtaamihdibpioaaaGreat

/- types.Same of any two types, with slices.Equal and slices.EqualFunc: whether they are one but for their places. -/
namespace Go.Proofs.YtaamihdibpioaaaGreat
set_option linter.unusedVariables false
open Go.RowKit

end Go.Proofs.YtaamihdibpioaaaGreat

/- The leaves of 'may it be an expression': words, names of fields, how many kids, constants, no value (printed by wip/gen_leaf.py). -/
namespace Go.Proofs.YtaamihdibpioaaaGreat
set_option linter.unusedVariables false
open Go.RowKit

/-- Is it a word of the language? -/
def wordB (s : ByteArray) : Bool := (s.toList == [116, 114, 117, 101]) || (s.toList == [102, 97, 108, 115, 101]) || (s.toList == [110, 97, 110]) || (s.toList == [105, 110, 102]) || (s.toList == [108, 101, 110]) || (s.toList == [102, 108, 111, 97, 116]) || (s.toList == [105, 110, 116]) || (s.toList == [115, 116, 114])
/-- May it be a field's name? -/
def fieldB (s : ByteArray) : Bool := nameB s && !(s.toList == [110, 97, 110]) && !(s.toList == [105, 110, 102])
/-- How many kids each kind wants: -1 any, -2 there is no such kind. -/
def wantsP (k : Int) : Int := if k = 1 ∨ k = 2 then 0 else if k = 3 ∨ k = 4 ∨ k = 18 ∨ (20 ≤ k ∧ k ≤ 23) then 1 else if (5 ≤ k ∧ k ≤ 14) ∨ k = 19 then 2 else if k = 15 then 3 else if k = 16 ∨ k = 17 then -1 else -2
def Val.noneB (v : Val) : Bool := decide (v.k = 0) && decide (v.n = 0) && decide (v.f = 0) && decide (v.s.toList = []) && decide (v.ns.length = 0) && decide (v.xs.length = 0)
def Val.constB (v : Val) : Bool := if v.k = 1 ∨ v.k = 4 then v.RightB else if v.k = 2 then decide (0 ≤ v.n) && v.RightB else if v.k = 3 then !(fneg v.f && !fnan v.f) && v.RightB else false

set_option maxHeartbeats 1000000 in
set_option maxRecDepth 100000 in
theorem word_any (s : ByteArray) (w : World) : Calls Tryz.prog 170 #[.string s] w fun e w' => e = .returned (.bool (wordB s)) ∧ w = w' := by
  unfold wordB
  cases h0 : (s.toList == [116, 114, 117, 101]) with
  | true =>
    go_enter Tryz.func170, Tryz.ntmps170
    go_wp2
    go_ret
    exact ⟨by simp, rfl⟩
  | false =>
    cases h1 : (s.toList == [102, 97, 108, 115, 101]) with
    | true =>
      go_enter Tryz.func170, Tryz.ntmps170
      go_wp2
      go_ret
      exact ⟨by simp, rfl⟩
    | false =>
      cases h2 : (s.toList == [110, 97, 110]) with
      | true =>
        go_enter Tryz.func170, Tryz.ntmps170
        go_wp2
        go_ret
        exact ⟨by simp, rfl⟩
      | false =>
        cases h3 : (s.toList == [105, 110, 102]) with
        | true =>
          go_enter Tryz.func170, Tryz.ntmps170
          go_wp2
          go_ret
          exact ⟨by simp, rfl⟩
        | false =>
          cases h4 : (s.toList == [108, 101, 110]) with
          | true =>
            go_enter Tryz.func170, Tryz.ntmps170
            go_wp2
            go_ret
            exact ⟨by simp, rfl⟩
          | false =>
            cases h5 : (s.toList == [102, 108, 111, 97, 116]) with
            | true =>
              go_enter Tryz.func170, Tryz.ntmps170
              go_wp2
              go_ret
              exact ⟨by simp, rfl⟩
            | false =>
              cases h6 : (s.toList == [105, 110, 116]) with
              | true =>
                go_enter Tryz.func170, Tryz.ntmps170
                go_wp2
                go_ret
                exact ⟨by simp, rfl⟩
              | false =>
                cases h7 : (s.toList == [115, 116, 114]) with
                | true =>
                  go_enter Tryz.func170, Tryz.ntmps170
                  go_wp2
                  go_ret
                  exact ⟨by simp, rfl⟩
                | false =>
                  go_enter Tryz.func170, Tryz.ntmps170
                  go_wp2
                  go_ret
                  exact ⟨by simp, rfl⟩

set_option maxHeartbeats 1000000 in
set_option maxRecDepth 100000 in
theorem field_any (s : ByteArray) (w : World) (hs : strok s) : Calls Tryz.prog 171 #[.string s] w fun e w' => BoolBelow (fieldB s) w e w' := by
  have hn := name_any s w hs
  unfold fieldB
  cases h0 : nameB s with
  | false =>
    rw [h0] at hn
    have HN := Lib.hid hn
    clear hn h0
    go_enter Tryz.func171, Tryz.ntmps171
    go_wp2_with fail
    refine HN.out.mono ?_
    rintro e w' ⟨rfl, hb⟩
    go_wp2
    go_ret
    exact ⟨rfl, hb⟩
  | true =>
    rw [h0] at hn
    have HN := Lib.hid hn
    clear hn h0
    cases h1 : (s.toList == [110, 97, 110]) <;> cases h2 : (s.toList == [105, 110, 102])
    all_goals
      have h1' := h1
      have h2' := h2
      simp at h1' h2'
      go_enter Tryz.func171, Tryz.ntmps171
      go_wp2_with fail
      refine HN.out.mono ?_
      rintro e w' ⟨rfl, hb⟩
      go_wp2
      go_ret
      exact ⟨by simp, hb⟩

set_option maxHeartbeats 2000000 in
set_option maxRecDepth 100000 in
theorem kids_any (k : Int) (w : World) : Calls Tryz.prog 140 #[.int .i64 k] w fun e w' => e = .returned (.int .i64 (wantsP k)) ∧ w = w' := by
  by_cases hk : 1 ≤ k ∧ k ≤ 23
  · have : k = 1 ∨ k = 2 ∨ k = 3 ∨ k = 4 ∨ k = 5 ∨ k = 6 ∨ k = 7 ∨ k = 8 ∨ k = 9 ∨ k = 10 ∨ k = 11 ∨ k = 12 ∨ k = 13 ∨ k = 14 ∨ k = 15 ∨ k = 16 ∨ k = 17 ∨ k = 18 ∨ k = 19 ∨ k = 20 ∨ k = 21 ∨ k = 22 ∨ k = 23 := by omega
    rcases this with rfl | rfl | rfl | rfl | rfl | rfl | rfl | rfl | rfl | rfl | rfl | rfl | rfl | rfl | rfl | rfl | rfl | rfl | rfl | rfl | rfl | rfl | rfl
    all_goals
      clear hk
      go_enter Tryz.func140, Tryz.ntmps140
      go_wp2
      go_ret
      exact ⟨rfl, rfl⟩
  · have he : wantsP k = -2 := by
      unfold wantsP
      rw [if_neg (by omega), if_neg (by omega), if_neg (by omega), if_neg (by omega), if_neg (by omega)]
    rw [he]
    clear he
    have j1 : (k == 1) = false := by simp; omega
    have j2 : (k == 2) = false := by simp; omega
    have j3 : (k == 3) = false := by simp; omega
    have j4 : (k == 4) = false := by simp; omega
    have j15 : (k == 15) = false := by simp; omega
    have j16 : (k == 16) = false := by simp; omega
    have j17 : (k == 17) = false := by simp; omega
    have j18 : (k == 18) = false := by simp; omega
    have j19 : (k == 19) = false := by simp; omega
    by_cases h1 : k < 1
    · have i1 : decide ((20 : Int) ≤ k) = false := by simp; omega
      have i2 : decide ((5 : Int) ≤ k) = false := by simp; omega
      clear hk h1
      go_enter Tryz.func140, Tryz.ntmps140
      go_wp2
      go_ret
      exact ⟨rfl, rfl⟩
    · have i1 : decide ((20 : Int) ≤ k) = true := by simp; omega
      have i2 : decide ((5 : Int) ≤ k) = true := by simp; omega
      have i3 : decide (k ≤ 23) = false := by simp; omega
      have i4 : decide (k ≤ 14) = false := by simp; omega
      clear hk h1
      go_enter Tryz.func140, Tryz.ntmps140
      go_wp2
      go_ret
      exact ⟨rfl, rfl⟩

theorem ford_none' {f : Nat} (hf : f < 18446744073709551616) : (ford f 0 == 0) = decide (f = 0) := by
  have h := ford_zero (a := f) (b := 0) hf (by omega)
  have h0 : fcan 0 = 0 := by decide
  rw [h0] at h
  by_cases hz : f = 0
  · subst hz; decide
  · have : ¬ ford f 0 = 0 := fun e => by
      have := h.1 e
      unfold fcan at this
      split at this <;> omega
    rw [decide_eq_false hz]
    simpa using this
set_option maxHeartbeats 2000000 in
set_option maxRecDepth 100000 in
theorem nothing_any (v : Val) (b o : Nat) (w : World) (h : PVal w b o v) : Calls Tryz.prog 143 #[.pointer (some ⟨b, o, none⟩)] w fun e w' => e = .returned (.bool v.noneB) ∧ w = w' := by
  obtain ⟨p4, q4, e4⟩ := h.in.nslice
  obtain ⟨p5, q5, e5⟩ := h.in.xslice
  have hf := h.in.ok.2.2.1
  have c0 := h.c0; have c1 := h.c1; have c2 := h.c2; have c3 := h.c3; have c4 := h.c4; have c5 := h.c5
  rw [e4] at c4
  rw [e5] at c5
  have hfz := ford_none' hf
  obtain ⟨k, hk⟩ : ∃ k, k = v.k := ⟨_, rfl⟩
  obtain ⟨n, hn⟩ : ∃ n, n = v.n := ⟨_, rfl⟩
  obtain ⟨f, hf'⟩ : ∃ f, f = v.f := ⟨_, rfl⟩
  obtain ⟨s, hs⟩ : ∃ s, s = v.s := ⟨_, rfl⟩
  obtain ⟨L, hL⟩ : ∃ L, L = v.ns.length := ⟨_, rfl⟩
  obtain ⟨M, hM⟩ : ∃ M, M = v.xs.length := ⟨_, rfl⟩
  have hE : v.noneB = (decide (k = 0) && decide (n = 0) && decide (f = 0) && decide (s.toList = []) && decide (L = 0) && decide (M = 0)) := by rw [hk, hn, hf', hs, hL, hM]; rfl
  obtain ⟨R, hR⟩ : ∃ R, R = v.noneB := ⟨_, rfl⟩
  rw [← hR] at hE ⊢
  rw [← hk] at c0
  rw [← hn] at c1
  rw [← hf'] at c2 hfz
  rw [← hs] at c3
  rw [← hL] at c4
  rw [← hM] at c5
  have HE := Lib.hid hE
  have hs0 := (fun W : World => forder_any f 0 W (by rw [hf']; exact hf) (by omega))
  obtain ⟨r, hr⟩ : ∃ r, r = ford f 0 := ⟨_, rfl⟩
  rw [← hr] at hs0 hfz
  have HS := Lib.hid hs0
  clear hs0 hr
  clear hE hR hk hn hs hL hM e4 e5 h
  clear hf hf'
  by_cases zk : k = 0
  case neg =>
    have HR : Hid (R = false) := Lib.hid (by rw [HE.out, decide_eq_false zk]; simp)
    have jk : (k == 0) = false := by simpa using zk
    clear zk
    clear hfz
    go_enter Tryz.func143, Tryz.ntmps143
    go_wp2_with fail
    go_wp2
    go_ret
    exact ⟨by rw [HR.out]; rfl, rfl⟩
  subst zk
  by_cases zn : n = 0
  case neg =>
    have HR : Hid (R = false) := Lib.hid (by rw [HE.out, decide_eq_false zn]; simp)
    have jn : (n == 0) = false := by simpa using zn
    clear zn
    clear hfz
    go_enter Tryz.func143, Tryz.ntmps143
    go_wp2_with fail
    go_wp2
    go_ret
    exact ⟨by rw [HR.out]; rfl, rfl⟩
  subst zn
  by_cases zf : f = 0
  case neg =>
    have HR : Hid (R = false) := Lib.hid (by rw [HE.out, decide_eq_false zf]; simp)
    rw [decide_eq_false zf] at hfz
    clear zf
    go_enter Tryz.func143, Tryz.ntmps143
    go_wp2_with fail
    refine (HS.out _).mono ?_
    rintro e w1 ⟨rfl, rfl⟩
    go_wp2
    go_ret
    exact ⟨by rw [HR.out]; rfl, rfl⟩
  rw [decide_eq_true zf] at hfz
  subst zf
  by_cases zs : s.toList = []
  case neg =>
    have HR : Hid (R = false) := Lib.hid (by rw [HE.out, decide_eq_false zs]; simp)
    have js : (s.toList == []) = false := by simpa using zs
    clear zs
    go_enter Tryz.func143, Tryz.ntmps143
    go_wp2_with fail
    refine (HS.out _).mono ?_
    rintro e w1 ⟨rfl, rfl⟩
    go_wp2
    go_ret
    exact ⟨by rw [HR.out]; rfl, rfl⟩
  have js : (s.toList == []) = true := by simpa using zs
  by_cases zL : L = 0
  case neg =>
    have HR : Hid (R = false) := Lib.hid (by rw [HE.out, decide_eq_false zL]; simp)
    have jL : ((L : Int) == 0) = false := by simp; omega
    clear zL
    go_enter Tryz.func143, Tryz.ntmps143
    go_wp2_with fail
    refine (HS.out _).mono ?_
    rintro e w1 ⟨rfl, rfl⟩
    go_wp2
    go_ret
    exact ⟨by rw [HR.out]; rfl, rfl⟩
  subst zL
  by_cases zM : M = 0
  case neg =>
    have HR : Hid (R = false) := Lib.hid (by rw [HE.out, decide_eq_false zM]; simp)
    have jM : ((M : Int) == 0) = false := by simp; omega
    clear zM
    go_enter Tryz.func143, Tryz.ntmps143
    go_wp2_with fail
    refine (HS.out _).mono ?_
    rintro e w1 ⟨rfl, rfl⟩
    go_wp2
    go_ret
    exact ⟨by rw [HR.out]; rfl, rfl⟩
  subst zM
  have HR : Hid (R = true) := Lib.hid (by rw [HE.out, decide_eq_true zs]; rfl)
  clear zs
  go_enter Tryz.func143, Tryz.ntmps143
  go_wp2_with fail
  refine (HS.out _).mono ?_
  rintro e w1 ⟨rfl, rfl⟩
  go_wp2
  go_ret
  exact ⟨by rw [HR.out]; rfl, rfl⟩
end Go.Proofs.YtaamihdibpioaaaGreat
