/- Two values are the same just if they have one normal form. Plain laws. -/
import Derived.Test.YtaamihdibpioaaaGreatJnM11
import Derived.Test.YtaamihdibpioaaaGreatJnM13
import Derived.Test.YtaamihdibpioaaaGreatJnM25
import Derived.Test.YtaamihdibpioaaaGreatJnM26
import Derived.Test.YtaamihdibpioaaaGreatJnM27
import Derived.BigGuardPart
import Derived.Deep.QuietTactic
import Derived.BigQuiet
import Derived.StillTailTactics
namespace Go.Proofs.YtaamihdibpioaaaGreat
set_option linter.unusedVariables false
open Go.RowKit

theorem sgnI_zero {a b : Int} : sgnI a b = 0 ↔ a = b := by
  unfold sgnI
  by_cases h : a < b
  · rw [if_pos h]; omega
  · rw [if_neg h]
    by_cases h' : b < a
    · rw [if_pos h']; omega
    · rw [if_neg h']; omega
theorem ford_zero_key {a b : Nat} : ford a b = 0 ↔ fkey a = fkey b := by
  unfold ford
  by_cases h : fkey a < fkey b
  · rw [if_pos h]; omega
  · rw [if_neg h]
    by_cases h' : fkey b < fkey a
    · rw [if_pos h']; omega
    · rw [if_neg h']; omega
theorem bytesLess_irrefl : ∀ l : List UInt8, Op.bytesLess l l = false
  | [] => rfl
  | a :: l => by simp [Op.bytesLess, bytesLess_irrefl l]
theorem scmp_zero {a b : ByteArray} : scmp a b = 0 ↔ a = b := by
  unfold scmp
  cases h1 : Op.bytesLess a.toList b.toList with
  | true =>
    rw [if_pos rfl]
    refine ⟨fun h => absurd h (by decide), fun h => ?_⟩
    subst h
    rw [bytesLess_irrefl] at h1
    cases h1
  | false =>
    rw [if_neg (by simp)]
    cases h2 : (a.toList == b.toList) with
    | true =>
      rw [if_pos rfl]
      refine ⟨fun _ => ?_, fun _ => rfl⟩
      have e : a.toList = b.toList := by simpa using h2
      rw [Lib.toList_data, Lib.toList_data] at e
      exact ByteArray.ext (Array.ext' e)
    | false =>
      rw [if_neg (by simp)]
      refine ⟨fun h => absurd h (by decide), fun h => ?_⟩
      subst h
      simp at h2
theorem ncmp_zero : ∀ {l m : List ByteArray}, ncmp l m = 0 ↔ l = m
  | [], [] => by simp [ncmp]
  | [], _ :: _ => by simp [ncmp]
  | _ :: _, [] => by simp [ncmp]
  | a :: l, b :: m => by
    simp only [ncmp]
    by_cases h : scmp a b = 0
    · rw [if_neg (by simpa using h), ncmp_zero, scmp_zero.1 h]
      simp
    · rw [if_pos h]
      refine ⟨fun h' => absurd h' h, fun e => ?_⟩
      injection e with e _
      exact absurd (scmp_zero.2 e) h

mutual
/-- What counts of a value. -/
def Val.nf : Val → Val
  | .mk k n f s na ns xa xs => .mk k (if k = 1 ∨ k = 2 then n else 0) (if k = 3 then (fkey f + 9223372036854775808).toNat else 0) (if k = 4 then s else ByteArray.empty) .no (if k = 6 then ns else []) .no (if k = 5 ∨ k = 6 then Val.nfAll xs else [])
def Val.nfAll : List Val → List Val
  | [] => []
  | x :: xs => x.nf :: Val.nfAll xs
end
theorem Val.nfAll_map : ∀ xs : List Val, Val.nfAll xs = xs.map Val.nf
  | [] => rfl
  | x :: xs => by rw [Val.nfAll, Val.nfAll_map xs]; rfl
theorem Val.nf_eq (v : Val) : v.nf = .mk v.k (if v.k = 1 ∨ v.k = 2 then v.n else 0) (if v.k = 3 then (fkey v.f + 9223372036854775808).toNat else 0) (if v.k = 4 then v.s else ByteArray.empty) .no (if v.k = 6 then v.ns else []) .no (if v.k = 5 ∨ v.k = 6 then v.xs.map Val.nf else []) := by
  cases v
  simp only [Val.nf, Val.nfAll_map, Val.k, Val.n, Val.f, Val.s, Val.ns, Val.xs]
  rfl
theorem fkey_nat {a b : Nat} : (fkey a + 9223372036854775808).toNat = (fkey b + 9223372036854775808).toNat ↔ fkey a = fkey b := by
  have := fkey_i64 a; have := fkey_i64 b; omega
theorem Val.nf_iff (v u : Val) : v.nf = u.nf ↔ v.k = u.k ∧ ((v.k = 1 ∨ v.k = 2) → v.n = u.n) ∧ (v.k = 3 → fkey v.f = fkey u.f) ∧ (v.k = 4 → v.s = u.s) ∧ (v.k = 6 → v.ns = u.ns) ∧ ((v.k = 5 ∨ v.k = 6) → v.xs.map Val.nf = u.xs.map Val.nf) := by
  rw [Val.nf_eq v, Val.nf_eq u]
  simp only [Val.mk.injEq, true_and, and_true]
  constructor
  · rintro ⟨hk, hn, hf, hs, hns, hxs⟩
    rw [← hk] at hn hf hs hns hxs
    refine ⟨hk, fun h => by simpa [h] using hn, fun h => ?_, fun h => by simpa [h] using hs, fun h => by simpa [h] using hns, fun h => by simpa [h] using hxs⟩
    rw [if_pos h, if_pos h] at hf
    exact fkey_nat.1 hf
  · rintro ⟨hk, hn, hf, hs, hns, hxs⟩
    rw [← hk]
    refine ⟨rfl, ?_, ?_, ?_, ?_, ?_⟩
    · split
      · rename_i h; exact hn h
      · rfl
    · split
      · rename_i h; rw [hf h]
      · rfl
    · split
      · rename_i h; exact hs h
      · rfl
    · split
      · rename_i h; exact hns h
      · rfl
    · split
      · rename_i h; exact hxs h
      · rfl
theorem rordAll_zero : ∀ {xs ys : List Val}, (∀ x, x ∈ xs → ∀ y, (x.rord y = 0 ↔ x.nf = y.nf)) → (Val.rordAll xs ys = 0 ↔ xs.map Val.nf = ys.map Val.nf)
  | [], [], _ => by simp [Val.rordAll]
  | [], _ :: _, _ => by simp [Val.rordAll]
  | _ :: _, [], _ => by simp [Val.rordAll]
  | x :: xs, y :: ys, h => by
    simp only [Val.rordAll, List.map_cons, List.cons.injEq]
    by_cases h0 : x.rord y = 0
    · rw [if_neg (by simpa using h0), rordAll_zero (fun z hz => h z (List.mem_cons_of_mem _ hz))]
      simp [(h x (by simp) y).1 h0]
    · rw [if_pos h0]
      exact ⟨fun h' => absurd h' h0, fun h' => absurd ((h x (by simp) y).2 h'.1) h0⟩
theorem Val.rord_nf (d : Nat) : ∀ (v u : Val), v.sz ≤ d → v.Kinds → (v.rord u = 0 ↔ v.nf = u.nf) := by
  induction d with
  | zero => intro v u hd; rw [Val.sz_eq] at hd; omega
  | succ d ih =>
    intro v u hd hk
    have hk2 := (Val.kinds_iff v).1 hk
    have hi : ∀ x, x ∈ v.xs → ∀ y, (x.rord y = 0 ↔ x.nf = y.nf) := fun x hx y => ih x y (by have := Val.size_mem hx; omega) (hk2.2 x hx)
    have hall := rordAll_zero (ys := u.xs) hi
    rw [Val.nf_iff, Val.rord_eq]
    by_cases h0 : v.k = u.k
    · rw [if_neg (by simpa using h0)]
      obtain ⟨hk1, hk6⟩ := hk2.1
      rcases (by omega : v.k = 1 ∨ v.k = 2 ∨ v.k = 3 ∨ v.k = 4 ∨ v.k = 5 ∨ v.k = 6) with h | h | h | h | h | h
      · simp [h, ← h0, sgnI_zero]
      · simp [h, ← h0, sgnI_zero]
      · simp [h, ← h0, ford_zero_key]
      · simp [h, ← h0, scmp_zero]
      · have hr : v.rhead u = 0 := by simp [Val.rhead, Val.rh1, h]
        rw [if_neg (by omega), if_neg (by omega), if_neg (by omega), hr, if_neg (by simp), hall]
        simp [h, ← h0]
      · have hr : v.rhead u = ncmp v.ns u.ns := by simp [Val.rhead, Val.rh1, h]
        rw [if_neg (by omega), if_neg (by omega), if_neg (by omega), hr]
        by_cases hn : ncmp v.ns u.ns = 0
        · rw [if_neg (by simp [hn]), hall]
          simp [h, ← h0, ncmp_zero.1 hn]
        · rw [if_pos hn]
          have hne : v.ns ≠ u.ns := fun e => hn (ncmp_zero.2 e)
          simp [h, ← h0, hn, hne]
    · rw [if_pos h0]
      exact ⟨fun h => absurd (sgnI_zero.1 h) h0, fun h => absurd h.1 h0⟩
/-- What is the same but for where it lies is the same. -/
theorem Val.rord_erase (d : Nat) : ∀ (v u : Val), v.sz ≤ d → v.erase = u.erase → v.rord u = 0 := by
  induction d with
  | zero => intro v u hd; rw [Val.sz_eq] at hd; omega
  | succ d ih =>
    intro v u hd he
    rw [Val.erase_eq, Val.erase_eq u] at he
    injection he with e1 e2 e3 e4 _ e5 _ e6
    rw [Val.rord_eq, e1, e2, e3, e4]
    have hall : ∀ (xs ys : List Val), (∀ x, x ∈ xs → x ∈ v.xs) → xs.map Val.erase = ys.map Val.erase → Val.rordAll xs ys = 0 := fun xs => by
      induction xs with
      | nil => intro ys _ h; cases ys with
        | nil => rfl
        | cons y ys => simp at h
      | cons x xs ihx =>
        intro ys hm h
        cases ys with
        | nil => simp at h
        | cons y ys =>
          simp only [List.map_cons, List.cons.injEq] at h
          simp only [Val.rordAll]
          have hx := hm x (by simp)
          rw [ih x y (by have := Val.size_mem hx; omega) h.1, if_neg (by simp)]
          exact ihx ys (fun z hz => hm z (List.mem_cons_of_mem _ hz)) h.2
    have hr : v.rhead u = 0 := by
      have h1 : v.rh1 u = 0 := by
        unfold Val.rh1
        rw [e2, e4, sgnI_refl]
        simp [scmp_zero]
      unfold Val.rhead
      rw [h1, e5]
      split
      · exact ncmp_zero.2 rfl
      · rfl
    rw [if_neg (by simp)]
    split
    · exact sgnI_refl _
    · split
      · exact ford_eq rfl
      · split
        · exact scmp_zero.2 rfl
        · rw [hr, if_neg (by simp)]
          exact hall v.xs u.xs (fun x hx => hx) e6
theorem rightAll_mem : ∀ {xs : List Val} {d : Nat}, Val.rightAll xs d = true → ∀ x, x ∈ xs → x.rightB d = true
  | [], _, _, x, hx => by simp at hx
  | y :: xs, d, h, x, hx => by
    simp only [Val.rightAll, Bool.and_eq_true] at h
    rcases List.mem_cons.1 hx with rfl | hx
    · exact h.1
    · exact rightAll_mem h.2 x hx
theorem bare_xs {v : Val} {n f s : Bool} (h : bareB v n f s false = true) : v.xs = [] := by
  unfold bareB at h
  simp only [Bool.and_eq_true, Bool.false_or, decide_eq_true_eq] at h
  exact List.length_eq_zero_iff.1 h.2.2
theorem Val.kinds_of_right (d : Nat) : ∀ (v : Val) (deep : Nat), v.sz ≤ d → v.rightB deep = true → v.Kinds := by
  induction d with
  | zero => intro v deep hd; rw [Val.sz_eq] at hd; omega
  | succ d ih =>
    intro v deep hd h
    rw [Val.rightB_eq] at h
    rw [Val.kinds_iff]
    by_cases h12 : 12 < deep
    · rw [if_pos h12] at h; cases h
    rw [if_neg h12] at h
    have nil : v.xs = [] → ∀ x, x ∈ v.xs → x.Kinds := fun e x hx => by rw [e] at hx; simp at hx
    by_cases h1 : v.k = 1
    · rw [if_pos h1, Bool.and_eq_true] at h; exact ⟨by omega, nil (bare_xs h.1)⟩
    rw [if_neg h1] at h
    by_cases h2 : v.k = 2
    · rw [if_pos h2] at h; exact ⟨by omega, nil (bare_xs h)⟩
    rw [if_neg h2] at h
    by_cases h3 : v.k = 3
    · rw [if_pos h3] at h; exact ⟨by omega, nil (bare_xs h)⟩
    rw [if_neg h3] at h
    by_cases h4 : v.k = 4
    · rw [if_pos h4, Bool.and_eq_true] at h; exact ⟨by omega, nil (bare_xs h.1)⟩
    rw [if_neg h4] at h
    by_cases h5 : v.k = 5
    · rw [if_pos h5, Bool.and_eq_true] at h
      exact ⟨by omega, fun x hx => ih x (deep + 1) (by have := Val.size_mem hx; omega) (rightAll_mem h.2 x hx)⟩
    rw [if_neg h5] at h
    by_cases h6 : v.k = 6
    · rw [if_pos h6, Bool.and_eq_true] at h
      exact ⟨by omega, fun x hx => ih x (deep + 1) (by have := Val.size_mem hx; omega) (rightAll_mem h.2 x hx)⟩
    rw [if_neg h6] at h
    cases h
theorem Val.RightB.kinds {v : Val} (h : v.RightB = true) : v.Kinds := by
  unfold Val.RightB at h
  rw [Bool.and_eq_true] at h
  exact Val.kinds_of_right v.sz v 1 (Nat.le_refl _) h.2
end Go.Proofs.YtaamihdibpioaaaGreat

/- May it be a type? (printed by wip/gen_tyright.py) -/
namespace Go.Proofs.YtaamihdibpioaaaGreat
set_option linter.unusedVariables false
open Go.RowKit

mutual
def Ty.rightB : Ty → Nat → Bool
  | .mk k na ns xa xs, deep =>
    if 12 < deep then false
    else if k = 5 then decide (ns.length = 0) && decide (xs.length = 1) && Ty.rightAll xs (deep + 1)
    else if k = 6 then decide (ns.length = xs.length) && risingB ns && Ty.rightAll xs (deep + 1)
    else if 1 ≤ k ∧ k ≤ 7 then decide (ns.length = 0) && decide (xs.length = 0)
    else false
def Ty.rightAll : List Ty → Nat → Bool
  | [], _ => true
  | x :: xs, deep => x.rightB deep && Ty.rightAll xs deep
end
theorem Ty.rightB_eq (v : Ty) (deep : Nat) : v.rightB deep =
    if 12 < deep then false
    else if v.k = 5 then decide (v.ns.length = 0) && decide (v.xs.length = 1) && Ty.rightAll v.xs (deep + 1)
    else if v.k = 6 then decide (v.ns.length = v.xs.length) && risingB v.ns && Ty.rightAll v.xs (deep + 1)
    else if 1 ≤ v.k ∧ v.k ≤ 7 then decide (v.ns.length = 0) && decide (v.xs.length = 0)
    else false := by
  cases v
  simp only [Ty.rightB, Ty.k, Ty.ns, Ty.xs]
  rfl
theorem trightAll_mem {xs : List Ty} {deep : Nat} (h : Ty.rightAll xs deep = true) : ∀ x, x ∈ xs → x.rightB deep = true := by
  induction xs with
  | nil => intro x hx; simp at hx
  | cons y ys ih =>
    simp only [Ty.rightAll, Bool.and_eq_true] at h
    intro x hx
    rcases List.mem_cons.1 hx with rfl | hx
    · exact h.1
    · exact ih h.2 x hx
def Ty.RightB (v : Ty) : Bool := decide (v.count 0 ≤ 200) && v.rightB 1

end Go.Proofs.YtaamihdibpioaaaGreat

/- The document's answer: may it be a type? (printed by wip/gen_reftright.py) -/
namespace Go.Proofs.YtaamihdibpioaaaGreat
set_option linter.unusedVariables false
open Go.RowKit

end Go.Proofs.YtaamihdibpioaaaGreat

/- The document's TypeRight. -/
namespace Go.Proofs.YtaamihdibpioaaaGreat
set_option linter.unusedVariables false
open Go.RowKit

end Go.Proofs.YtaamihdibpioaaaGreat

/- value.TypeRight. -/
namespace Go.Proofs.YtaamihdibpioaaaGreat
set_option linter.unusedVariables false
open Go.RowKit

end Go.Proofs.YtaamihdibpioaaaGreat

/- The document's answers: are two values the same? -/
namespace Go.Proofs.YtaamihdibpioaaaGreat
set_option linter.unusedVariables false
open Go.RowKit

def Val.rsame (v u : Val) : Bool := v.rord u == 0
end Go.Proofs.YtaamihdibpioaaaGreat

/- basculeref05.SameType of any two types: whether they are one but for their places. -/
namespace Go.Proofs.YtaamihdibpioaaaGreat
set_option linter.unusedVariables false
open Go.RowKit

mutual
/-- Are they one, but for where they lie? -/
def Ty.sameB : Ty → Ty → Bool
  | .mk k _ ns _ xs, .mk k' _ ns' _ xs' => decide (k = k') && decide (ns = ns') && Ty.sameAll xs xs'
def Ty.sameAll : List Ty → List Ty → Bool
  | [], [] => true
  | [], _ :: _ => false
  | _ :: _, [] => false
  | x :: xs, y :: ys => x.sameB y && Ty.sameAll xs ys
end
end Go.Proofs.YtaamihdibpioaaaGreat

/- types.Same of any two types, with slices.Equal and slices.EqualFunc: whether they are one but for their places. -/
namespace Go.Proofs.YtaamihdibpioaaaGreat
set_option linter.unusedVariables false
open Go.RowKit

end Go.Proofs.YtaamihdibpioaaaGreat
