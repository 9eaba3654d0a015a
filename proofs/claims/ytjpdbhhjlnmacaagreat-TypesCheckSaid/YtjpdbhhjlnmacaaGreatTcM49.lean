/- Words for basculeref09.own; plain lemmas (printed by wip/gen_refown.py). -/
import Derived.Test.YtjpdbhhjlnmacaaGreatTcM14
import Derived.Test.YtjpdbhhjlnmacaaGreatTcM18
import Derived.Test.YtjpdbhhjlnmacaaGreatTcM32
import Derived.Test.YtjpdbhhjlnmacaaGreatTcM35
import Derived.Test.YtjpdbhhjlnmacaaGreatTcM37
import Derived.Test.YtjpdbhhjlnmacaaGreatTcM38
import Derived.Test.YtjpdbhhjlnmacaaGreatTcM40
import Derived.Test.YtjpdbhhjlnmacaaGreatTcM44
import Derived.Test.YtjpdbhhjlnmacaaGreatTcM46
import Derived.Test.YtjpdbhhjlnmacaaGreatTcM47
import Derived.Test.YtjpdbhhjlnmacaaGreatTcM48
namespace Go.Proofs.YtjpdbhhjlnmacaaGreat
set_option linter.unusedVariables false
open Go.RowKit

/-- What own works on. -/
structure ROwnIn (x : Exp) (K : Ty) (vp : Option Addr) (vc : Nat) (vs : List Var) (P : Nat → Prop) (w : World) : Prop where
  hP : ∀ b, P b → b < w.heap.size
  hx : x.In w
  hxs : x.Sep P
  hv : VarsIn w vp vc vs
  hvs : ∀ v, v ∈ vs → v.t.Sep P
  hK : K.In w
  hKS : K.Sep P
  hKR : ∀ k, k ∈ K.xs → k.rightB 1 = true
theorem ROwnIn.below {x : Exp} {K : Ty} {vp : Option Addr} {vc : Nat} {vs : List Var} {P : Nat → Prop} {w w' : World} (h : ROwnIn x K vp vc vs P w) (hb : Below w.heap.size w w') : ROwnIn x K vp vc vs P w' :=
  ⟨fun b hb' => Nat.lt_of_lt_of_le (h.hP b hb') hb.size, h.hx.below hb, h.hxs, h.hv.below hb, h.hvs, h.hK.below hb, h.hKS, h.hKR⟩
theorem ROwnIn.kids {x : Exp} {K : Ty} {vp : Option Addr} {vc : Nat} {vs : List Var} {P : Nat → Prop} {w : World} (h : ROwnIn x K vp vc vs P w) : ∃ p c, K.xa.val K.xs.length = .slice p K.xs.length c ∧ TKids w p c K.xs := by
  obtain ⟨p, c, e, ha⟩ := titems_at h.hK
  have hc : K.xs.length ≤ c := by
    by_cases h0 : 0 < K.xs.length
    · obtain ⟨_, _, _, _, h'⟩ := ha 0 h0; exact h'
    · omega
  exact ⟨p, c, e, h.hK.ok.2.2.1, hc, fun i hi => by obtain ⟨b, o, h1, h2, _⟩ := ha i hi; exact ⟨b, o, h1, h2⟩⟩
/-- Where it begins: the expression, room for the result, no type. -/
structure G0 (w W : World) (x : Exp) : Prop where
  below : Below w.heap.size w W
  bx : Blk W w.heap.size 29 x.cells.toArray
  br : Blk W (w.heap.size + 1) 36 #[.int .i64 0, .slice none 0 0, .slice none 0 0]
  bb : Blk W (w.heap.size + 1 + 1) 36 #[.int .i64 0, .slice none 0 0, .slice none 0 0]
  size : W.heap.size = w.heap.size + 1 + 1 + 1
theorem g0_start (w : World) (x : Exp) : G0 w (((w.alloc (.cells x.cells.toArray 29)).alloc (.cells #[.int .i64 0, .slice none 0 0, .slice none 0 0] 36)).alloc (.cells #[.int .i64 0, .slice none 0 0, .slice none 0 0] 36)) x := by
  have h := f0_start w x Ty.zero
  exact ⟨h.below, h.bx, h.bt, h.br, h.size⟩
theorem own_un {x : Exp} {ks : List Ty} {vs : List Var} (h : ks.length = 1) (hk : x.k = 3 ∨ x.k = 4 ∨ (20 ≤ x.k ∧ x.k ≤ 23)) : ownP x ks vs = if (nthT ks 0).k ∈ wantU x.k then .ok (outU x.k (nthT ks 0)).erase else .error 6 := by
  unfold ownP
  rw [if_neg (by omega), if_neg (by omega), if_neg (by omega), if_neg (by omega), if_neg (by omega), if_neg (by omega), if_neg (by omega), if_pos h]
  unfold toE unaryP
  by_cases hm : (nthT ks 0).k ∈ wantU x.k
  · rw [if_pos hm, if_pos hm]
  · rw [if_neg hm, if_neg hm]
/-- Scalars of one kind join; what joins is of one kind, or none is known. -/
theorem flat_right {a : Ty} {n : Nat} (h : a.rightB n = true) (h1 : 1 ≤ a.k) (h4 : a.k ≤ 4) : a.ns = [] ∧ a.xs = [] := by
  rw [Ty.rightB_eq] at h
  split at h
  · cases h
  split at h
  · omega
  split at h
  · omega
  split at h
  · simp only [Bool.and_eq_true, decide_eq_true_eq] at h
    exact ⟨List.eq_nil_of_length_eq_zero h.1, List.eq_nil_of_length_eq_zero h.2⟩
  · cases h
theorem flat_joins {a b : Ty} {n m : Nat} (ha : a.rightB n = true) (hb : b.rightB m = true) (hk : a.k = b.k) (h1 : 1 ≤ a.k) (h4 : a.k ≤ 4) : a.joinT b ≠ none := by
  obtain ⟨x1, x2⟩ := flat_right ha h1 h4
  obtain ⟨y1, y2⟩ := flat_right hb (by omega) (by omega)
  rw [Ty.joinT_eq, if_neg (by omega), if_neg (by omega), if_pos ⟨hk, by rw [x1, y1]⟩, x2, y2]
  simp [Ty.joinAll]
theorem flat_same {a b : Ty} {n m : Nat} (ha : a.rightB n = true) (hb : b.rightB m = true) (hk : a.k = b.k) (h1 : 1 ≤ a.k) (h4 : a.k ≤ 4) : a.joinT b = some (Ty.of a.k) := by
  obtain ⟨x1, x2⟩ := flat_right ha h1 h4
  obtain ⟨y1, y2⟩ := flat_right hb (by omega) (by omega)
  rw [Ty.joinT_eq, if_neg (by omega), if_neg (by omega), if_pos ⟨hk, by rw [x1, y1]⟩, x2, y2, x1]
  simp [Ty.joinAll]
theorem joins_kind {a b t : Ty} (h : a.joinT b = some t) : a.k = b.k ∨ a.k = 7 ∨ b.k = 7 := by
  rw [Ty.joinT_eq] at h
  split at h
  · exact .inr (.inl (by assumption))
  split at h
  · exact .inr (.inr (by assumption))
  split at h
  · rename_i h2; exact .inl h2.1
  · cases h
theorem pair_own {x : Exp} {ks : List Ty} {vs : List Var} (h : ks.length = 2) (hr : ∀ k, k ∈ ks → k.rightB 1 = true) (h5 : 5 ≤ x.k) (h14 : x.k ≤ 14) : ownP x ks vs = pairP x.k ks := by
  unfold ownP
  rw [if_neg (by omega), if_neg (by omega), if_neg (by omega), if_neg (by omega), if_neg (by omega), if_neg (by omega), if_neg (by omega), if_neg (by omega)]
  obtain ⟨a, ha⟩ : ∃ a, a = nthT ks 0 := ⟨_, rfl⟩
  obtain ⟨d, hd⟩ : ∃ d, d = nthT ks 1 := ⟨_, rfl⟩
  have har : a.rightB 1 = true := hr a (by rw [ha]; simp [nthT, List.getD_eq_getElem?_getD, h])
  have hdr : d.rightB 1 = true := hr d (by rw [hd]; simp [nthT, List.getD_eq_getElem?_getD, h])
  have hno : a.joinT d = none → ∀ c, 1 ≤ c → c ≤ 4 → ¬ (a.k = c ∧ d.k = c) := fun hj c h1 h4 hc => flat_joins har hdr (by omega) (by omega) (by omega) hj
  have h1t : ∀ t, a.joinT d = some t → a.k = 1 → d.k = 1 → t = Ty.of 1 := fun t hj h1 h2 => by
    have := flat_same har hdr (by omega) (by omega) (by omega)
    rw [hj, h1] at this
    injection this
  have hye : ∀ t, a.joinT d = some t → a.k = d.k ∨ a.k = 7 ∨ d.k = 7 := fun t hj => joins_kind hj
  unfold pairP binaryP bothP
  rw [← ha, ← hd]
  obtain ⟨k, hk⟩ : ∃ k, k = x.k := ⟨_, rfl⟩
  obtain ⟨p, hp⟩ : ∃ p, p = a.k := ⟨_, rfl⟩
  obtain ⟨q, hq⟩ : ∃ q, q = d.k := ⟨_, rfl⟩
  rw [← hk] at h5 h14 ⊢
  rw [← hp, ← hq] at hno hye h1t ⊢
  cases hj : a.joinT d with
  | none =>
    have h1 := hno hj 1 (by omega) (by omega)
    have h2 := hno hj 2 (by omega) (by omega)
    have h3 := hno hj 3 (by omega) (by omega)
    have h4 := hno hj 4 (by omega) (by omega)
    have e1 : (decide (p = 1) && decide (q = 1)) = false := by rw [Bool.eq_false_iff]; intro hh; simp only [Bool.and_eq_true, decide_eq_true_eq] at hh; exact h1 hh
    have e2 : (decide (p = 2) && decide (q = 2)) = false := by rw [Bool.eq_false_iff]; intro hh; simp only [Bool.and_eq_true, decide_eq_true_eq] at hh; exact h2 hh
    have e3 : (decide (p = 3) && decide (q = 3)) = false := by rw [Bool.eq_false_iff]; intro hh; simp only [Bool.and_eq_true, decide_eq_true_eq] at hh; exact h3 hh
    have e4 : (decide (p = 4) && decide (q = 4)) = false := by rw [Bool.eq_false_iff]; intro hh; simp only [Bool.and_eq_true, decide_eq_true_eq] at hh; exact h4 hh
    rw [e1, e2, e3, e4]
    simp [toE]
  | some t =>
    have hy := hye t hj
    have key : ∀ l : List Int, (∀ c, c ∈ l → c ≠ 7) → ((p ∈ l ∧ q ∈ l) ↔ l.any (fun c => decide (p = c) && decide (q = c)) = true) := fun l hl => by
      simp only [List.any_eq_true, Bool.and_eq_true, decide_eq_true_eq]
      constructor
      · rintro ⟨h1, h2⟩
        have := hl p h1
        have := hl q h2
        exact ⟨p, h1, rfl, by omega⟩
      · rintro ⟨c, h1, rfl, rfl⟩
        exact ⟨h1, h1⟩
    rcases (show k = 5 ∨ k = 6 ∨ k = 7 ∨ k = 8 ∨ k = 9 ∨ k = 10 ∨ k = 11 ∨ k = 12 ∨ k = 13 ∨ k = 14 by omega) with h | h | h | h | h | h | h | h | h | h <;> subst h
    · have hc := key [2, 3, 4, 5] (by decide)
      simp only [wantB, Option.bind_some, Option.getD_some, Option.isSome_some, Bool.and_true, if_true, if_false, reduceIte, Int.reduceEq, or_false, false_or, or_self, hc, List.any_cons, List.any_nil, Bool.or_false, Bool.or_assoc]
      split <;> rfl
    · have hc := key [2, 3] (by decide)
      simp only [wantB, Option.bind_some, Option.getD_some, Option.isSome_some, Bool.and_true, if_true, if_false, reduceIte, Int.reduceEq, or_false, false_or, or_self, hc, List.any_cons, List.any_nil, Bool.or_false, Bool.or_assoc]
      split <;> rfl
    · have hc := key [2, 3] (by decide)
      simp only [wantB, Option.bind_some, Option.getD_some, Option.isSome_some, Bool.and_true, if_true, if_false, reduceIte, Int.reduceEq, or_false, false_or, or_self, hc, List.any_cons, List.any_nil, Bool.or_false, Bool.or_assoc, true_or, or_true]
      split <;> rfl
    · have hc := key [2, 3] (by decide)
      simp only [wantB, Option.bind_some, Option.getD_some, Option.isSome_some, Bool.and_true, if_true, if_false, reduceIte, Int.reduceEq, or_false, false_or, or_self, hc, List.any_cons, List.any_nil, Bool.or_false, Bool.or_assoc, true_or, or_true]
      split <;> rfl
    · have hc := key [2] (by decide)
      simp only [wantB, Option.bind_some, Option.getD_some, Option.isSome_some, Bool.and_true, if_true, if_false, reduceIte, Int.reduceEq, or_false, false_or, or_self, hc, List.any_cons, List.any_nil, Bool.or_false, Bool.or_assoc]
      split <;> rfl
    · simp only [Option.bind_some, Option.getD_some, Option.isSome_some, if_true, if_false, reduceIte, Int.reduceEq, or_self]
      rfl
    · have hc := key [2, 3, 4] (by decide)
      simp only [wantB, Option.bind_some, Option.getD_some, Option.isSome_some, Bool.and_true, if_true, if_false, reduceIte, Int.reduceEq, or_false, false_or, or_self, hc, List.any_cons, List.any_nil, Bool.or_false, Bool.or_assoc, true_or, or_true]
      split <;> rfl
    · have hc := key [2, 3, 4] (by decide)
      simp only [wantB, Option.bind_some, Option.getD_some, Option.isSome_some, Bool.and_true, if_true, if_false, reduceIte, Int.reduceEq, or_false, false_or, or_self, hc, List.any_cons, List.any_nil, Bool.or_false, Bool.or_assoc, true_or, or_true]
      split <;> rfl
    · have hc := key [1] (by decide)
      simp only [wantB, Option.bind_some, Option.getD_some, Option.isSome_some, Bool.and_true, if_true, if_false, reduceIte, Int.reduceEq, or_false, false_or, or_self, hc, List.any_cons, List.any_nil, Bool.or_false, Bool.or_assoc, true_or, or_true]
      split
      · rename_i hh
        simp only [Bool.and_eq_true, decide_eq_true_eq] at hh
        rw [h1t t hj hh.1 hh.2]; rfl
      · rfl
    · have hc := key [1] (by decide)
      simp only [wantB, Option.bind_some, Option.getD_some, Option.isSome_some, Bool.and_true, if_true, if_false, reduceIte, Int.reduceEq, or_false, false_or, or_self, hc, List.any_cons, List.any_nil, Bool.or_false, Bool.or_assoc, true_or, or_true]
      split
      · rename_i hh
        simp only [Bool.and_eq_true, decide_eq_true_eq] at hh
        rw [h1t t hj hh.1 hh.2]; rfl
      · rfl
end Go.Proofs.YtjpdbhhjlnmacaaGreat

/- Words that the laws of layer 9 share. -/
namespace Go.Proofs.YtjpdbhhjlnmacaaGreat
set_option linter.unusedVariables false
open Go.RowKit

end Go.Proofs.YtjpdbhhjlnmacaaGreat

/- Words that the laws on types.Check share (printed by wip/gen_typesparts.py). -/
namespace Go.Proofs.YtjpdbhhjlnmacaaGreat
set_option linter.unusedVariables false
open Go.RowKit

/-- What a check answers, both ways at once. -/
def CAns (x : Exp) (vs : List Var) (T : Ty) (k : Int) : Prop := (k = 0 ∧ checkF x vs = .ok T.erase) ∨ (k ≠ 0 ∧ checkF x vs = .error k ∧ T.erase = Ty.zero)
theorem cells10 {W : World} {Q : Nat} {T : TypeId} {v0 v1 v2 v3 v4 v5 v6 v7 v8 v9 : Value} (h : Blk W Q T #[v0, v1, v2, v3, v4, v5, v6, v7, v8, v9]) : ∀ W', Below W.heap.size W W' → W'.cell? ⟨Q, 0, none⟩ = some v0 ∧ W'.cell? ⟨Q, 1, none⟩ = some v1 ∧ W'.cell? ⟨Q, 2, none⟩ = some v2 ∧ W'.cell? ⟨Q, 3, none⟩ = some v3 ∧ W'.cell? ⟨Q, 4, none⟩ = some v4 ∧ W'.cell? ⟨Q, 5, none⟩ = some v5 ∧ W'.cell? ⟨Q, 6, none⟩ = some v6 ∧ W'.cell? ⟨Q, 7, none⟩ = some v7 ∧ W'.cell? ⟨Q, 8, none⟩ = some v8 ∧ W'.cell? ⟨Q, 9, none⟩ = some v9 := fun W' hb =>
  ⟨(h.below hb h.lt).cell 0, (h.below hb h.lt).cell 1, (h.below hb h.lt).cell 2, (h.below hb h.lt).cell 3, (h.below hb h.lt).cell 4, (h.below hb h.lt).cell 5, (h.below hb h.lt).cell 6, (h.below hb h.lt).cell 7, (h.below hb h.lt).cell 8, (h.below hb h.lt).cell 9⟩
end Go.Proofs.YtjpdbhhjlnmacaaGreat
