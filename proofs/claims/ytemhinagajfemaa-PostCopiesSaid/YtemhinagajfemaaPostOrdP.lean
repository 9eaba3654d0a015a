/- Put with any values, told at once; messages of two keys, in order (plain). -/
import Derived.Test.YtemhinagajfemaaPostAwake
import Derived.Test.YtemhinagajfemaaValNf
namespace Go.Proofs.Ytemhinagajfemaa
set_option linter.unusedVariables false
open Go.RowKit

/-- Put answers; the box has one message more just if it answers 0. -/
def PutR (g : Nat) (ms : List (Val × Val)) (v u : Val) (w : World) (e : Ending) (w' : World) : Prop :=
  ∃ (c : Int) (ms' : List (Val × Val)), e = .returned (.int .i64 c) ∧ BoxAt w' g ms' ∧ Only w w' g ∧ ((c ≠ 0 ∧ ms' = ms) ∨
    (c = 0 ∧ v.RightB = true ∧ u.RightB = true ∧ ∃ a b : Val, ms' = ms ++ [(a, b)] ∧ a.erase = v.canon ∧ b.erase = u.canon ∧ a.Sep (fun x => w.heap.size ≤ x) ∧ b.Sep (fun x => w.heap.size ≤ x)))
theorem put_any (v u : Val) (g : Nat) (ms : List (Val × Val)) (w : World) (hv : v.In w) (hu : u.In w) (hbx : BoxAt w g ms) :
    Calls Try.prog 26 #[.pointer (some ⟨g, 0, none⟩), v.agg, u.agg] w fun e w' => PutR g ms v u w e w' := by
  cases h1 : v.RightB
  · exact (put_arg v u g w hv hu (.inl h1)).mono fun e w' h => ⟨2, ms, h.1, hbx.below h.2, Only.of_below h.2 g, .inl ⟨by decide, rfl⟩⟩
  · cases h2 : u.RightB
    · exact (put_arg v u g w hv hu (.inr h2)).mono fun e w' h => ⟨2, ms, h.1, hbx.below h.2, Only.of_below h.2 g, .inl ⟨by decide, rfl⟩⟩
    · refine (put_ok v u g ms w hv hu h1 h2 hbx).mono fun e w' h => ?_
      rcases h with ⟨_, he, hb⟩ | ⟨_, a, b, he, hb, ea, eb, ho, sa, sb⟩
      · exact ⟨4, ms, he, hbx.below hb, Only.of_below hb g, .inl ⟨by decide, rfl⟩⟩
      · exact ⟨0, _, he, hb, ho, .inr ⟨rfl, h1, h2, a, b, rfl, ea, eb, sa, sb⟩⟩

/-- Messages, those of key K with bodies us in order, and r others, of key O. -/
inductive Ordd (K O : Val) : List (Val × Val) → List Val → Nat → Prop where
  | nil : Ordd K O [] [] 0
  | mine {a b u : Val} {ms : List (Val × Val)} {us : List Val} {r : Nat} (h1 : a.nf = K) (h2 : a.Kinds) (h3 : b.Kinds) (h4 : b.nf = u.nf) (h : Ordd K O ms us r) : Ordd K O ((a, b) :: ms) (u :: us) r
  | other {a b : Val} {ms : List (Val × Val)} {us : List Val} {r : Nat} (h1 : a.nf = O) (h2 : a.Kinds) (h : Ordd K O ms us r) : Ordd K O ((a, b) :: ms) us (r + 1)
section
variable {K O : Val} {ms : List (Val × Val)} {us : List Val} {r : Nat}
theorem Ordd.snoc_mine (h : Ordd K O ms us r) {a b u : Val} (h1 : a.nf = K) (h2 : a.Kinds) (h3 : b.Kinds) (h4 : b.nf = u.nf) : Ordd K O (ms ++ [(a, b)]) (us ++ [u]) r := by
  induction h with
  | nil => exact .mine h1 h2 h3 h4 .nil
  | mine k1 k2 k3 k4 _ ih => exact .mine k1 k2 k3 k4 ih
  | other k1 k2 _ ih => exact .other k1 k2 ih
theorem Ordd.snoc_other (h : Ordd K O ms us r) {a b : Val} (h1 : a.nf = O) (h2 : a.Kinds) : Ordd K O (ms ++ [(a, b)]) us (r + 1) := by
  induction h with
  | nil => exact .other h1 h2 .nil
  | mine k1 k2 k3 k4 _ ih => exact .mine k1 k2 k3 k4 ih
  | other k1 k2 _ ih => exact .other k1 k2 ih
theorem Ordd.len (h : Ordd K O ms us r) : ms.length = us.length + r := by
  induction h with
  | nil => rfl
  | mine _ _ _ _ _ ih => simp only [List.length_cons, ih]; omega
  | other _ _ _ ih => simp only [List.length_cons, ih]; omega
theorem Ordd.kinds (h : Ordd K O ms us r) : ∀ m, m ∈ ms → m.1.Kinds := by
  induction h with
  | nil => intro m hm; simp at hm
  | mine _ k2 _ _ _ ih =>
    intro m hm
    rcases List.mem_cons.1 hm with rfl | hm
    · exact k2
    · exact ih m hm
  | other _ k2 _ ih =>
    intro m hm
    rcases List.mem_cons.1 hm with rfl | hm
    · exact k2
    · exact ih m hm
theorem Ordd.none (h : Ordd K O ms [] r) (hne : K ≠ O) : ∀ m, m ∈ ms → m.1.nf ≠ K := by
  generalize hu : ([] : List Val) = us at h
  induction h with
  | nil => intro m hm; simp at hm
  | mine => cases hu
  | other k1 k2 _ ih =>
    intro m hm
    rcases List.mem_cons.1 hm with rfl | hm
    · intro e; exact hne (e.symm.trans k1)
    · exact ih hu m hm
/-- The first one of that key is the first of the bodies. -/
theorem Ordd.take {u : Val} (h : Ordd K O ms (u :: us) r) (hne : K ≠ O) {i : Nat} {a b : Val} (hi : ms[i]? = some (a, b)) (hno : ∀ j m, j < i → ms[j]? = some m → m.1.nf ≠ K) (ha : a.nf = K) :
    b.Kinds ∧ b.nf = u.nf ∧ Ordd K O (ms.eraseIdx i) us r := by
  generalize hu : u :: us = vs at h
  induction h generalizing i with
  | nil => simp at hi
  | mine k1 k2 k3 k4 hr ih =>
    injection hu with e1 e2
    cases i with
    | zero =>
      simp at hi
      obtain ⟨rfl, rfl⟩ := hi
      rw [e1, e2]
      exact ⟨k3, k4, hr⟩
    | succ i => exact absurd k1 (hno 0 _ (by omega) rfl)
  | other k1 k2 hr ih =>
    cases i with
    | zero =>
      simp at hi
      obtain ⟨rfl, rfl⟩ := hi
      exact absurd (ha.symm.trans k1) hne
    | succ i =>
      obtain ⟨q1, q2, q3⟩ := ih (i := i) (by simpa using hi) (fun j m hj hm => hno (j + 1) m (by omega) (by simpa using hm)) hu
      exact ⟨q1, q2, .other k1 k2 q3⟩
theorem Ordd.has {u : Val} (h : Ordd K O ms (u :: us) r) : ∃ m, m ∈ ms ∧ m.1.nf = K := by
  generalize hu : u :: us = vs at h
  induction h with
  | nil => cases hu
  | mine k1 => exact ⟨_, List.mem_cons_self .., k1⟩
  | other _ _ _ ih =>
    obtain ⟨m, hm, e⟩ := ih hu
    exact ⟨m, List.mem_cons_of_mem _ hm, e⟩
end
/-- Taking a message of key K: it is the first of the bodies. -/
def TakeU (g : Nat) (K O : Val) (u : Val) (us : List Val) (r : Nat) (ms : List (Val × Val)) (w : World) (e : Ending) (w' : World) : Prop :=
  ∃ (b : Val) (i : Nat), e = .returned (.tuple #[b.agg, .bool true]) ∧ BoxAt w' g (ms.eraseIdx i) ∧ Only w w' g ∧ b.In w' ∧ b.Kinds ∧ b.nf = u.nf ∧ Ordd K O (ms.eraseIdx i) us r
theorem take_u (key : Val) (g : Nat) {O u : Val} {us : List Val} {r : Nat} (ms : List (Val × Val)) (w : World) (hk : key.In w) (hbx : BoxAt w g ms) (ho : Ordd key.nf O ms (u :: us) r) (hne : key.nf ≠ O) :
    Calls Try.prog 27 #[.pointer (some ⟨g, 0, none⟩), key.agg] w fun e w' => TakeU g key.nf O u us r ms w e w' := by
  refine (take_ok key g ms w hk hbx ho.kinds).mono fun e w' h => ?_
  rcases h with ⟨hno, _⟩ | ⟨i, a, b, hm, hno, hs, rfl, hb, hon⟩
  · exfalso
    obtain ⟨m, hm, e⟩ := ho.has
    have := hno m hm
    rw [(Val.same_nf (ho.kinds m hm)).2 e] at this
    cases this
  · have hmm : (a, b) ∈ ms := List.mem_of_getElem? hm
    have ha : a.nf = key.nf := (Val.same_nf (ho.kinds _ hmm)).1 hs
    obtain ⟨q1, q2, q3⟩ := ho.take hne hm (fun j m hj hm => (Val.same_nf_false (ho.kinds m (List.mem_of_getElem? hm))).1 (hno j m hj hm)) ha
    obtain ⟨_, h3, h4⟩ := hbx.2.2 _ hmm
    exact ⟨b, i, rfl, hb, hon, h3.carryS h4 hon.cellN hon.size, q1, q2, q3⟩
theorem take_none_of (key : Val) (g : Nat) {O : Val} {r : Nat} (ms : List (Val × Val)) (w : World) (hk : key.In w) (hbx : BoxAt w g ms) (ho : Ordd key.nf O ms [] r) (hne : key.nf ≠ O) :
    Calls Try.prog 27 #[.pointer (some ⟨g, 0, none⟩), key.agg] w fun e w' => NoneTaken w e w' := by
  refine (take_ok key g ms w hk hbx ho.kinds).mono fun e w' h => ?_
  rcases h with ⟨_, h⟩ | ⟨i, a, b, hm, _, hs, _⟩
  · exact h
  · exfalso
    have hmm : (a, b) ∈ ms := List.mem_of_getElem? hm
    exact ho.none hne _ hmm ((Val.same_nf (ho.kinds _ hmm)).1 hs)
end Go.Proofs.Ytemhinagajfemaa
