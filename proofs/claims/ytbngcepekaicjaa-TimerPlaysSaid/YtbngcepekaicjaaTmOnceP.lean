/- Each comes due just once: the plain part; a wheel beside a map. -/
import Derived.Test.YtbngcepekaicjaaTmOpenI
import Derived.Test.YtbngcepekaicjaaAppendAny
namespace Go.Proofs.Ytbngcepekaicjaa
set_option linter.unusedVariables false
open Go.RowKit

/-- The map at m holds just the pairs of L. -/
def MapL (w : World) (m n : Nat) (L : List Wt) : Prop := ∃ f, MapO w m n f L.length ∧ ∀ id t, WfI id → (f id = some t ↔ (id, t) ∈ L)
section
variable {w w' w0 : World} {m n g : Nat} {L L' : List Wt}
theorem MapL.perm (h : MapL w m n L) (hp : L'.Perm L) : MapL w m n L' := by
  obtain ⟨f, h1, h2⟩ := h
  exact ⟨f, by rw [hp.length_eq]; exact h1, fun id t hw => by rw [hp.mem_iff]; exact h2 id t hw⟩
theorem MapO.step {f : Int → Option Int} {s : Nat} (h : MapO w m n f s) (hk : StepW g w w') : MapO w' m n f s := by
  obtain ⟨F, L, hW, hk⟩ := hk
  have hlt := h.lt
  obtain ⟨v, hv⟩ := hW.blk
  have hg : m ≠ g := fun e => h.notCells (e ▸ hv)
  have hF : some m ≠ F := fun e => by
    obtain ⟨v0, l0, hw, rfl, _⟩ := hW
    rcases hw.2.2 with ⟨rfl, _⟩ | ⟨b, cap, cur, rfl, hb, hgg, _⟩
    · cases e
    · injection e with e
      have e' : m = b := e
      subst e'
      exact h.notCells hgg
  obtain ⟨D, ⟨es, clock, hb, r⟩, h2⟩ := h
  exact ⟨D, ⟨es, clock, (hk.block m hlt hg hF).trans hb, r⟩, h2⟩
theorem MapL.step (h : MapL w m n L) (hk : StepW g w w') : MapL w' m n L := by
  obtain ⟨f, h1, h2⟩ := h
  exact ⟨f, h1.step hk, h2⟩
theorem MapL.below (h : MapL w m n L) (hb : Below w.heap.size w w') : MapL w' m n L := by
  obtain ⟨f, h1, h2⟩ := h
  exact ⟨f, h1.below hb, h2⟩
theorem StepW.row (h : StepW g w w') {B size k : Nat} {e : TypeId} {sv : Value} {xs : List Value} (hi : w.ownsRow B e size sv k xs) (h1 : e ≠ 54) (h2 : e ≠ 57) : w'.ownsRow B e size sv k xs := by
  obtain ⟨F, L, hW, hk⟩ := h
  exact own_keptF hi hW hk h1 h2
/-- Writing the map keeps the wheel. -/
theorem St.map {f : Int → Option Int} {s : Nat} (h : St w0 g L w) (hm : MapO w m n f s) (hg : w.grownBy w' (some m)) (h0 : w0.heap.size ≤ m) : St w0 g L w' := by
  obtain ⟨F, hW, hk, hn⟩ := h
  obtain ⟨v, hv⟩ := hW.blk
  have hmg : m ≠ g := fun e => hm.notCells (e ▸ hv)
  have hF : some m ≠ F := fun e => by
    obtain ⟨v0, l0, hw, rfl, _⟩ := hW
    rcases hw.2.2 with ⟨rfl, _⟩ | ⟨b, cap, cur, rfl, hb, hgg, _⟩
    · cases e
    · injection e with e
      have e' : m = b := e
      subst e'
      exact hm.notCells hgg
  refine ⟨F, hW.keep fun i hi hc => hg.block i hi fun e => ?_, ⟨hg.os.trans hk.os, hg.tape.trans hk.tape, hg.output.trans hk.output, Nat.le_trans hk.size hg.size, fun i hi h1 h2 => ?_⟩, hn⟩
  · injection e with e
    rcases hc with hc | hc
    · exact hmg (by rw [← e, hc])
    · exact hF (by rw [← e, hc])
  · exact (hg.block i (Nat.lt_of_lt_of_le hi hk.size) (fun e => by injection e with e; omega)).trans (hk.block i hi h1 h2)
theorem row_map {f : Int → Option Int} {s B size k : Nat} {e : TypeId} {sv : Value} {xs : List Value} (h : w.ownsRow B e size sv k xs) (hm : MapO w m n f s) (hg : w.grownBy w' (some m)) : w'.ownsRow B e size sv k xs := by
  refine World.ownsRow.kept h hg ?_
  rcases h.2 with ⟨rfl, _⟩ | ⟨b, cap, cur, rfl, hb, hgg, _⟩
  · exact .inl rfl
  · refine .inr fun e => ?_
    injection e with e
    have e' : b = m := e
    subst e'
    exact hm.notCells hgg
end
/-- The map with one more. -/
theorem MapL.put {w' : World} {m n : Nat} {L : List Wt} {f : Int → Option Int} {id t : Int} (hf : ∀ id t, WfI id → (f id = some t ↔ (id, t) ∈ L)) (hno : ∀ y, y ∈ L → y.1 ≠ id) (hi : WfI id) (h : MapO w' m (n + 1) (putF f id t) (if (f id).isSome = true then L.length else L.length + 1)) : MapL w' m (n + 1) ((id, t) :: L) := by
  have hn : f id = none := by
    rcases hx : f id with _ | u
    · rfl
    · exact absurd rfl (hno _ ((hf id u hi).1 hx))
  rw [hn] at h
  refine ⟨_, h, fun j u hj => ?_⟩
  unfold putF
  by_cases e : j = id
  · subst e
    rw [if_pos rfl]
    constructor
    · intro h; injection h with h; subst h; exact List.mem_cons_self
    · intro h
      rcases List.mem_cons.1 h with h | h
      · injection h with _ h; rw [h]
      · exact absurd rfl (hno _ h)
  · rw [if_neg e, hf j u hj, List.mem_cons]
    constructor
    · exact .inr
    · rintro (h | h)
      · injection h with h _; exact absurd h e
      · exact h
/-- The map with its first gone. -/
theorem MapL.del {w' : World} {m n : Nat} {x : Wt} {L : List Wt} {f : Int → Option Int} (hf : ∀ id t, WfI id → (f id = some t ↔ (id, t) ∈ x :: L)) (hnd : ((x :: L).map (·.1)).Nodup) (hi : WfI x.1) (h : MapO w' m n (delF f x.1) (if (f x.1).isSome = true then (x :: L).length - 1 else (x :: L).length)) : MapL w' m n L := by
  have hx : f x.1 = some x.2 := (hf _ _ hi).2 List.mem_cons_self
  rw [hx] at h
  simp only [List.map_cons, List.nodup_cons] at hnd
  refine ⟨_, by simpa using h, fun j u hj => ?_⟩
  unfold delF
  by_cases e : j = x.1
  · subst e
    rw [if_pos rfl]
    constructor
    · intro h; cases h
    · intro h; exact absurd (List.mem_map.2 ⟨_, h, rfl⟩) hnd.1
  · rw [if_neg e, hf j u hj, List.mem_cons]
    constructor
    · rintro (h | h)
      · exact absurd (by rw [← h]) e
      · exact h
    · exact .inr
/-- What is left behind Due comes later. -/
theorem dueL_later {now : Int} : ∀ {L : List Wt}, L.Pairwise ltW → ∀ x, x ∈ dueL L now → now < x.2
  | [], _, x, hx => by simp [dueL] at hx
  | y :: L, h, x, hx => by
    rw [List.pairwise_cons] at h
    unfold dueL at hx
    rw [List.dropWhile_cons] at hx
    by_cases hy : y.2 ≤ now
    · rw [if_pos (by simpa using hy)] at hx
      exact dueL_later h.2 x hx
    · rw [if_neg (by simpa using hy)] at hx
      rcases List.mem_cons.1 hx with rfl | hx
      · omega
      · have := h.1 x hx
        unfold ltW at this
        omega
theorem due_len (L : List Wt) (now : Int) : (dueO L now).length ≤ L.length := by
  unfold dueO
  rw [List.length_map]
  exact (List.takeWhile_sublist _).length_le
theorem due_drop (L : List Wt) (now : Int) : L.drop (dueO L now).length = dueL L now := by
  unfold dueO dueL
  rw [List.length_map]
  induction L with
  | nil => rfl
  | cons y L ih =>
    rw [List.takeWhile_cons, List.dropWhile_cons]
    split
    · simpa using ih
    · rfl
theorem due_at {L : List Wt} {now : Int} : ∀ {j : Nat}, j < (dueO L now).length → gI (dueO L now) j = (gW L j).1 ∧ (gW L j).2 ≤ now := by
  unfold dueO
  induction L with
  | nil => intro j hj; simp at hj
  | cons y L ih =>
    intro j hj
    rw [List.takeWhile_cons] at hj ⊢
    by_cases hy : y.2 ≤ now
    · rw [if_pos (by simpa using hy)] at hj ⊢
      rcases j with _ | j
      · exact ⟨rfl, hy⟩
      · have := ih (j := j) (by simpa using hj)
        simpa [gI, gW] using this
    · rw [if_neg (by simpa using hy)] at hj
      simp at hj
theorem drop_next {L : List Wt} {j : Nat} (h : j < L.length) : L.drop j = gW L j :: L.drop (j + 1) := by
  rw [gW_eq h, List.drop_eq_getElem_cons h]
/-- The sum of the first so many. -/
def sumI (T : List Int) (i : Nat) : Int := (T.take i).sum
theorem sumI_next {T : List Int} {i : Nat} (h : i < T.length) : sumI T (i + 1) = sumI T i + gI T i := by
  unfold sumI
  rw [List.take_succ_eq_append_getElem h, List.sum_append]
  simp [gI, h]
def lastI (T : List Int) (i : Nat) : Int := if i = 0 then -1 else sumI T i
theorem sumI_bd {T : List Int} (hT : ∀ x, x ∈ T → 0 ≤ x ∧ x ≤ 255) : ∀ i, i ≤ T.length → 0 ≤ sumI T i ∧ sumI T i ≤ 255 * i
  | 0, _ => by simp [sumI]
  | i + 1, h => by
    have := sumI_bd hT i (by omega)
    rw [sumI_next h]
    have h2 := hT (gI T i) (by unfold gI; rw [List.getD_eq_getElem?_getD, List.getElem?_eq_getElem h]; exact List.getElem_mem h)
    omega
theorem sumI_end (S : List Int) (hS : ∀ x, x ∈ S → 0 ≤ x ∧ x ≤ 255) : 510 ≤ sumI (S ++ [255, 255]) (S ++ [255, 255]).length := by
  have := sumI_bd hS S.length (Nat.le_refl _)
  unfold sumI at this ⊢
  rw [List.take_length] at this ⊢
  rw [List.sum_append]
  simp
  omega
theorem rem_400 (t : Int) : ∃ i : Nat, wrap64 ((IntKind.u64.wrap t).tmod 400) = (i : Int) ∧ i < 400 := by
  rw [IntKind.wrap_u64]
  have h0 : 0 ≤ t % 18446744073709551616 := Int.emod_nonneg _ (by omega)
  rw [Int.tmod_eq_emod_of_nonneg h0]
  refine ⟨(t % 18446744073709551616 % 400).toNat, ?_, by omega⟩
  rw [IntWalk.wrap64_in _ (by omega)]
  omega
theorem add_fresh {L : List Wt} {id t : Int} (hi : 0 ≤ id) (ht : 0 ≤ t ∧ t < 400) (hno : ∀ y, y ∈ L → y.1 ≠ id) (hl : L.length < 200) : addE L id t = 0 ∧ (addL L id t).Perm ((id, t) :: L) := by
  have hb : badW id t = false := by unfold badW; simp; omega
  have hh : hasW L id = false := by
    unfold hasW
    rw [List.any_eq_false]
    intro y hy e
    exact hno y hy (by simpa using e)
  have he : addE L id t = 0 := by unfold addE; rw [hb, hh, if_neg (by simp), if_neg (by simp), if_neg (by omega)]
  refine ⟨he, ?_⟩
  unfold addL
  rw [if_pos he]
  exact insW_perm L (id, t)
end Go.Proofs.Ytbngcepekaicjaa
