/- What a wheel holds, in order; what its calls do to that (plain). -/
import Derived.Test.YtbngcepekaicjaaTmHeap
namespace Go.Proofs.Ytbngcepekaicjaa
set_option linter.unusedVariables false

/-- Those that wait, in order. -/
structure OkW (L : List Wt) : Prop where
  sorted : L.Pairwise ltW
  ids : (L.map (·.1)).Nodup
  len : L.length ≤ 200
  bd : ∀ x, x ∈ L → 0 ≤ x.1 ∧ x.1 ≤ 9223372036854775807 ∧ 0 ≤ x.2 ∧ x.2 ≤ 2199023255552
theorem okW_nil : OkW [] := ⟨List.Pairwise.nil, by simp, by simp, fun x h => by simp at h⟩
def hasW (L : List Wt) (id : Int) : Bool := L.any (fun x => x.1 == id)
def badW (id at_ : Int) : Bool := decide (id < 0) || decide (at_ < 0) || decide (at_ > 2199023255552)
def addE (L : List Wt) (id at_ : Int) : Int := if badW id at_ = true then 2 else if hasW L id = true then 17 else if 200 ≤ L.length then 4 else 0
def insW (L : List Wt) (x : Wt) : List Wt := L.takeWhile (fun y => decide (ltW y x)) ++ x :: L.dropWhile (fun y => decide (ltW y x))
def addL (L : List Wt) (id at_ : Int) : List Wt := if addE L id at_ = 0 then insW L (id, at_) else L
def dropL (L : List Wt) (id : Int) : List Wt := L.filter (fun x => x.1 != id)
def dueO (L : List Wt) (now : Int) : List Int := (L.takeWhile (fun x => decide (x.2 ≤ now))).map (·.1)
def dueL (L : List Wt) (now : Int) : List Wt := L.dropWhile (fun x => decide (x.2 ≤ now))

theorem insW_perm (L : List Wt) (x : Wt) : (insW L x).Perm (x :: L) := by
  unfold insW
  have h : L.takeWhile (fun y => decide (ltW y x)) ++ L.dropWhile (fun y => decide (ltW y x)) = L := List.takeWhile_append_dropWhile
  have := List.perm_middle (a := x) (l₁ := L.takeWhile (fun y => decide (ltW y x))) (l₂ := L.dropWhile (fun y => decide (ltW y x)))
  rw [h] at this
  exact this
theorem sorted_drop {L : List Wt} {x : Wt} (h : L.Pairwise ltW) : ∀ y, y ∈ L.dropWhile (fun y => decide (ltW y x)) → ¬ ltW y x := by
  induction L with
  | nil => intro y hy; simp at hy
  | cons z L ih =>
    intro y hy
    rw [List.pairwise_cons] at h
    rw [List.dropWhile_cons] at hy
    by_cases hz : ltW z x
    · rw [if_pos (by simpa using hz)] at hy
      exact ih h.2 y hy
    · rw [if_neg (by simpa using hz)] at hy
      rcases List.mem_cons.1 hy with rfl | hy
      · exact hz
      · have := h.1 y hy
        intro h'
        exact hz (ltW_trans this h')
theorem takeWhile_imp {p : Wt → Bool} {y : Wt} : ∀ {L : List Wt}, y ∈ L.takeWhile p → p y = true
  | [], h => by simp at h
  | z :: L, h => by
    rw [List.takeWhile_cons] at h
    by_cases hz : p z = true
    · rw [if_pos hz] at h
      rcases List.mem_cons.1 h with rfl | h
      · exact hz
      · exact takeWhile_imp h
    · rw [if_neg hz] at h; simp at h
theorem insW_sorted {L : List Wt} {x : Wt} (h : L.Pairwise ltW) (hn : ∀ y, y ∈ L → y.1 ≠ x.1) : (insW L x).Pairwise ltW := by
  unfold insW
  have hs : L.takeWhile (fun y => decide (ltW y x)) ++ L.dropWhile (fun y => decide (ltW y x)) = L := List.takeWhile_append_dropWhile
  rw [List.pairwise_append]
  have hL := h
  rw [← hs, List.pairwise_append] at h
  have hgt : ∀ y, y ∈ L.dropWhile (fun y => decide (ltW y x)) → ltW x y := fun y hy => by
    have h1 := sorted_drop hL y hy
    have h2 := hn y (by rw [← hs]; exact List.mem_append_right _ hy)
    unfold ltW at *; omega
  refine ⟨h.1, List.pairwise_cons.2 ⟨hgt, h.2.1⟩, fun y hy z hz => ?_⟩
  have hyx : ltW y x := of_decide_eq_true (takeWhile_imp (p := fun y => decide (ltW y x)) hy)
  rcases List.mem_cons.1 hz with rfl | hz
  · exact hyx
  · exact h.2.2 y hy z hz
theorem hasW_false {L : List Wt} {id : Int} (h : hasW L id = false) : ∀ y, y ∈ L → y.1 ≠ id := fun y hy e => by
  have := List.any_eq_false.1 h y hy
  simp at this
  exact this e
theorem hasW_perm {l L : List Wt} (h : l.Perm L) (id : Int) : hasW l id = hasW L id := by
  rw [Bool.eq_iff_iff]
  simp only [hasW, List.any_eq_true]
  exact ⟨fun ⟨x, hx, e⟩ => ⟨x, h.mem_iff.1 hx, e⟩, fun ⟨x, hx, e⟩ => ⟨x, h.mem_iff.2 hx, e⟩⟩
theorem addE_0 {L : List Wt} {id at_ : Int} (h : addE L id at_ = 0) : badW id at_ = false ∧ hasW L id = false ∧ L.length < 200 := by
  unfold addE at h
  cases hb : badW id at_
  · cases hh : hasW L id
    · rw [hb, hh] at h
      simp at h
      exact ⟨rfl, rfl, h⟩
    · rw [hb, hh] at h; simp at h
  · rw [hb] at h; simp at h
theorem addL_ok {L : List Wt} (h : OkW L) {id at_ : Int} (hi : id ≤ 9223372036854775807) : OkW (addL L id at_) := by
  unfold addL
  by_cases h0 : addE L id at_ = 0
  · rw [if_pos h0]
    obtain ⟨hb, hh, hl⟩ := addE_0 h0
    have hn := hasW_false hh
    have hp := insW_perm L (id, at_)
    have hbd : 0 ≤ id ∧ 0 ≤ at_ ∧ at_ ≤ 2199023255552 := by
      unfold badW at hb
      simp at hb
      omega
    refine ⟨insW_sorted h.sorted hn, ?_, ?_, fun x hx => ?_⟩
    · have := (hp.map (·.1)).nodup_iff
      rw [this]
      simp only [List.map_cons, List.nodup_cons]
      refine ⟨fun hm => ?_, h.ids⟩
      obtain ⟨y, hy, e⟩ := List.mem_map.1 hm
      exact hn y hy e
    · rw [hp.length_eq]; simp; omega
    · rcases List.mem_cons.1 (hp.mem_iff.1 hx) with rfl | hx
      · exact ⟨hbd.1, hi, hbd.2⟩
      · exact h.bd x hx
  · rw [if_neg h0]; exact h
theorem OkW.sub {L M : List Wt} (h : OkW L) (hs : M.Sublist L) : OkW M :=
  ⟨h.sorted.sublist hs, h.ids.sublist (hs.map _), Nat.le_trans hs.length_le h.len, fun x hx => h.bd x (hs.subset hx)⟩
theorem dropL_ok {L : List Wt} (h : OkW L) (id : Int) : OkW (dropL L id) := h.sub List.filter_sublist
theorem dueL_ok {L : List Wt} (h : OkW L) (now : Int) : OkW (dueL L now) := h.sub (List.dropWhile_sublist _)

/-- The heap's root is the first one. -/
theorem root_first {l L : List Wt} {x : Wt} (hh : Hp l) (hp : l.Perm (x :: L)) (hs : (x :: L).Pairwise ltW) : gW l 0 = x := by
  have hl : 0 < l.length := by rw [hp.length_eq]; simp
  have h1 : gW l 0 ∈ x :: L := hp.mem_iff.1 (gW_mem hl)
  obtain ⟨j, hj, ej⟩ := List.getElem_of_mem (hp.mem_iff.2 (List.mem_cons_self : x ∈ x :: L))
  have h2 := heap_root hh j hj
  rw [gW_eq hj, ej] at h2
  rcases List.mem_cons.1 h1 with e | e
  · exact e
  · exact absurd ((List.pairwise_cons.1 hs).1 _ e) (leW_not_lt h2)
theorem erase_cons_perm {l : List Wt} {i : Nat} (hi : i < l.length) : l.Perm (gW l i :: l.eraseIdx i) := by
  rw [gW_eq hi]; exact (erase_perm l i hi).symm
theorem root_rest {l L : List Wt} {x : Wt} (hh : Hp l) (hp : l.Perm (x :: L)) (hs : (x :: L).Pairwise ltW) : Hp (takeF l 0) ∧ (takeF l 0).Perm L := by
  have hl : 0 < l.length := by rw [hp.length_eq]; simp
  have ht := take_heap hh hl
  refine ⟨ht.1, ht.2.trans ?_⟩
  have h1 := erase_cons_perm hl
  rw [root_first hh hp hs] at h1
  exact (List.perm_cons x).1 (h1.symm.trans hp)
theorem filter_gone {l : List Wt} {id : Int} (h : ∀ y, y ∈ l → y.1 ≠ id) : l.filter (fun x => x.1 != id) = l := List.filter_eq_self.2 fun y hy => by simpa using h y hy
theorem drop_rest {l L : List Wt} {i : Nat} {id : Int} (hh : Hp l) (hp : l.Perm L) (hn : (L.map (·.1)).Nodup) (hi : i < l.length) (he : (gW l i).1 = id) : Hp (takeF l i) ∧ (takeF l i).Perm (dropL L id) := by
  have ht := take_heap hh hi
  refine ⟨ht.1, ht.2.trans ?_⟩
  have h1 := erase_cons_perm hi
  have hf : (l.eraseIdx i).filter (fun x => x.1 != id) = l.eraseIdx i := by
    refine filter_gone fun y hy e => ?_
    have hnd : ((gW l i :: l.eraseIdx i).map (·.1)).Nodup := ((h1.symm.trans hp).map (·.1)).nodup_iff.2 hn
    simp only [List.map_cons, List.nodup_cons] at hnd
    exact hnd.1 (List.mem_map.2 ⟨y, hy, by rw [e, he]⟩)
  have h2 := (h1.symm.trans hp).filter (fun x => x.1 != id)
  rw [List.filter_cons, if_neg (by simp [he]), hf] at h2
  exact h2
theorem add_rest {l L : List Wt} (hh : Hp l) (hp : l.Perm L) (x : Wt) : Hp (upF (l ++ [x]) l.length) ∧ (upF (l ++ [x]) l.length).Perm (insW L x) :=
  ⟨add_heap hh x, (add_perm l x).trans (((List.perm_cons x).2 hp).trans (insW_perm L x).symm)⟩
end Go.Proofs.Ytbngcepekaicjaa
