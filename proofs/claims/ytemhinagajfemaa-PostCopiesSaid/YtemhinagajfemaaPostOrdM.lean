/- A box beside a row of values of the call's own. -/
import Derived.Test.YtemhinagajfemaaPostOrdP
namespace Go.Proofs.Ytemhinagajfemaa
set_option linter.unusedVariables false
open Go.RowKit

/-- A box lies at g, a row of the values us in sv: they share nothing; all is behind W0. -/
structure BoxRow (W0 : World) (g : Nat) (sv : Value) (ms : List (Val × Val)) (us : List Val) (wr : World) : Prop where
  box : BoxAt wr g ms
  row : wr.ownsRow W0.heap.size 46 6 sv us.length (rowCells us)
  sep : ∀ k, sv.ownBlock = some k → k ≠ g ∧ ∀ m, m ∈ ms → m.1.Sep (· ≠ k) ∧ m.2.Sep (· ≠ k)
  ins : ∀ u, u ∈ us → u.In W0
  ge : W0.heap.size ≤ g
  all : Below W0.heap.size W0 wr
section
variable {W0 wr w' : World} {g : Nat} {sv : Value} {ms ms' : List (Val × Val)} {us : List Val}
theorem BoxAt.keepS {S : Nat → Prop} (h : BoxAt wr g ms) (hg : S g) (hs : ∀ m, m ∈ ms → m.1.Sep S ∧ m.2.Sep S) (hb : ∀ b, S b → b < wr.heap.size → w'.heap[b]? = wr.heap[b]?) (hz : wr.heap.size ≤ w'.heap.size) : BoxAt w' g ms := by
  refine ⟨(hb g hg h.1.lt).trans h.1, h.2.1, fun m hm => ?_⟩
  obtain ⟨⟨h1, h2⟩, h3, h4⟩ := h.2.2 m hm
  obtain ⟨s1, s2⟩ := hs m hm
  have hc : ∀ b o, S b → b < wr.heap.size → w'.cell? ⟨b, o, none⟩ = wr.cell? ⟨b, o, none⟩ := fun b o h1 h2 => World.cell?_of_block (a := ⟨b, o, none⟩) (hb b h1 h2)
  exact ⟨⟨h1.carryS s1 hc hz, h2⟩, h3.carryS s2 hc hz, h4⟩
theorem BoxRow.below (h : BoxRow W0 g sv ms us wr) (hb : Below wr.heap.size wr w') : BoxRow W0 g sv ms us w' :=
  ⟨h.box.below hb, own_below h.row hb, h.sep, h.ins, h.ge, h.all.trans (hb.mono h.all.size)⟩
theorem BoxRow.own_lt (h : BoxRow W0 g sv ms us wr) {k : Nat} (hk : sv.ownBlock = some k) : k < wr.heap.size := (h.row.lt k hk).2
theorem BoxRow.only (h : BoxRow W0 g sv ms us wr) (ho : Only wr w' g) (hbx : BoxAt w' g ms') (hm : ∀ m, m ∈ ms' → m ∈ ms ∨ (m.1.Sep (fun x => wr.heap.size ≤ x) ∧ m.2.Sep (fun x => wr.heap.size ≤ x))) : BoxRow W0 g sv ms' us w' := by
  refine ⟨hbx, h.row.kept ho ?_, fun k hk => ⟨(h.sep k hk).1, fun m hmm => ?_⟩, h.ins, h.ge, Below.only h.all ho h.ge h.all.size⟩
  · rcases hv : sv.ownBlock with _ | k
    · exact .inl rfl
    · exact .inr (fun e => by injection e with e; exact (h.sep k hv).1 e)
  · rcases hm m hmm with hm | ⟨h1, h2⟩
    · exact (h.sep k hk).2 m hm
    · have := h.own_lt hk
      exact ⟨h1.mono (fun x hx => by omega), h2.mono (fun x hx => by omega)⟩
/-- Behind an append onto the row. -/
theorem BoxRow.grown {u : Val} {v' : Value} {n : Nat} {o : Obj} (h : BoxRow W0 g sv ms us wr) (hu : u.In W0) (hgrow : (wr.alloc o).grownBy w' sv.ownBlock) (hor : v'.ownBlock = sv.ownBlock ∨ v'.ownBlock = some (wr.heap.size + 1))
    (hrow : w'.ownsRow W0.heap.size 46 6 v' n (rowCells us ++ u.cells)) (hn : n = us.length + 1) : BoxRow W0 g v' ms (us ++ [u]) w' := by
  have ha : (wr.alloc o).heap.size = wr.heap.size + 1 := by simp
  have hz := hgrow.size
  have hblk : ∀ b, some b ≠ sv.ownBlock → b < wr.heap.size → w'.heap[b]? = wr.heap[b]? := fun b h1 h2 => (hgrow.block b (by omega) h1).trans (Below.heap_alloc wr o b h2)
  have hgl := h.box.1.lt
  have hbox : BoxAt w' g ms := by
    refine h.box.keepS (S := fun b => some b ≠ sv.ownBlock) (fun e => (h.sep g e.symm).1 rfl) (fun m hm => ?_) hblk (by omega)
    rcases hv : sv.ownBlock with _ | k
    · obtain ⟨⟨_, h2⟩, _, h4⟩ := h.box.2.2 m hm
      exact ⟨h2.mono (fun x hx => by simp), h4.mono (fun x hx => by simp)⟩
    · obtain ⟨h1, h2⟩ := (h.sep k hv).2 m hm
      exact ⟨h1.mono (fun x hx e => hx (by injection e)), h2.mono (fun x hx e => hx (by injection e))⟩
  refine ⟨hbox, ?_, fun k hk => ?_, fun y hy => ?_, h.ge, (h.all.alloc h.all.size o).grown hgrow (by have := h.all.size; omega) (fun k hk => own_ge h.row hk)⟩
  · rw [rowCells_snoc, List.length_append]
    subst hn
    exact hrow
  · rcases hor with e | e
    · rw [e] at hk
      exact h.sep k hk
    · rw [e] at hk
      injection hk with hk
      refine ⟨by omega, fun m hm => ?_⟩
      obtain ⟨⟨h1, _⟩, h3, _⟩ := h.box.2.2 m hm
      exact ⟨h1.sep.mono (fun x hx => by omega), h3.sep.mono (fun x hx => by omega)⟩
  · rcases List.mem_append.1 hy with hy | hy
    · exact h.ins y hy
    · obtain rfl : y = u := by simpa using hy
      exact hu
theorem BoxRow.form (h : BoxRow W0 g sv ms us wr) : ∃ p c, sv = .slice p us.length c ∧ (∀ j (hj : j < us.length), ∃ k, p = some ⟨k, 0, none⟩ ∧ us.length ≤ c ∧ k < wr.heap.size ∧ PVal wr k (0 + j * 6) (us[j]'hj)) := by
  obtain ⟨s, hs, hl, _⟩ := rowLies_of_own h.row
  have hv : (Val.mk 5 0 0 ByteArray.empty .no [] s us).In wr ∨ True := .inr trivial
  rcases h.row.2 with ⟨e, h0⟩ | ⟨k, cap, cur, e, hb, hg, hnc, hcm, hcs, htake⟩
  · exact ⟨none, 0, by rw [e, h0], fun j hj => by omega⟩
  · refine ⟨_, _, e, fun j hj => ⟨k, rfl, hnc, ?_, fun i hi => ?_, ?_, ?_⟩⟩
    · rcases Nat.lt_or_ge k wr.heap.size with h' | h'
      · exact h'
      · simp [Array.getElem?_eq_none h'] at hg
    · have hget := rowCells_get us j i hj hi
      have hl : i < (us[j]'hj).cells.length := by rw [cells_length]; exact hi
      have hrow := h.row
      rw [e] at hrow
      have hc := hrow.cells (g := k) rfl (j * 6 + i) ((us[j]'hj).cells[i]'hl) (by rw [hget, List.getElem?_eq_getElem hl])
      rw [Addr.add_lit] at hc
      have e2 : 0 + j * 6 + i = 0 + (j * 6 + i) := by omega
      rw [e2, hc, List.getElem?_eq_getElem hl]
    · rcases Nat.lt_or_ge k wr.heap.size with h' | h'
      · exact h'
      · simp [Array.getElem?_eq_none h'] at hg
    · exact (h.ins _ (List.getElem_mem hj)).below h.all
end
end Go.Proofs.Ytemhinagajfemaa
