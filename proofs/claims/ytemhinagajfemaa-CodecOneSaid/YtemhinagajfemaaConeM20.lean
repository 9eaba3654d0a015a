/- Names and items that are gathered in new memory, one after the other: plain lemmas. -/
import Derived.Test.YtemhinagajfemaaConeM17
import Derived.Test.YtemhinagajfemaaConeM19
namespace Go.Proofs.Ytemhinagajfemaa
set_option linter.unusedVariables false
open Go.RowKit

/-- What a kind of item (a value, a type) must offer. -/
structure Elem (A : Type) where
  cells : A → List Value
  size : Nat
  In : World → A → Prop
  Sep : (Nat → Prop) → A → Prop
  pos : 0 < size
  len : ∀ a, (cells a).length = size
  one : ∀ a, ∀ u ∈ cells a, u.oneCell' = true
  carry : ∀ {S : Nat → Prop} {w w' : World} {a : A}, In w a → Sep S a → (∀ b o, S b → b < w.heap.size → w'.cell? ⟨b, o, none⟩ = w.cell? ⟨b, o, none⟩) → w.heap.size ≤ w'.heap.size → In w' a
  mono : ∀ {S T : Nat → Prop} {a : A}, Sep S a → (∀ b, S b → T b) → Sep T a
  and : ∀ {S T : Nat → Prop} {a : A}, Sep S a → Sep T a → Sep (fun b => S b ∧ T b) a
  lt : ∀ {w : World} {a : A}, In w a → Sep (fun b => b < w.heap.size) a

section
variable {A : Type} (E : Elem A)
/-- The cells of items in a row. -/
def Elem.row (us : List A) : List Value := us.flatMap E.cells
theorem Elem.row_snoc (us : List A) (u : A) : E.row (us ++ [u]) = E.row us ++ E.cells u := by simp [Elem.row]
theorem Elem.row_len (us : List A) : (E.row us).length = us.length * E.size := by
  induction us with
  | nil => simp [Elem.row]
  | cons u us ih => simp only [Elem.row, List.flatMap_cons, List.length_append, E.len, List.length_cons] at ih ⊢; rw [ih, Nat.succ_mul]; omega

/-- Names and items gathered in rows of the call's own, from block B on. -/
structure Gath (TE : TypeId) (B : Nat) (w : World) (ns : List ByteArray) (us : List A) (sv xv : Value) : Prop where
  names : w.ownsRow B 9 1 sv ns.length (ns.map Value.string)
  items : w.ownsRow B TE E.size xv us.length (E.row us)
  apart : ∀ b, sv.ownBlock = some b → xv.ownBlock ≠ some b
  each : ∀ u, u ∈ us → E.In w u ∧ E.Sep (fun b => B ≤ b ∧ some b ≠ sv.ownBlock ∧ some b ≠ xv.ownBlock) u
variable {E} {TE : TypeId} {B : Nat} {w w' : World} {ns : List ByteArray} {us : List A} {sv xv : Value}
theorem gath_start (w : World) : Gath E TE B w [] [] (.slice none 0 0) (.slice none 0 0) :=
  ⟨⟨rfl, .inl ⟨rfl, rfl⟩⟩, ⟨by simp [Elem.row], .inl ⟨rfl, rfl⟩⟩, fun b h => by simp [Value.ownBlock] at h, fun u h => by simp at h⟩
/-- Blocks from B on are as they were. -/
theorem Gath.keep (h : Gath E TE B w ns us sv xv) (hk : ∀ b, B ≤ b → b < w.heap.size → w'.heap[b]? = w.heap[b]?) (hz : w.heap.size ≤ w'.heap.size) : Gath E TE B w' ns us sv xv := by
  have hrow : ∀ {e : TypeId} {c n : Nat} {v : Value} {xs : List Value}, w.ownsRow B e c v n xs → w'.ownsRow B e c v n xs := fun ⟨h1, h2⟩ => by
    refine ⟨h1, ?_⟩
    rcases h2 with h2 | ⟨g, cap, cur, rfl, hb, hg, hrest⟩
    · exact .inl h2
    · refine .inr ⟨g, cap, cur, rfl, hb, ?_, hrest⟩
      have hlt : g < w.heap.size := by
        rcases Nat.lt_or_ge g w.heap.size with h' | h'
        · exact h'
        · simp [Array.getElem?_eq_none h'] at hg
      rw [hk g hb hlt]
      exact hg
  exact ⟨hrow h.names, hrow h.items, h.apart, fun u hu => ⟨E.carry (h.each u hu).1 (h.each u hu).2 (fun b o hs hlt => World.cell?_of_block (a := ⟨b, o, none⟩) (hk b hs.1 hlt)) hz, (h.each u hu).2⟩⟩
theorem Gath.only (h : Gath E TE B w ns us sv xv) {g : Nat} (ho : Only w w' g) (hg : g < B) : Gath E TE B w' ns us sv xv :=
  h.keep (fun b hb hlt => ho.block b hlt (by simp; omega)) ho.size
theorem Gath.below (h : Gath E TE B w ns us sv xv) (hb : Below w.heap.size w w') : Gath E TE B w' ns us sv xv :=
  h.keep (fun b _ hlt => hb.block b hlt) hb.size
theorem Gath.set_ (h : Gath E TE B w ns us sv xv) {p : Addr} (hp : p.block < B) (u : Value) : Gath E TE B (w.setCell p u) ns us sv xv :=
  h.keep (fun b hb _ => Below.heap_setCell w p u b (by omega)) (by simp [World.setCell])
theorem Gath.nform (h : Gath E TE B w ns us sv xv) : ∃ a c, sv = .slice a ns.length c := by
  rcases h.names.2 with ⟨rfl, h0⟩ | ⟨g, cap, cur, rfl, _⟩
  · exact ⟨none, 0, by rw [h0]⟩
  · exact ⟨_, _, rfl⟩
theorem Gath.xform (h : Gath E TE B w ns us sv xv) : ∃ a c, xv = .slice a us.length c := by
  rcases h.items.2 with ⟨rfl, h0⟩ | ⟨g, cap, cur, rfl, _⟩
  · exact ⟨none, 0, by rw [h0]⟩
  · exact ⟨_, _, rfl⟩
/-- A name more: the row behind an append in w, whose blocks from B on were those of w0. -/
theorem Gath.name {v' : Value} {t : ByteArray} (h : Gath E TE B w ns us sv xv) (hB : B ≤ w.heap.size) (ho : w'.ownsRow B 9 1 v' (ns.length + 1) (ns.map Value.string ++ [.string t])) (hg : w.grownBy w' sv.ownBlock)
    (hor : v'.ownBlock = sv.ownBlock ∨ v'.ownBlock = some w.heap.size) : Gath E TE B w' (ns ++ [t]) us v' xv := by
  have hxb : ∀ b, xv.ownBlock = some b → b < w.heap.size := fun b hb => (h.items.lt b hb).2
  have hap : ∀ b, v'.ownBlock = some b → xv.ownBlock ≠ some b := fun b hb hx => by
    rcases hor with h' | h'
    · exact h.apart b (by rw [← h']; exact hb) hx
    · rw [h'] at hb; injection hb with hb; have := hxb b hx; omega
  refine ⟨by rw [List.length_append, List.map_append]; exact ho, ?_, hap, fun u hu => ?_⟩
  · refine h.items.kept hg ?_
    cases hx : xv.ownBlock with
    | none => exact .inl rfl
    | some b => exact .inr (fun e => h.apart b e.symm hx)
  · obtain ⟨h1, h2⟩ := h.each u hu
    have h3 := E.and h2 (E.lt h1)
    refine ⟨E.carry h1 h2 (fun b o hs hlt => World.cell?_of_block (a := ⟨b, o, none⟩) (hg.block b hlt hs.2.1)) hg.size, E.mono h3 (fun b hb => ⟨hb.1.1, ?_, hb.1.2.2⟩)⟩
    rcases hor with h' | h'
    · rw [h']; exact hb.1.2.1
    · rw [h']; intro e; injection e with e; have := hb.2; omega
/-- An item more. -/
theorem Gath.item {v' : Value} {x : A} {Z : Nat} (h : Gath E TE B w ns us sv xv) (hB : B ≤ w.heap.size) (hx : E.In w x) (hs : E.Sep (fun b => Z ≤ b) x) (hZ : B ≤ Z) (hsz : ∀ b, sv.ownBlock = some b → b < Z) (hxz : ∀ b, xv.ownBlock = some b → b < Z)
    (ho : w'.ownsRow B TE E.size v' (us.length + 1) (E.row us ++ E.cells x)) (hg : w.grownBy w' xv.ownBlock)
    (hor : v'.ownBlock = xv.ownBlock ∨ v'.ownBlock = some w.heap.size) : Gath E TE B w' ns (us ++ [x]) sv v' := by
  have hsb : ∀ b, sv.ownBlock = some b → b < w.heap.size := fun b hb => (h.names.lt b hb).2
  have hap : ∀ b, sv.ownBlock = some b → v'.ownBlock ≠ some b := fun b hb hx => by
    rcases hor with h' | h'
    · exact h.apart b hb (by rw [← h']; exact hx)
    · rw [h'] at hx; injection hx with hx; have := hsb b hb; omega
  refine ⟨?_, by rw [List.length_append, Elem.row_snoc]; exact ho, hap, fun u hu => ?_⟩
  · refine h.names.kept hg ?_
    cases hx' : sv.ownBlock with
    | none => exact .inl rfl
    | some b => exact .inr (fun e => h.apart b hx' e.symm)
  · rcases List.mem_append.1 hu with hu | hu
    · obtain ⟨h1, h2⟩ := h.each u hu
      have h3 := E.and h2 (E.lt h1)
      refine ⟨E.carry h1 h2 (fun b o hs hlt => World.cell?_of_block (a := ⟨b, o, none⟩) (hg.block b hlt hs.2.2)) hg.size, E.mono h3 (fun b hb => ⟨hb.1.1, hb.1.2.1, ?_⟩)⟩
      rcases hor with h' | h'
      · rw [h']; exact hb.1.2.2
      · rw [h']; intro e; injection e with e; have := hb.2; omega
    · obtain rfl : u = x := by simpa using hu
      have h3 := E.and hs (E.lt hx)
      refine ⟨E.carry hx hs (fun b o hs' hlt => World.cell?_of_block (a := ⟨b, o, none⟩) (hg.block b hlt (fun e => by have := hxz b e.symm; omega))) hg.size, E.mono h3 (fun b hb => ⟨by omega, fun e => ?_, ?_⟩)⟩
      · have := hsz b e.symm; omega
      · rcases hor with h' | h'
        · rw [h']; intro e; have := hxz b e.symm; omega
        · rw [h']; intro e; injection e with e; have := hb.2; omega
end

theorem val_cells_len (v : Val) : v.cells.length = 6 := rfl
def valE : Elem Val where
  cells := Val.cells
  size := 6
  In := fun w v => v.In w
  Sep := fun S v => v.Sep S
  pos := by decide
  len := val_cells_len
  one := cells_oneCell
  carry := fun h hs hb hz => h.carryS hs hb hz
  mono := fun h hst => h.mono hst
  and := fun h k => h.and k
  lt := fun h => h.sep
theorem valE_row (us : List Val) : valE.row us = rowCells us := rfl
theorem ty_cells_len (v : Ty) : v.cells.length = 3 := rfl
def tyE : Elem Ty where
  cells := Ty.cells
  size := 3
  In := fun w v => v.In w
  Sep := fun S v => v.Sep S
  pos := by decide
  len := ty_cells_len
  one := tcells_oneCell
  carry := fun h hs hb hz => h.carryS hs hb hz
  mono := fun h hst => h.mono hst
  and := fun h k => h.and k
  lt := fun h => h.sep
theorem tyE_row (us : List Ty) : tyE.row us = trowCells us := rfl
end Go.Proofs.Ytemhinagajfemaa
