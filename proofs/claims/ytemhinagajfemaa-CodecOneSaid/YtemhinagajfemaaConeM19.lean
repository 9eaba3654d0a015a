/- Where a type's parts lie (printed by wip/gen_tysep.py from XValSep). Plain lemmas. -/
import Derived.Test.YtemhinagajfemaaConeM12
import Derived.Test.YtemhinagajfemaaConeM13
namespace Go.Proofs.Ytemhinagajfemaa
set_option linter.unusedVariables false
open Go.RowKit

mutual
/-- Each block that it leads to is such a one. -/
def Ty.Sep (S : Nat → Prop) : Ty → Prop
  | .mk _ na ns xa xs => na.sep S ns.length ∧ xa.sep S xs.length ∧ Ty.SepAll S xs
def Ty.SepAll (S : Nat → Prop) : List Ty → Prop
  | [] => True
  | x :: xs => x.Sep S ∧ Ty.SepAll S xs
end
theorem Ty.sepAll_iff (S : Nat → Prop) : ∀ xs : List Ty, Ty.SepAll S xs ↔ ∀ x, x ∈ xs → x.Sep S
  | [] => by simp [Ty.SepAll]
  | x :: xs => by simp [Ty.SepAll, Ty.sepAll_iff S xs]
theorem Ty.sep_iff (S : Nat → Prop) (v : Ty) : v.Sep S ↔ v.na.sep S v.ns.length ∧ v.xa.sep S v.xs.length ∧ ∀ x, x ∈ v.xs → x.Sep S := by
  cases v
  simp only [Ty.Sep, Ty.sepAll_iff, Ty.na, Ty.ns, Ty.xa, Ty.xs]
theorem Ty.sep_mono {S T : Nat → Prop} (hst : ∀ b, S b → T b) : ∀ (d : Nat) (v : Ty), v.sz ≤ d → v.Sep S → v.Sep T
  | 0, v, hd, _ => by rw [Ty.sz_eq] at hd; omega
  | d + 1, v, hd, h => by
    rw [Ty.sep_iff] at h ⊢
    exact ⟨h.1.mono hst, h.2.1.mono hst, fun x hx => Ty.sep_mono hst d x (by have := Ty.size_mem hx; omega) (h.2.2 x hx)⟩
theorem Ty.Sep.mono {S T : Nat → Prop} {v : Ty} (h : v.Sep S) (hst : ∀ b, S b → T b) : v.Sep T := Ty.sep_mono hst v.sz v (Nat.le_refl _) h
theorem Ty.sep_and {S T : Nat → Prop} : ∀ (d : Nat) (v : Ty), v.sz ≤ d → v.Sep S → v.Sep T → v.Sep (fun b => S b ∧ T b)
  | 0, v, hd, _, _ => by rw [Ty.sz_eq] at hd; omega
  | d + 1, v, hd, h, k => by
    rw [Ty.sep_iff] at h k ⊢
    exact ⟨h.1.and k.1, h.2.1.and k.2.1, fun x hx => Ty.sep_and d x (by have := Ty.size_mem hx; omega) (h.2.2 x hx) (k.2.2 x hx)⟩
theorem Ty.Sep.and {S T : Nat → Prop} {v : Ty} (h : v.Sep S) (k : v.Sep T) : v.Sep (fun b => S b ∧ T b) := Ty.sep_and v.sz v (Nat.le_refl _) h k
theorem Ty.in_sep {w : World} : ∀ (d : Nat) (v : Ty), v.sz ≤ d → v.In w → v.Sep (fun b => b < w.heap.size)
  | 0, v, hd, _ => by rw [Ty.sz_eq] at hd; omega
  | d + 1, v, hd, h => by
    rw [Ty.in_iff] at h
    rw [Ty.sep_iff]
    exact ⟨h.2.1.sep (by omega), h.2.2.1.sep (by omega), fun x hx => Ty.in_sep d x (by have := Ty.size_mem hx; omega) (h.2.2.2 x hx)⟩
theorem Ty.In.sep {w : World} {v : Ty} (h : v.In w) : v.Sep (fun b => b < w.heap.size) := Ty.in_sep v.sz v (Nat.le_refl _) h

theorem Ty.in_carryS {S : Nat → Prop} {w w' : World} (hb : ∀ b o, S b → b < w.heap.size → w'.cell? ⟨b, o, none⟩ = w.cell? ⟨b, o, none⟩) (hz : w.heap.size ≤ w'.heap.size) :
    ∀ (d : Nat) (v : Ty), v.sz ≤ d → v.In w → v.Sep S → v.In w'
  | 0, v, hd, _, _ => by rw [Ty.sz_eq] at hd; omega
  | d + 1, v, hd, h, hs => by
    rw [Ty.in_iff] at h ⊢
    rw [Ty.sep_iff] at hs
    exact ⟨h.1, h.2.1.carryS hs.1 hb hz, h.2.2.1.carryS hs.2.1 hb hz, fun x hx => Ty.in_carryS hb hz d x (by have := Ty.size_mem hx; omega) (h.2.2.2 x hx) (hs.2.2 x hx)⟩
theorem Ty.In.carryS {S : Nat → Prop} {w w' : World} {v : Ty} (h : v.In w) (hs : v.Sep S) (hb : ∀ b o, S b → b < w.heap.size → w'.cell? ⟨b, o, none⟩ = w.cell? ⟨b, o, none⟩) (hz : w.heap.size ≤ w'.heap.size) : v.In w' :=
  Ty.in_carryS hb hz v.sz v (Nat.le_refl _) h hs

mutual
/-- A value without its places; the same with floats made canonical. -/
def Ty.erase : Ty → Ty
  | .mk k _ ns _ xs => .mk k .no ns .no (Ty.eraseAll xs)
def Ty.eraseAll : List Ty → List Ty
  | [] => []
  | x :: xs => x.erase :: Ty.eraseAll xs
end
theorem Ty.eraseAll_map : ∀ xs : List Ty, Ty.eraseAll xs = xs.map Ty.erase
  | [] => rfl
  | x :: xs => by simp [Ty.eraseAll, Ty.eraseAll_map xs]
theorem Ty.erase_eq (v : Ty) : v.erase = .mk v.k .no v.ns .no (v.xs.map Ty.erase) := by
  cases v
  simp only [Ty.erase, Ty.eraseAll_map, Ty.k, Ty.ns, Ty.xs]

/-- The cells of values in a row. -/
def trowCells (us : List Ty) : List Value := us.flatMap Ty.cells
theorem tcells_length (v : Ty) : v.cells.length = 3 := rfl
theorem trowCells_length (us : List Ty) : (trowCells us).length = us.length * 3 := by
  induction us with
  | nil => rfl
  | cons u us ih => simp [trowCells] at ih ⊢; rw [ih, tcells_length]; omega
theorem trowCells_get : ∀ (us : List Ty) (i j : Nat) (hi : i < us.length), j < 3 → (trowCells us)[i * 3 + j]? = (us[i]'hi).cells[j]?
  | u :: us, 0, j, _, hj => by
    simp only [trowCells, List.flatMap_cons, Nat.zero_mul, Nat.zero_add]
    rw [List.getElem?_append_left (by rw [tcells_length]; exact hj)]
    rfl
  | u :: us, i + 1, j, hi, hj => by
    simp only [trowCells, List.flatMap_cons]
    rw [List.getElem?_append_right (by rw [tcells_length]; omega)]
    have := trowCells_get us i j (by simpa using hi) hj
    rw [tcells_length, show (i + 1) * 3 + j - 3 = i * 3 + j from by omega]
    simpa [trowCells] using this
theorem trowCells_snoc (us : List Ty) (u : Ty) : trowCells (us ++ [u]) = trowCells us ++ u.cells := by simp [trowCells]
theorem tcells_oneCell (v : Ty) : ∀ u ∈ v.cells, u.oneCell' = true := by
  intro u hu
  simp only [Ty.cells, List.mem_cons, List.not_mem_nil, or_false] at hu
  rcases hu with rfl | rfl | rfl
  · rfl
  · cases v.na <;> rfl
  · cases v.xa <;> rfl

/-- What an owned row of values is: where it lies. -/
theorem trowLies_of_own {w : World} {base : Nat} {e : TypeId} {v : Value} {us : List Ty} (h : w.ownsRow base e 3 v us.length (trowCells us)) :
    ∃ s : Sl, v = s.val us.length ∧ s.lies w 3 us.length (fun i => (us.getD i Ty.zero).cells) ∧ s.sep (fun b => base ≤ b) us.length := by
  rcases h.2 with ⟨rfl, h0⟩ | ⟨g, cap, cur, rfl, hb, hg, hnc, hcm, hcs, htake⟩
  · exact ⟨.no, by simp [Sl.val], h0, trivial⟩
  · refine ⟨.at_ g 0 cap, rfl, ⟨hnc, by unfold maxLen at hcm; exact hcm, fun i hi j hj => ⟨?_, ?_⟩⟩, .inr hb⟩
    · have hget := trowCells_get us i j hi hj
      have hl : j < (us[i]'hi).cells.length := by rw [tcells_length]; exact hj
      have hc := h.cells (g := g) rfl (i * 3 + j) ((us[i]'hi).cells[j]'hl) (by rw [hget, List.getElem?_eq_getElem hl])
      rw [Addr.add_lit] at hc
      have e : us.getD i Ty.zero = us[i]'hi := by simp [hi]
      show _ = (us.getD i Ty.zero).cells[j]?
      rw [hc, e, List.getElem?_eq_getElem hl]
    · rcases Nat.lt_or_ge g w.heap.size with h' | h'
      · exact h'
      · simp [Array.getElem?_eq_none h'] at hg
end Go.Proofs.Ytemhinagajfemaa
