/- Where a value's parts lie: blocks that it leads to; and what it is without them. Plain lemmas. -/
import Derived.Test.YtemhinagajfemaaConeM5
namespace Go.Proofs.Ytemhinagajfemaa
set_option linter.unusedVariables false
open Go.RowKit

def Sl.sep (S : Nat → Prop) (n : Nat) : Sl → Prop
  | .no => True
  | .odd _ => True
  | .at_ b _ _ => n = 0 ∨ S b
mutual
/-- Each block that it leads to is such a one. -/
def Val.Sep (S : Nat → Prop) : Val → Prop
  | .mk _ _ _ _ na ns xa xs => na.sep S ns.length ∧ xa.sep S xs.length ∧ Val.SepAll S xs
def Val.SepAll (S : Nat → Prop) : List Val → Prop
  | [] => True
  | x :: xs => x.Sep S ∧ Val.SepAll S xs
end
theorem Val.sepAll_iff (S : Nat → Prop) : ∀ xs : List Val, Val.SepAll S xs ↔ ∀ x, x ∈ xs → x.Sep S
  | [] => by simp [Val.SepAll]
  | x :: xs => by simp [Val.SepAll, Val.sepAll_iff S xs]
theorem Val.sep_iff (S : Nat → Prop) (v : Val) : v.Sep S ↔ v.na.sep S v.ns.length ∧ v.xa.sep S v.xs.length ∧ ∀ x, x ∈ v.xs → x.Sep S := by
  cases v
  simp only [Val.Sep, Val.sepAll_iff, Val.na, Val.ns, Val.xa, Val.xs]
theorem Sl.sep.mono {S T : Nat → Prop} {n : Nat} {a : Sl} (h : a.sep S n) (hst : ∀ b, S b → T b) : a.sep T n := by
  cases a with
  | no => trivial
  | odd a => trivial
  | at_ b o c => rcases h with h | h; exact .inl h; exact .inr (hst b h)
theorem Val.sep_mono {S T : Nat → Prop} (hst : ∀ b, S b → T b) : ∀ (d : Nat) (v : Val), v.sz ≤ d → v.Sep S → v.Sep T
  | 0, v, hd, _ => by rw [Val.sz_eq] at hd; omega
  | d + 1, v, hd, h => by
    rw [Val.sep_iff] at h ⊢
    exact ⟨h.1.mono hst, h.2.1.mono hst, fun x hx => Val.sep_mono hst d x (by have := Val.size_mem hx; omega) (h.2.2 x hx)⟩
theorem Val.Sep.mono {S T : Nat → Prop} {v : Val} (h : v.Sep S) (hst : ∀ b, S b → T b) : v.Sep T := Val.sep_mono hst v.sz v (Nat.le_refl _) h
theorem Sl.sep.and {S T : Nat → Prop} {n : Nat} {a : Sl} (h : a.sep S n) (k : a.sep T n) : a.sep (fun b => S b ∧ T b) n := by
  cases a with
  | no => trivial
  | odd a => trivial
  | at_ b o c => rcases h with h | h; exact .inl h; rcases k with k | k; exact .inl k; exact .inr ⟨h, k⟩
theorem Val.sep_and {S T : Nat → Prop} : ∀ (d : Nat) (v : Val), v.sz ≤ d → v.Sep S → v.Sep T → v.Sep (fun b => S b ∧ T b)
  | 0, v, hd, _, _ => by rw [Val.sz_eq] at hd; omega
  | d + 1, v, hd, h, k => by
    rw [Val.sep_iff] at h k ⊢
    exact ⟨h.1.and k.1, h.2.1.and k.2.1, fun x hx => Val.sep_and d x (by have := Val.size_mem hx; omega) (h.2.2 x hx) (k.2.2 x hx)⟩
theorem Val.Sep.and {S T : Nat → Prop} {v : Val} (h : v.Sep S) (k : v.Sep T) : v.Sep (fun b => S b ∧ T b) := Val.sep_and v.sz v (Nat.le_refl _) h k
theorem Sl.lies.sep {w : World} {a : Sl} {c n : Nat} {row : Nat → List Value} (h : a.lies w c n row) (hc : 0 < c) : a.sep (fun b => b < w.heap.size) n := by
  cases a with
  | no => trivial
  | odd a => trivial
  | at_ b o cap =>
    rcases Nat.eq_zero_or_pos n with h0 | h0
    · exact .inl h0
    · exact .inr (h.2.2 0 h0 0 hc).2
theorem Val.in_sep {w : World} : ∀ (d : Nat) (v : Val), v.sz ≤ d → v.In w → v.Sep (fun b => b < w.heap.size)
  | 0, v, hd, _ => by rw [Val.sz_eq] at hd; omega
  | d + 1, v, hd, h => by
    rw [Val.in_iff] at h
    rw [Val.sep_iff]
    exact ⟨h.2.1.sep (by omega), h.2.2.1.sep (by omega), fun x hx => Val.in_sep d x (by have := Val.size_mem hx; omega) (h.2.2.2 x hx)⟩
theorem Val.In.sep {w : World} {v : Val} (h : v.In w) : v.Sep (fun b => b < w.heap.size) := Val.in_sep v.sz v (Nat.le_refl _) h

theorem Sl.lies.carryS {S : Nat → Prop} {w w' : World} {a : Sl} {c n : Nat} {row : Nat → List Value} (h : a.lies w c n row) (hs : a.sep S n)
    (hb : ∀ b o, S b → b < w.heap.size → w'.cell? ⟨b, o, none⟩ = w.cell? ⟨b, o, none⟩) (hz : w.heap.size ≤ w'.heap.size) : a.lies w' c n row := by
  cases a with
  | no => exact h
  | odd a => exact h
  | at_ b o cap => exact ⟨h.1, h.2.1, fun i hi j hj => by
      obtain ⟨h1, h2⟩ := h.2.2 i hi j hj
      have hsb : S b := by rcases hs with h' | h'; omega; exact h'
      exact ⟨(hb b _ hsb h2).trans h1, by omega⟩⟩
theorem Val.in_carryS {S : Nat → Prop} {w w' : World} (hb : ∀ b o, S b → b < w.heap.size → w'.cell? ⟨b, o, none⟩ = w.cell? ⟨b, o, none⟩) (hz : w.heap.size ≤ w'.heap.size) :
    ∀ (d : Nat) (v : Val), v.sz ≤ d → v.In w → v.Sep S → v.In w'
  | 0, v, hd, _, _ => by rw [Val.sz_eq] at hd; omega
  | d + 1, v, hd, h, hs => by
    rw [Val.in_iff] at h ⊢
    rw [Val.sep_iff] at hs
    exact ⟨h.1, h.2.1.carryS hs.1 hb hz, h.2.2.1.carryS hs.2.1 hb hz, fun x hx => Val.in_carryS hb hz d x (by have := Val.size_mem hx; omega) (h.2.2.2 x hx) (hs.2.2 x hx)⟩
theorem Val.In.carryS {S : Nat → Prop} {w w' : World} {v : Val} (h : v.In w) (hs : v.Sep S) (hb : ∀ b o, S b → b < w.heap.size → w'.cell? ⟨b, o, none⟩ = w.cell? ⟨b, o, none⟩) (hz : w.heap.size ≤ w'.heap.size) : v.In w' :=
  Val.in_carryS hb hz v.sz v (Nat.le_refl _) h hs

mutual
/-- A value without its places; the same with floats made canonical. -/
def Val.erase : Val → Val
  | .mk k n f s _ ns _ xs => .mk k n f s .no ns .no (Val.eraseAll xs)
def Val.eraseAll : List Val → List Val
  | [] => []
  | x :: xs => x.erase :: Val.eraseAll xs
end
theorem Val.eraseAll_map : ∀ xs : List Val, Val.eraseAll xs = xs.map Val.erase
  | [] => rfl
  | x :: xs => by simp [Val.eraseAll, Val.eraseAll_map xs]
theorem Val.erase_eq (v : Val) : v.erase = .mk v.k v.n v.f v.s .no v.ns .no (v.xs.map Val.erase) := by
  cases v
  simp only [Val.erase, Val.eraseAll_map, Val.k, Val.n, Val.f, Val.s, Val.ns, Val.xs]

/-- The cells of values in a row. -/
def rowCells (us : List Val) : List Value := us.flatMap Val.cells
theorem cells_length (v : Val) : v.cells.length = 6 := rfl
theorem rowCells_length (us : List Val) : (rowCells us).length = us.length * 6 := by
  induction us with
  | nil => rfl
  | cons u us ih => simp [rowCells] at ih ⊢; rw [ih, cells_length]; omega
theorem rowCells_get : ∀ (us : List Val) (i j : Nat) (hi : i < us.length), j < 6 → (rowCells us)[i * 6 + j]? = (us[i]'hi).cells[j]?
  | u :: us, 0, j, _, hj => by
    simp only [rowCells, List.flatMap_cons, Nat.zero_mul, Nat.zero_add]
    rw [List.getElem?_append_left (by rw [cells_length]; exact hj)]
    rfl
  | u :: us, i + 1, j, hi, hj => by
    simp only [rowCells, List.flatMap_cons]
    rw [List.getElem?_append_right (by rw [cells_length]; omega)]
    have := rowCells_get us i j (by simpa using hi) hj
    rw [cells_length, show (i + 1) * 6 + j - 6 = i * 6 + j from by omega]
    simpa [rowCells] using this
theorem rowCells_snoc (us : List Val) (u : Val) : rowCells (us ++ [u]) = rowCells us ++ u.cells := by simp [rowCells]
theorem cells_oneCell (v : Val) : ∀ u ∈ v.cells, u.oneCell' = true := by
  intro u hu
  simp only [Val.cells, List.mem_cons, List.not_mem_nil, or_false] at hu
  rcases hu with rfl | rfl | rfl | rfl | rfl | rfl
  · rfl
  · rfl
  · rfl
  · rfl
  · cases v.na <;> rfl
  · cases v.xa <;> rfl

/-- What an owned row of values is: where it lies. -/
theorem rowLies_of_own {w : World} {base : Nat} {e : TypeId} {v : Value} {us : List Val} (h : w.ownsRow base e 6 v us.length (rowCells us)) :
    ∃ s : Sl, v = s.val us.length ∧ s.lies w 6 us.length (fun i => (us.getD i Val.zero).cells) ∧ s.sep (fun b => base ≤ b) us.length := by
  rcases h.2 with ⟨rfl, h0⟩ | ⟨g, cap, cur, rfl, hb, hg, hnc, hcm, hcs, htake⟩
  · exact ⟨.no, by simp [Sl.val], h0, trivial⟩
  · refine ⟨.at_ g 0 cap, rfl, ⟨hnc, by unfold maxLen at hcm; exact hcm, fun i hi j hj => ⟨?_, ?_⟩⟩, .inr hb⟩
    · have hget := rowCells_get us i j hi hj
      have hl : j < (us[i]'hi).cells.length := by rw [cells_length]; exact hj
      have hc := h.cells (g := g) rfl (i * 6 + j) ((us[i]'hi).cells[j]'hl) (by rw [hget, List.getElem?_eq_getElem hl])
      rw [Addr.add_lit] at hc
      have e : us.getD i Val.zero = us[i]'hi := by simp [hi]
      show _ = (us.getD i Val.zero).cells[j]?
      rw [hc, e, List.getElem?_eq_getElem hl]
    · rcases Nat.lt_or_ge g w.heap.size with h' | h'
      · exact h'
      · simp [Array.getElem?_eq_none h'] at hg
end Go.Proofs.Ytemhinagajfemaa
