/- Where a type's parts lie (printed by wip/gen_tysep.py from XValSep). Plain lemmas. -/
import Derived.Test.YtjpdbhhjlnmacaaGreatTcM1
import Derived.Test.YtjpdbhhjlnmacaaGreatTcM2
import Derived.Test.YtjpdbhhjlnmacaaGreatTcM6
import Derived.BigGuardPart
namespace Go.Proofs.YtjpdbhhjlnmacaaGreat
set_option linter.unusedVariables false
open Go.RowKit

mutual
/-- Each block that it leads to is such a one. -/
def Ty.Sep (S : Nat → Prop) : Ty → Prop
  | .mk _ na ns xa xs => na.sep S ns.length ∧ xa.sep S xs.length ∧ Ty.SepAll S xs
def Ty.SepAll (S : Nat → Prop) : List Ty → Prop
  | [] => True
  | x :: xs => x.Sep S ∧ Ty.SepAll S xs
end
theorem Ty.sepAll_iff (S : Nat → Prop) : ∀ xs : List Ty, Ty.SepAll S xs ↔ ∀ x, x ∈ xs → x.Sep S
  | [] => by simp [Ty.SepAll]
  | x :: xs => by simp [Ty.SepAll, Ty.sepAll_iff S xs]
theorem Ty.sep_iff (S : Nat → Prop) (v : Ty) : v.Sep S ↔ v.na.sep S v.ns.length ∧ v.xa.sep S v.xs.length ∧ ∀ x, x ∈ v.xs → x.Sep S := by
  cases v
  simp only [Ty.Sep, Ty.sepAll_iff, Ty.na, Ty.ns, Ty.xa, Ty.xs]
theorem Ty.sep_mono {S T : Nat → Prop} (hst : ∀ b, S b → T b) : ∀ (d : Nat) (v : Ty), v.sz ≤ d → v.Sep S → v.Sep T
  | 0, v, hd, _ => by rw [Ty.sz_eq] at hd; omega
  | d + 1, v, hd, h => by
    rw [Ty.sep_iff] at h ⊢
    exact ⟨h.1.mono hst, h.2.1.mono hst, fun x hx => Ty.sep_mono hst d x (by have := Ty.size_mem hx; omega) (h.2.2 x hx)⟩
theorem Ty.Sep.mono {S T : Nat → Prop} {v : Ty} (h : v.Sep S) (hst : ∀ b, S b → T b) : v.Sep T := Ty.sep_mono hst v.sz v (Nat.le_refl _) h
theorem Ty.sep_and {S T : Nat → Prop} : ∀ (d : Nat) (v : Ty), v.sz ≤ d → v.Sep S → v.Sep T → v.Sep (fun b => S b ∧ T b)
  | 0, v, hd, _, _ => by rw [Ty.sz_eq] at hd; omega
  | d + 1, v, hd, h, k => by
    rw [Ty.sep_iff] at h k ⊢
    exact ⟨h.1.and k.1, h.2.1.and k.2.1, fun x hx => Ty.sep_and d x (by have := Ty.size_mem hx; omega) (h.2.2 x hx) (k.2.2 x hx)⟩
theorem Ty.Sep.and {S T : Nat → Prop} {v : Ty} (h : v.Sep S) (k : v.Sep T) : v.Sep (fun b => S b ∧ T b) := Ty.sep_and v.sz v (Nat.le_refl _) h k
theorem Ty.in_sep {w : World} : ∀ (d : Nat) (v : Ty), v.sz ≤ d → v.In w → v.Sep (fun b => b < w.heap.size)
  | 0, v, hd, _ => by rw [Ty.sz_eq] at hd; omega
  | d + 1, v, hd, h => by
    rw [Ty.in_iff] at h
    rw [Ty.sep_iff]
    exact ⟨h.2.1.sep (by omega), h.2.2.1.sep (by omega), fun x hx => Ty.in_sep d x (by have := Ty.size_mem hx; omega) (h.2.2.2 x hx)⟩
theorem Ty.In.sep {w : World} {v : Ty} (h : v.In w) : v.Sep (fun b => b < w.heap.size) := Ty.in_sep v.sz v (Nat.le_refl _) h

theorem Ty.in_carryS {S : Nat → Prop} {w w' : World} (hb : ∀ b o, S b → b < w.heap.size → w'.cell? ⟨b, o, none⟩ = w.cell? ⟨b, o, none⟩) (hz : w.heap.size ≤ w'.heap.size) :
    ∀ (d : Nat) (v : Ty), v.sz ≤ d → v.In w → v.Sep S → v.In w'
  | 0, v, hd, _, _ => by rw [Ty.sz_eq] at hd; omega
  | d + 1, v, hd, h, hs => by
    rw [Ty.in_iff] at h ⊢
    rw [Ty.sep_iff] at hs
    exact ⟨h.1, h.2.1.carryS hs.1 hb hz, h.2.2.1.carryS hs.2.1 hb hz, fun x hx => Ty.in_carryS hb hz d x (by have := Ty.size_mem hx; omega) (h.2.2.2 x hx) (hs.2.2 x hx)⟩
theorem Ty.In.carryS {S : Nat → Prop} {w w' : World} {v : Ty} (h : v.In w) (hs : v.Sep S) (hb : ∀ b o, S b → b < w.heap.size → w'.cell? ⟨b, o, none⟩ = w.cell? ⟨b, o, none⟩) (hz : w.heap.size ≤ w'.heap.size) : v.In w' :=
  Ty.in_carryS hb hz v.sz v (Nat.le_refl _) h hs

mutual
/-- A value without its places; the same with floats made canonical. -/
def Ty.erase : Ty → Ty
  | .mk k _ ns _ xs => .mk k .no ns .no (Ty.eraseAll xs)
def Ty.eraseAll : List Ty → List Ty
  | [] => []
  | x :: xs => x.erase :: Ty.eraseAll xs
end
theorem Ty.eraseAll_map : ∀ xs : List Ty, Ty.eraseAll xs = xs.map Ty.erase
  | [] => rfl
  | x :: xs => by simp [Ty.eraseAll, Ty.eraseAll_map xs]
theorem Ty.erase_eq (v : Ty) : v.erase = .mk v.k .no v.ns .no (v.xs.map Ty.erase) := by
  cases v
  simp only [Ty.erase, Ty.eraseAll_map, Ty.k, Ty.ns, Ty.xs]

/-- The cells of values in a row. -/
def trowCells (us : List Ty) : List Value := us.flatMap Ty.cells
theorem tcells_length (v : Ty) : v.cells.length = 3 := rfl
theorem trowCells_get : ∀ (us : List Ty) (i j : Nat) (hi : i < us.length), j < 3 → (trowCells us)[i * 3 + j]? = (us[i]'hi).cells[j]?
  | u :: us, 0, j, _, hj => by
    simp only [trowCells, List.flatMap_cons, Nat.zero_mul, Nat.zero_add]
    rw [List.getElem?_append_left (by rw [tcells_length]; exact hj)]
    rfl
  | u :: us, i + 1, j, hi, hj => by
    simp only [trowCells, List.flatMap_cons]
    rw [List.getElem?_append_right (by rw [tcells_length]; omega)]
    have := trowCells_get us i j (by simpa using hi) hj
    rw [tcells_length, show (i + 1) * 3 + j - 3 = i * 3 + j from by omega]
    simpa [trowCells] using this
theorem tcells_oneCell (v : Ty) : ∀ u ∈ v.cells, u.oneCell' = true := by
  intro u hu
  simp only [Ty.cells, List.mem_cons, List.not_mem_nil, or_false] at hu
  rcases hu with rfl | rfl | rfl
  · rfl
  · cases v.na <;> rfl
  · cases v.xa <;> rfl

/-- What an owned row of values is: where it lies. -/
theorem trowLies_of_own {w : World} {base : Nat} {e : TypeId} {v : Value} {us : List Ty} (h : w.ownsRow base e 3 v us.length (trowCells us)) :
    ∃ s : Sl, v = s.val us.length ∧ s.lies w 3 us.length (fun i => (us.getD i Ty.zero).cells) ∧ s.sep (fun b => base ≤ b) us.length := by
  rcases h.2 with ⟨rfl, h0⟩ | ⟨g, cap, cur, rfl, hb, hg, hnc, hcm, hcs, htake⟩
  · exact ⟨.no, by simp [Sl.val], h0, trivial⟩
  · refine ⟨.at_ g 0 cap, rfl, ⟨hnc, by unfold maxLen at hcm; exact hcm, fun i hi j hj => ⟨?_, ?_⟩⟩, .inr hb⟩
    · have hget := trowCells_get us i j hi hj
      have hl : j < (us[i]'hi).cells.length := by rw [tcells_length]; exact hj
      have hc := h.cells (g := g) rfl (i * 3 + j) ((us[i]'hi).cells[j]'hl) (by rw [hget, List.getElem?_eq_getElem hl])
      rw [Addr.add_lit] at hc
      have e : us.getD i Ty.zero = us[i]'hi := by simp [hi]
      show _ = (us.getD i Ty.zero).cells[j]?
      rw [hc, e, List.getElem?_eq_getElem hl]
    · rcases Nat.lt_or_ge g w.heap.size with h' | h'
      · exact h'
      · simp [Array.getElem?_eq_none h'] at hg
end Go.Proofs.YtjpdbhhjlnmacaaGreat

/- Expressions as trees that lie in memory (printed by wip/gen_exp.py from XVal): plain words and lemmas, no program in sight. -/
namespace Go.Proofs.YtjpdbhhjlnmacaaGreat
set_option linter.unusedVariables false
open Go.RowKit

/-- An expression: its kind, string, value; its names and where they lie; its kids and where they lie. -/
inductive Exp where
  | mk (k : Int) (s : ByteArray) (v : Val) (na : Sl) (ns : List ByteArray) (xa : Sl) (xs : List Exp)
namespace Exp
def k : Exp → Int | .mk k _ _ _ _ _ _ => k
def s : Exp → ByteArray | .mk _ s _ _ _ _ _ => s
def v : Exp → Val | .mk _ _ v _ _ _ _ => v
def na : Exp → Sl | .mk _ _ _ na _ _ _ => na
def ns : Exp → List ByteArray | .mk _ _ _ _ ns _ _ => ns
def xa : Exp → Sl | .mk _ _ _ _ _ xa _ => xa
def xs : Exp → List Exp | .mk _ _ _ _ _ _ xs => xs
/-- Its ten cells. -/
def cells (v : Exp) : List Value := [.int .i64 v.k, .string v.s, .int .i64 v.v.k, .int .i64 v.v.n, .float .f64 v.v.f, .string v.v.s, v.v.na.val v.v.ns.length, v.v.xa.val v.v.xs.length, v.na.val v.ns.length, v.xa.val v.xs.length]
/-- It by value. -/
abbrev agg (v : Exp) : Value := .agg #[.int .i64 v.k, .string v.s, .int .i64 v.v.k, .int .i64 v.v.n, .float .f64 v.v.f, .string v.v.s, v.v.na.val v.v.ns.length, v.v.xa.val v.v.xs.length, v.na.val v.ns.length, v.xa.val v.xs.length]
end Exp
mutual
/-- All that an expression leads to lies in memory. -/
def Exp.In (w : World) : Exp → Prop
  | .mk k s v na ns xa xs => (i64r k ∧ strok s ∧ ns.length ≤ 8796093021952 ∧ xs.length ≤ 879609302195 ∧ ∀ s, s ∈ ns → strok s) ∧ v.In w ∧
    na.lies w 1 ns.length (fun i => [.string (ns.getD i ByteArray.empty)]) ∧ xa.lies w 10 xs.length (fun i => Exp.cells (xs.getD i (.mk 0 ByteArray.empty Val.zero .no [] .no []))) ∧ Exp.InAll w xs
def Exp.InAll (w : World) : List Exp → Prop
  | [] => True
  | x :: xs => x.In w ∧ Exp.InAll w xs
end
abbrev Exp.zero : Exp := .mk 0 ByteArray.empty Val.zero .no [] .no []

theorem Exp.inAll_iff (w : World) : ∀ xs : List Exp, Exp.InAll w xs ↔ ∀ x, x ∈ xs → x.In w
  | [] => by simp [Exp.InAll]
  | x :: xs => by simp [Exp.InAll, Exp.inAll_iff w xs]

theorem Exp.in_iff (w : World) (v : Exp) : v.In w ↔ (i64r v.k ∧ strok v.s ∧ v.ns.length ≤ 8796093021952 ∧ v.xs.length ≤ 879609302195 ∧ ∀ s, s ∈ v.ns → strok s) ∧ v.v.In w ∧
    v.na.lies w 1 v.ns.length (fun i => [.string (v.ns.getD i ByteArray.empty)]) ∧ v.xa.lies w 10 v.xs.length (fun i => (v.xs.getD i Exp.zero).cells) ∧ ∀ x, x ∈ v.xs → x.In w := by
  cases v
  simp only [Exp.In, Exp.inAll_iff, Exp.k, Exp.s, Exp.v, Exp.na, Exp.ns, Exp.xa, Exp.xs]

mutual
def Exp.sz : Exp → Nat
  | .mk _ _ _ _ _ _ xs => 1 + Exp.szAll xs
def Exp.szAll : List Exp → Nat
  | [] => 0
  | x :: xs => x.sz + Exp.szAll xs
end
theorem Exp.sz_eq (v : Exp) : v.sz = 1 + Exp.szAll v.xs := by cases v; simp [Exp.sz, Exp.xs]
theorem Exp.szAll_mem {x : Exp} : ∀ {xs : List Exp}, x ∈ xs → x.sz ≤ Exp.szAll xs
  | [], h => by simp at h
  | y :: xs, h => by
    simp only [Exp.szAll]
    rcases List.mem_cons.1 h with rfl | h
    · omega
    · have := Exp.szAll_mem h; omega
theorem Exp.size_mem {x v : Exp} (h : x ∈ v.xs) : x.sz < v.sz := by
  have := Exp.szAll_mem h
  rw [Exp.sz_eq v]; omega

theorem Exp.in_carry {w w' : World} (hb : ∀ b o, b < w.heap.size → w'.cell? ⟨b, o, none⟩ = w.cell? ⟨b, o, none⟩) (hz : w.heap.size ≤ w'.heap.size) : ∀ (d : Nat) (v : Exp), v.sz ≤ d → v.In w → v.In w'
  | 0, v, hd, _ => by rw [Exp.sz_eq] at hd; omega
  | d + 1, v, hd, h => by
    rw [Exp.in_iff] at h ⊢
    exact ⟨h.1, Val.in_carry hb hz _ v.v (Nat.le_refl _) h.2.1, Sl.lies.carry h.2.2.1 hb hz, Sl.lies.carry h.2.2.2.1 hb hz, fun x hx => Exp.in_carry hb hz d x (by have := Exp.size_mem hx; omega) (h.2.2.2.2 x hx)⟩
theorem Exp.In.below {w w' : World} {v : Exp} (h : v.In w) (hb : Below w.heap.size w w') : v.In w' :=
  Exp.in_carry (fun b o hlt => hb.cell (p := ⟨b, o, none⟩) hlt) hb.size _ v (Nat.le_refl _) h
theorem Exp.In.drewN {w : World} {v : Exp} (h : v.In w) (n : Nat) : v.In (w.drewN n) := Exp.in_carry (w := w) (w' := w.drewN n) (fun _ _ _ => rfl) (Nat.le_refl _) _ v (Nat.le_refl _) h

/-- An expression's cells lie at a place, and all that it leads to lies in memory. -/
def PExp (w : World) (b o : Nat) (v : Exp) : Prop := (∀ j, j < 10 → w.cell? ⟨b, o + j, none⟩ = v.cells[j]?) ∧ b < w.heap.size ∧ v.In w
section
variable {w w' : World} {b o : Nat} {v : Exp}
theorem PExp.c0 (h : PExp w b o v) : w.cell? ⟨b, o, none⟩ = some (.int .i64 v.k) := h.1 0 (by omega)
theorem PExp.c1 (h : PExp w b o v) : w.cell? ⟨b, o + 1, none⟩ = some (.string v.s) := h.1 1 (by omega)
theorem PExp.c2 (h : PExp w b o v) : w.cell? ⟨b, o + 2, none⟩ = some (.int .i64 v.v.k) := h.1 2 (by omega)
theorem PExp.c3 (h : PExp w b o v) : w.cell? ⟨b, o + 3, none⟩ = some (.int .i64 v.v.n) := h.1 3 (by omega)
theorem PExp.c4 (h : PExp w b o v) : w.cell? ⟨b, o + 4, none⟩ = some (.float .f64 v.v.f) := h.1 4 (by omega)
theorem PExp.c5 (h : PExp w b o v) : w.cell? ⟨b, o + 5, none⟩ = some (.string v.v.s) := h.1 5 (by omega)
theorem PExp.c6 (h : PExp w b o v) : w.cell? ⟨b, o + 6, none⟩ = some (v.v.na.val v.v.ns.length) := h.1 6 (by omega)
theorem PExp.c7 (h : PExp w b o v) : w.cell? ⟨b, o + 7, none⟩ = some (v.v.xa.val v.v.xs.length) := h.1 7 (by omega)
theorem PExp.c8 (h : PExp w b o v) : w.cell? ⟨b, o + 8, none⟩ = some (v.na.val v.ns.length) := h.1 8 (by omega)
theorem PExp.c9 (h : PExp w b o v) : w.cell? ⟨b, o + 9, none⟩ = some (v.xa.val v.xs.length) := h.1 9 (by omega)
theorem PExp.below (h : PExp w b o v) (hb : Below w.heap.size w w') : PExp w' b o v :=
  ⟨fun j hj => (hb.cell (p := ⟨b, o + j, none⟩) h.2.1).trans (h.1 j hj), Nat.lt_of_lt_of_le h.2.1 hb.size, h.2.2.below hb⟩
theorem PExp.drewN (h : PExp w b o v) (n : Nat) : PExp (w.drewN n) b o v := ⟨h.1, h.2.1, h.2.2.drewN n⟩
theorem PExp.new (w : World) (v : Exp) (t : TypeId) (h : v.In w) : PExp (w.alloc (.cells v.cells.toArray t)) w.heap.size 0 v := by
  refine ⟨fun j hj => ?_, by simp, h.below ((Below.refl _ w).alloc (Nat.le_refl _) _)⟩
  rw [(Blk.new w t _).cell]
  simp
theorem PExp.in (h : PExp w b o v) : v.In w := h.2.2

theorem Exp.In.ok (h : v.In w) : i64r v.k ∧ strok v.s ∧ v.ns.length ≤ 8796093021952 ∧ v.xs.length ≤ 879609302195 ∧ ∀ s, s ∈ v.ns → strok s := ((Exp.in_iff w v).1 h).1
theorem Exp.In.nslice (h : v.In w) : ∃ p c, v.na.val v.ns.length = .slice p v.ns.length c := by
  have hx := ((Exp.in_iff w v).1 h).2.2.1
  cases ha : v.na with
  | no =>
    rw [ha] at hx
    have : v.ns.length = 0 := by simpa [Sl.lies] using hx
    exact ⟨none, 0, by simp [Sl.val, this]⟩
  | odd a =>
    rw [ha] at hx
    have : v.ns.length = 0 := by simpa [Sl.lies] using hx
    exact ⟨some a, 0, by simp [Sl.val, this]⟩
  | at_ b o cap => exact ⟨_, _, rfl⟩
theorem Exp.In.xslice (h : v.In w) : ∃ p c, v.xa.val v.xs.length = .slice p v.xs.length c := by
  have hx := ((Exp.in_iff w v).1 h).2.2.2.1
  cases ha : v.xa with
  | no =>
    rw [ha] at hx
    have : v.xs.length = 0 := by simpa [Sl.lies] using hx
    exact ⟨none, 0, by simp [Sl.val, this]⟩
  | odd a =>
    rw [ha] at hx
    have : v.xs.length = 0 := by simpa [Sl.lies] using hx
    exact ⟨some a, 0, by simp [Sl.val, this]⟩
  | at_ b o cap => exact ⟨_, _, rfl⟩

/-- The items, as they lie. -/
inductive XItems (w : World) (v : Exp) : Prop where
  | none (p : Option Addr) (h1 : v.xa.val v.xs.length = .slice p 0 0) (h2 : v.xs = [])
  | some (b o cap : Nat) (h1 : v.xa.val v.xs.length = .slice (some ⟨b, o, Option.none⟩) v.xs.length cap) (h2 : v.xs.length ≤ cap) (h3 : cap ≤ 9223372036854775807) (h4 : ∀ i (h : i < v.xs.length), PExp w b (o + i * 10) v.xs[i])
theorem Exp.In.items (h : v.In w) : XItems w v := by
  rw [Exp.in_iff] at h
  obtain ⟨_, _, _, hx, hi⟩ := h
  cases ha : v.xa with
  | no =>
    rw [ha] at hx
    exact .none Option.none (by simp [Sl.val, ha]) (by simpa [Sl.lies] using hx)
  | odd a =>
    rw [ha] at hx
    exact .none (Option.some a) (by simp [Sl.val, ha]) (by simpa [Sl.lies] using hx)
  | at_ b o cap =>
    rw [ha] at hx
    refine .some b o cap (by simp [Sl.val, ha]) hx.1 hx.2.1 (fun i hl => ⟨fun j hj => ?_, ?_, hi _ (by simp)⟩)
    · have := (hx.2.2 i hl j hj).1
      rw [← Nat.add_assoc] at this
      rw [this]
      simp [hl]
    · exact (hx.2.2 i hl 0 (by omega)).2
inductive XNames (w : World) (v : Exp) : Prop where
  | none (p : Option Addr) (h1 : v.na.val v.ns.length = .slice p 0 0) (h2 : v.ns = [])
  | some (b o cap : Nat) (h1 : v.na.val v.ns.length = .slice (some ⟨b, o, Option.none⟩) v.ns.length cap) (h2 : v.ns.length ≤ cap) (h3 : cap ≤ 9223372036854775807) (h4 : ∀ i (h : i < v.ns.length), w.cell? ⟨b, o + i, Option.none⟩ = Option.some (.string v.ns[i]))
theorem Exp.In.names (h : v.In w) : XNames w v := by
  rw [Exp.in_iff] at h
  obtain ⟨_, _, hx, _, hi⟩ := h
  cases ha : v.na with
  | no =>
    rw [ha] at hx
    exact .none Option.none (by simp [Sl.val, ha]) (by simpa [Sl.lies] using hx)
  | odd a =>
    rw [ha] at hx
    exact .none (Option.some a) (by simp [Sl.val, ha]) (by simpa [Sl.lies] using hx)
  | at_ b o cap =>
    rw [ha] at hx
    refine .some b o cap (by simp [Sl.val, ha]) hx.1 hx.2.1 (fun i hl => ?_)
    have := (hx.2.2 i hl 0 (by omega)).1
    simp at this
    rw [this]
    simp [hl]
end
theorem Exp.In.val {w : World} {v : Exp} (h : v.In w) : v.v.In w := ((Exp.in_iff w v).1 h).2.1
theorem Exp.In.kid {w : World} {v x : Exp} (h : v.In w) (hx : x ∈ v.xs) : x.In w := ((Exp.in_iff w v).1 h).2.2.2.2 x hx
theorem PExp.val {w : World} {b o : Nat} {v : Exp} (h : PExp w b o v) : PVal w b (o + 2) v.v := by
  refine ⟨fun j hj => ?_, h.2.1, h.2.2.val⟩
  rw [Nat.add_assoc, h.1 (2 + j) (by omega)]
  have : j = 0 ∨ j = 1 ∨ j = 2 ∨ j = 3 ∨ j = 4 ∨ j = 5 := by omega
  rcases this with rfl | rfl | rfl | rfl | rfl | rfl <;> rfl
theorem XNamesAt.of {w : World} {v : Exp} (h : v.In w) : NamesAt w (v.na.val v.ns.length) v.ns := by
  have hx := ((Exp.in_iff w v).1 h).2.2.1
  cases ha : v.na with
  | no =>
    rw [ha] at hx
    have : v.ns.length = 0 := by simpa [Sl.lies] using hx
    exact .none Option.none (by simp [Sl.val]) (by simpa using this)
  | odd a =>
    rw [ha] at hx
    have : v.ns.length = 0 := by simpa [Sl.lies] using hx
    exact .none (Option.some a) (by simp [Sl.val]) (by simpa using this)
  | at_ b o cap =>
    rw [ha] at hx
    refine .some b o cap rfl hx.1 hx.2.1 ?_ (fun i hl => ?_)
    · rcases Nat.eq_zero_or_pos v.ns.length with h0 | h0
      · exact .inl h0
      · exact .inr (hx.2.2 0 h0 0 (by omega)).2
    · have := (hx.2.2 i hl 0 (by omega)).1
      simpa using this
theorem xitems_at {w : World} {v : Exp} (h : v.In w) : ∃ p c, v.xa.val v.xs.length = .slice p v.xs.length c ∧ ∀ i (hi : i < v.xs.length), ∃ b o, p = some ⟨b, o, none⟩ ∧ PExp w b (o + i * 10) (v.xs[i]'hi) ∧ v.xs.length ≤ c := by
  rcases h.items with ⟨pz, h1, h2⟩ | ⟨b, o, cap, h1, h2, h3, h4⟩
  · exact ⟨pz, 0, by rw [h1, h2]; rfl, fun i hi => by rw [h2] at hi; simp at hi⟩
  · exact ⟨_, cap, h1, fun i hi => ⟨b, o, rfl, h4 i hi, h2⟩⟩
end Go.Proofs.YtjpdbhhjlnmacaaGreat

/- How many parts an expression has (printed by wip/gen_exp2.py from XTyCount). -/
namespace Go.Proofs.YtjpdbhhjlnmacaaGreat
set_option linter.unusedVariables false
open Go.RowKit

mutual
/-- Parts, counted up to a bound. -/
def Exp.count : Exp → Nat → Nat
  | .mk _ _ _ _ _ _ xs, n => Exp.countAll xs (n + 1)
def Exp.countAll : List Exp → Nat → Nat
  | [], n => n
  | x :: xs, n => if 500 ≤ n then n else Exp.countAll xs (x.count n)
end
theorem Exp.count_eq (v : Exp) (n : Nat) : v.count n = Exp.countAll v.xs (n + 1) := by cases v; simp [Exp.count, Exp.xs]
theorem Exp.count_le : ∀ (d : Nat) (v : Exp) (n : Nat), v.sz ≤ d → n < 500 → n < v.count n ∧ v.count n ≤ 500
  | 0, v, n, hd, _ => by rw [Exp.sz_eq] at hd; omega
  | d + 1, v, n, hd, hn => by
    have key : ∀ (xs : List Exp) (m : Nat), (∀ x, x ∈ xs → x.sz ≤ d) → m ≤ 500 → m ≤ Exp.countAll xs m ∧ Exp.countAll xs m ≤ 500 := by
      intro xs
      induction xs with
      | nil => intro m _ hm; simp [Exp.countAll]; exact hm
      | cons x xs ih =>
        intro m hx hm
        simp only [Exp.countAll]
        split
        · omega
        · have h1 := Exp.count_le d x m (hx x (by simp)) (by omega)
          have h2 := ih (x.count m) (fun y hy => hx y (by simp [hy])) h1.2
          omega
    rw [Exp.count_eq]
    have := key v.xs (n + 1) (fun x hx => by have := Exp.size_mem hx; omega) (by omega)
    omega
theorem Exp.countAll_ge {xs : List Exp} {m : Nat} (h : 500 ≤ m) : Exp.countAll xs m = m := by
  cases xs with
  | nil => simp [Exp.countAll]
  | cons x xs => simp [Exp.countAll, h]


set_option maxHeartbeats 1000000 in
set_option maxRecDepth 100000 in
theorem xcounted_any : ∀ (d : Nat) (v : Exp) (b o n : Nat) (w : World), v.sz ≤ d → n < 500 → PExp w b o v →
    Calls Tryz.prog 68 #[.pointer (some ⟨b, o, none⟩), .int .i64 n] w fun e w' => e = .returned (.int .i64 ((v.count n : Nat) : Int)) ∧ w = w'
  | 0, v, b, o, n, w, hd, _, _ => by rw [Exp.sz_eq] at hd; omega
  | d + 1, v, b, o, n, w, hd, hn, hp => by
    have c5 := hp.c9
    have hw : IntKind.i64.wrap ((n : Int) + 1) = (n : Int) + 1 := IntWalk.i64_in _ (by omega)
    rcases hp.in.items with ⟨pz, h1, h2⟩ | ⟨xb, xo, cap, h1, h2, h3, h4⟩
    · rw [h1] at c5
      have HE : Hid (v.count n = n + 1) := Lib.hid (by rw [Exp.count_eq, h2]; simp [Exp.countAll])
      clear h1 h2 hp
      go_enter Tryz.func68, Tryz.ntmps68
      go_wp2_with fail
      go_loopw [1, 13] (fun nv iv wr => nv = .int .i64 ((n : Int) + 1) ∧ iv = .int .i64 0 ∧ wr = w) (fun _ _ _ => 0)
      case atStart => exact ⟨rfl, rfl, rfl⟩
      case round =>
        obtain ⟨rfl, rfl, rfl⟩ := hrel
        go_wp2
        go_ret
        exact ⟨by rw [HE.out]; simp, rfl⟩
    · rw [h1] at c5
      obtain ⟨L, hL⟩ : ∃ L, L = v.xs.length := ⟨_, rfl⟩
      rw [← hL] at h2 c5
      have HL := Lib.hid hL
      have HC := Lib.hid (Exp.count_eq v n)
      have H4 := Lib.hid h4
      have hmem : ∀ x, x ∈ v.xs → x.sz ≤ d := fun x hx => by have := Exp.size_mem hx; omega
      have HM := Lib.hid hmem
      clear h1 hL h4 hmem hp
      go_enter Tryz.func68, Tryz.ntmps68
      go_wp2_with fail
      go_loopw [1, 13] (fun nv iv wr => ∃ i m : Nat, nv = .int .i64 (m : Int) ∧ iv = .int .i64 (i : Int) ∧ i ≤ L ∧ m ≤ 500 ∧ Hid (Exp.countAll (v.xs.drop i) m = v.count n) ∧ wr = w) (fun _ iv _ => L - (intOf iv).toNat)
      case atStart => exact ⟨0, n + 1, by simp, rfl, by omega, by omega, Lib.hid (by rw [HC.out]; rfl), rfl⟩
      case round =>
        obtain ⟨i, m, rfl, rfl, hi, hm, HR, rfl⟩ := hrel
        by_cases hlt : i < L
        · have hil : i < v.xs.length := by rw [← HL.out]; exact hlt
          by_cases h500 : 500 ≤ m
          · have HE : Hid (v.count n = m) := Lib.hid (by rw [← HR.out, Exp.countAll_ge h500])
            go_wp2
            go_ret
            exact ⟨by rw [HE.out]; rfl, rfl⟩
          · have ih := xcounted_any d (v.xs[i]'hil) xb (xo + i * 10) m wr (HM.out _ (by simp)) (by omega) (H4.out i hil)
            have hcl := Exp.count_le d (v.xs[i]'hil) m (HM.out _ (by simp)) (by omega)
            have HR2 : Hid (Exp.countAll (v.xs.drop (i + 1)) ((v.xs[i]'hil).count m) = v.count n) := Lib.hid (by
              rw [← HR.out, drop_cons hil]; simp [Exp.countAll, h500])
            obtain ⟨q, hq⟩ : ∃ q, q = (v.xs[i]'hil).count m := ⟨_, rfl⟩
            rw [← hq] at ih hcl HR2
            have IH := Lib.hid ih
            clear ih HR hq hil
            obtain ⟨hcl1, hcl2⟩ := hcl
            go_wp2_with fail
            refine IH.out.mono ?_
            rintro e w' ⟨rfl, rfl⟩
            go_wp2
            go_roundw
            case rel => exact ⟨i + 1, q, rfl, by go_num, by omega, by omega, HR2, trivial⟩
            case measure => simp [intOf]; omega
        · have HE : Hid (v.count n = m) := Lib.hid (by rw [← HR.out, List.drop_eq_nil_of_le (by rw [← HL.out]; omega)]; simp [Exp.countAll])
          go_wp2
          go_ret
          exact ⟨by rw [HE.out]; rfl, rfl⟩
end Go.Proofs.YtjpdbhhjlnmacaaGreat

/- The document's lexer: blanks, digits, letters, a run of digits. -/
namespace Go.Proofs.YtjpdbhhjlnmacaaGreat
set_option linter.unusedVariables false
open Go.RowKit

/-- A string's byte. -/
def byteAt (s : ByteArray) (i : Nat) : Nat := (s.data.toList.getD i 0).toNat
theorem byteAt_eq (s : ByteArray) (i : Nat) (h : i < s.size) : (s[i]'h).toNat = byteAt s i := by
  unfold byteAt
  simp [List.getD, List.getElem?_eq_getElem (show i < s.data.toList.length from by simpa using h)]
  rfl
def blankB (c : Nat) : Bool := decide (c = 32 ∨ c = 9 ∨ c = 10 ∨ c = 13)
def digitB (c : Nat) : Bool := decide (48 ≤ c ∧ c ≤ 57)
def letterB (c : Nat) : Bool := decide (97 ≤ c ∧ c ≤ 122)
set_option maxRecDepth 100000 in
theorem blank_any (c : Nat) (w : World) : Calls Tryz.prog 104 #[.int .u8 c] w fun e w' => e = .returned (.bool (blankB c)) ∧ w = w' := by
  obtain ⟨r, hr⟩ : ∃ r, r = blankB c := ⟨_, rfl⟩
  rw [← hr]
  unfold blankB at hr
  by_cases h1 : c = 32
  · have HR : Hid (r = true) := Lib.hid (by rw [hr, decide_eq_true (by omega)])
    subst h1
    clear hr
    go_enter Tryz.func104, Tryz.ntmps104
    go_wp2
    go_ret
    exact ⟨by rw [HR.out]; rfl, rfl⟩
  have j1 : ((c : Int) == 32) = false := by simp; omega
  by_cases h2 : c = 9
  · have HR : Hid (r = true) := Lib.hid (by rw [hr, decide_eq_true (by omega)])
    subst h2
    clear hr
    go_enter Tryz.func104, Tryz.ntmps104
    go_wp2
    go_ret
    exact ⟨by rw [HR.out]; rfl, rfl⟩
  have j2 : ((c : Int) == 9) = false := by simp; omega
  by_cases h3 : c = 10
  · have HR : Hid (r = true) := Lib.hid (by rw [hr, decide_eq_true (by omega)])
    subst h3
    clear hr
    go_enter Tryz.func104, Tryz.ntmps104
    go_wp2
    go_ret
    exact ⟨by rw [HR.out]; rfl, rfl⟩
  have j3 : ((c : Int) == 10) = false := by simp; omega
  by_cases h4 : c = 13
  · have HR : Hid (r = true) := Lib.hid (by rw [hr, decide_eq_true (by omega)])
    subst h4
    clear hr
    go_enter Tryz.func104, Tryz.ntmps104
    go_wp2
    go_ret
    exact ⟨by rw [HR.out]; rfl, rfl⟩
  have j4 : ((c : Int) == 13) = false := by simp; omega
  have HR : Hid (r = false) := Lib.hid (by rw [hr, decide_eq_false (by omega)])
  clear hr h1 h2 h3 h4
  go_enter Tryz.func104, Tryz.ntmps104
  go_wp2
  go_ret
  exact ⟨by rw [HR.out]; rfl, rfl⟩
set_option maxRecDepth 100000 in
theorem digit_any (c : Nat) (w : World) : Calls Tryz.prog 105 #[.int .u8 c] w fun e w' => e = .returned (.bool (digitB c)) ∧ w = w' := by
  obtain ⟨r, hr⟩ : ∃ r, r = digitB c := ⟨_, rfl⟩
  rw [← hr]
  unfold digitB at hr
  by_cases h1 : 48 ≤ c
  · have j1 : decide ((48 : Int) ≤ (c : Int)) = true := by simp; omega
    by_cases h2 : c ≤ 57
    · have j2 : decide ((c : Int) ≤ 57) = true := by simp; omega
      have HR : Hid (r = true) := Lib.hid (by rw [hr, decide_eq_true (by omega)])
      clear hr h1 h2
      go_enter Tryz.func105, Tryz.ntmps105
      go_wp2
      go_ret
      exact ⟨by rw [HR.out]; rfl, rfl⟩
    · have j2 : decide ((c : Int) ≤ 57) = false := by simp; omega
      have HR : Hid (r = false) := Lib.hid (by rw [hr, decide_eq_false (by omega)])
      clear hr h1 h2
      go_enter Tryz.func105, Tryz.ntmps105
      go_wp2
      go_ret
      exact ⟨by rw [HR.out]; rfl, rfl⟩
  · have j1 : decide ((48 : Int) ≤ (c : Int)) = false := by simp; omega
    have HR : Hid (r = false) := Lib.hid (by rw [hr, decide_eq_false (by omega)])
    clear hr h1
    go_enter Tryz.func105, Tryz.ntmps105
    go_wp2
    go_ret
    exact ⟨by rw [HR.out]; rfl, rfl⟩
set_option maxRecDepth 100000 in
theorem letter_any (c : Nat) (w : World) : Calls Tryz.prog 107 #[.int .u8 c] w fun e w' => e = .returned (.bool (letterB c)) ∧ w = w' := by
  obtain ⟨r, hr⟩ : ∃ r, r = letterB c := ⟨_, rfl⟩
  rw [← hr]
  unfold letterB at hr
  by_cases h1 : 97 ≤ c
  · have j1 : decide ((97 : Int) ≤ (c : Int)) = true := by simp; omega
    by_cases h2 : c ≤ 122
    · have j2 : decide ((c : Int) ≤ 122) = true := by simp; omega
      have HR : Hid (r = true) := Lib.hid (by rw [hr, decide_eq_true (by omega)])
      clear hr h1 h2
      go_enter Tryz.func107, Tryz.ntmps107
      go_wp2
      go_ret
      exact ⟨by rw [HR.out]; rfl, rfl⟩
    · have j2 : decide ((c : Int) ≤ 122) = false := by simp; omega
      have HR : Hid (r = false) := Lib.hid (by rw [hr, decide_eq_false (by omega)])
      clear hr h1 h2
      go_enter Tryz.func107, Tryz.ntmps107
      go_wp2
      go_ret
      exact ⟨by rw [HR.out]; rfl, rfl⟩
  · have j1 : decide ((97 : Int) ≤ (c : Int)) = false := by simp; omega
    have HR : Hid (r = false) := Lib.hid (by rw [hr, decide_eq_false (by omega)])
    clear hr h1
    go_enter Tryz.func107, Tryz.ntmps107
    go_wp2
    go_ret
    exact ⟨by rw [HR.out]; rfl, rfl⟩
/-- A run of digits goes to a place. -/
structure RunTo (s : ByteArray) (i j : Nat) : Prop where
  le : i ≤ j
  size : j ≤ s.size
  in_ : ∀ k, i ≤ k → k < j → digitB (byteAt s k) = true
  end_ : j = s.size ∨ digitB (byteAt s j) = false
set_option maxRecDepth 100000 in
theorem run_any (s : ByteArray) (i j : Nat) (w : World) (h : RunTo s i j) (hs : s.size ≤ 2000) : Calls Tryz.prog 123 #[.string s, .int .i64 i] w fun e w' => e = .returned (.int .i64 j) ∧ w = w' := by
  have hby := byteAt_eq s
  have H := Lib.hid h
  have HD := Lib.hid digit_any
  clear h
  go_enter Tryz.func123, Tryz.ntmps123
  go_wp2_with fail
  go_loopw [1] (fun iv wr => ∃ k : Nat, iv = .int .i64 (k : Int) ∧ i ≤ k ∧ k ≤ j ∧ wr = w) (fun iv _ => j - (intOf iv).toNat)
  case atStart => exact ⟨i, rfl, Nat.le_refl _, H.out.le, rfl⟩
  case round =>
    obtain ⟨k, rfl, hik, hkj, rfl⟩ := hrel
    have hsz := H.out.size
    have hk0 : (0 : Int) ≤ (k : Int) := by omega
    by_cases hlt : k < j
    · have h1 : decide ((k : Int) < (s.size : Int)) = true := by simp; omega
      have h2 : (k : Int) < (s.size : Int) := by omega
      have h3 : k < s.size := by omega
      have HDB := Lib.hid (H.out.in_ k hik hlt)
      go_wp2_with fail
      refine (HD.out _ _).mono ?_
      rintro e w2 ⟨rfl, rfl⟩
      rw [HDB.out]
      go_wp2
      go_roundw
      case rel => exact ⟨k + 1, by go_num, by omega, by omega, trivial⟩
      case measure => simp [intOf]; omega
    · obtain rfl : k = j := by omega
      rcases H.out.end_ with he | he
      · have h1 : decide ((k : Int) < (s.size : Int)) = false := by simp; omega
        clear hby
        go_wp2
        go_ret
        exact ⟨rfl, rfl⟩
      · by_cases hn : k < s.size
        · have h1 : decide ((k : Int) < (s.size : Int)) = true := by simp; omega
          have h2 : (k : Int) < (s.size : Int) := by omega
          have HDB := Lib.hid he
          clear he
          go_wp2_with fail
          refine (HD.out _ _).mono ?_
          rintro e w2 ⟨rfl, rfl⟩
          rw [HDB.out]
          go_wp2
          go_ret
          exact ⟨rfl, rfl⟩
        · have h1 : decide ((k : Int) < (s.size : Int)) = false := by simp; omega
          clear hby
          go_wp2
          go_ret
          exact ⟨rfl, rfl⟩
end Go.Proofs.YtjpdbhhjlnmacaaGreat
