/- Types as trees that lie in memory (printed by wip/gen_ty.py from XVal): plain words and lemmas, no program in sight. -/
import Derived.Test.YtemhinagajfemaaConeM10
namespace Go.Proofs.Ytemhinagajfemaa
set_option linter.unusedVariables false
open Go.RowKit

/-- A type: its kind; its names and where they lie; its items and where they lie. -/
inductive Ty where
  | mk (k : Int) (na : Sl) (ns : List ByteArray) (xa : Sl) (xs : List Ty)
namespace Ty
def k : Ty → Int | .mk k _ _ _ _ => k
def na : Ty → Sl | .mk _ na _ _ _ => na
def ns : Ty → List ByteArray | .mk _ _ ns _ _ => ns
def xa : Ty → Sl | .mk _ _ _ xa _ => xa
def xs : Ty → List Ty | .mk _ _ _ _ xs => xs
/-- Its three cells. -/
def cells (v : Ty) : List Value := [.int .i64 v.k, v.na.val v.ns.length, v.xa.val v.xs.length]
/-- It by value. -/
abbrev agg (v : Ty) : Value := .agg #[.int .i64 v.k, v.na.val v.ns.length, v.xa.val v.xs.length]
end Ty
mutual
/-- All that a type leads to lies in memory. -/
def Ty.In (w : World) : Ty → Prop
  | .mk k na ns xa xs => (i64r k ∧ ns.length ≤ 8796093021952 ∧ xs.length ≤ 2513169434843 ∧ ∀ s, s ∈ ns → strok s) ∧
    na.lies w 1 ns.length (fun i => [.string (ns.getD i ByteArray.empty)]) ∧ xa.lies w 3 xs.length (fun i => Ty.cells (xs.getD i (.mk 0 .no [] .no []))) ∧ Ty.InAll w xs
def Ty.InAll (w : World) : List Ty → Prop
  | [] => True
  | x :: xs => x.In w ∧ Ty.InAll w xs
end
abbrev Ty.zero : Ty := .mk 0 .no [] .no []

theorem Ty.inAll_iff (w : World) : ∀ xs : List Ty, Ty.InAll w xs ↔ ∀ x, x ∈ xs → x.In w
  | [] => by simp [Ty.InAll]
  | x :: xs => by simp [Ty.InAll, Ty.inAll_iff w xs]

theorem Ty.in_iff (w : World) (v : Ty) : v.In w ↔ (i64r v.k ∧ v.ns.length ≤ 8796093021952 ∧ v.xs.length ≤ 2513169434843 ∧ ∀ s, s ∈ v.ns → strok s) ∧
    v.na.lies w 1 v.ns.length (fun i => [.string (v.ns.getD i ByteArray.empty)]) ∧ v.xa.lies w 3 v.xs.length (fun i => (v.xs.getD i Ty.zero).cells) ∧ ∀ x, x ∈ v.xs → x.In w := by
  cases v
  simp only [Ty.In, Ty.inAll_iff, Ty.k, Ty.na, Ty.ns, Ty.xa, Ty.xs]

mutual
def Ty.sz : Ty → Nat
  | .mk _ _ _ _ xs => 1 + Ty.szAll xs
def Ty.szAll : List Ty → Nat
  | [] => 0
  | x :: xs => x.sz + Ty.szAll xs
end
theorem Ty.sz_eq (v : Ty) : v.sz = 1 + Ty.szAll v.xs := by cases v; simp [Ty.sz, Ty.xs]
theorem Ty.szAll_mem {x : Ty} : ∀ {xs : List Ty}, x ∈ xs → x.sz ≤ Ty.szAll xs
  | [], h => by simp at h
  | y :: xs, h => by
    simp only [Ty.szAll]
    rcases List.mem_cons.1 h with rfl | h
    · omega
    · have := Ty.szAll_mem h; omega
theorem Ty.size_mem {x v : Ty} (h : x ∈ v.xs) : x.sz < v.sz := by
  have := Ty.szAll_mem h
  rw [Ty.sz_eq v]; omega

theorem Ty.in_carry {w w' : World} (hb : ∀ b o, b < w.heap.size → w'.cell? ⟨b, o, none⟩ = w.cell? ⟨b, o, none⟩) (hz : w.heap.size ≤ w'.heap.size) : ∀ (d : Nat) (v : Ty), v.sz ≤ d → v.In w → v.In w'
  | 0, v, hd, _ => by rw [Ty.sz_eq] at hd; omega
  | d + 1, v, hd, h => by
    rw [Ty.in_iff] at h ⊢
    exact ⟨h.1, Sl.lies.carry h.2.1 hb hz, Sl.lies.carry h.2.2.1 hb hz, fun x hx => Ty.in_carry hb hz d x (by have := Ty.size_mem hx; omega) (h.2.2.2 x hx)⟩
theorem Ty.In.below {w w' : World} {v : Ty} (h : v.In w) (hb : Below w.heap.size w w') : v.In w' :=
  Ty.in_carry (fun b o hlt => hb.cell (p := ⟨b, o, none⟩) hlt) hb.size _ v (Nat.le_refl _) h
theorem Ty.In.drewN {w : World} {v : Ty} (h : v.In w) (n : Nat) : v.In (w.drewN n) := Ty.in_carry (w := w) (w' := w.drewN n) (fun _ _ _ => rfl) (Nat.le_refl _) _ v (Nat.le_refl _) h

/-- A type's cells lie at a place, and all that it leads to lies in memory. -/
def PTy (w : World) (b o : Nat) (v : Ty) : Prop := (∀ j, j < 3 → w.cell? ⟨b, o + j, none⟩ = v.cells[j]?) ∧ b < w.heap.size ∧ v.In w
section
variable {w w' : World} {b o : Nat} {v : Ty}
theorem PTy.c0 (h : PTy w b o v) : w.cell? ⟨b, o, none⟩ = some (.int .i64 v.k) := h.1 0 (by omega)
theorem PTy.c1 (h : PTy w b o v) : w.cell? ⟨b, o + 1, none⟩ = some (v.na.val v.ns.length) := h.1 1 (by omega)
theorem PTy.c2 (h : PTy w b o v) : w.cell? ⟨b, o + 2, none⟩ = some (v.xa.val v.xs.length) := h.1 2 (by omega)
theorem PTy.below (h : PTy w b o v) (hb : Below w.heap.size w w') : PTy w' b o v :=
  ⟨fun j hj => (hb.cell (p := ⟨b, o + j, none⟩) h.2.1).trans (h.1 j hj), Nat.lt_of_lt_of_le h.2.1 hb.size, h.2.2.below hb⟩
theorem PTy.drewN (h : PTy w b o v) (n : Nat) : PTy (w.drewN n) b o v := ⟨h.1, h.2.1, h.2.2.drewN n⟩
theorem PTy.new (w : World) (v : Ty) (t : TypeId) (h : v.In w) : PTy (w.alloc (.cells v.cells.toArray t)) w.heap.size 0 v := by
  refine ⟨fun j hj => ?_, by simp, h.below ((Below.refl _ w).alloc (Nat.le_refl _) _)⟩
  rw [(Blk.new w t _).cell]
  simp
theorem PTy.in (h : PTy w b o v) : v.In w := h.2.2

theorem Ty.In.ok (h : v.In w) : i64r v.k ∧ v.ns.length ≤ 8796093021952 ∧ v.xs.length ≤ 2513169434843 ∧ ∀ s, s ∈ v.ns → strok s := ((Ty.in_iff w v).1 h).1
theorem Ty.In.nslice (h : v.In w) : ∃ p c, v.na.val v.ns.length = .slice p v.ns.length c := by
  have hx := ((Ty.in_iff w v).1 h).2.1
  cases ha : v.na with
  | no =>
    rw [ha] at hx
    have : v.ns.length = 0 := by simpa [Sl.lies] using hx
    exact ⟨none, 0, by simp [Sl.val, this]⟩
  | odd a =>
    rw [ha] at hx
    have : v.ns.length = 0 := by simpa [Sl.lies] using hx
    exact ⟨some a, 0, by simp [Sl.val, this]⟩
  | at_ b o cap => exact ⟨_, _, rfl⟩
theorem Ty.In.xslice (h : v.In w) : ∃ p c, v.xa.val v.xs.length = .slice p v.xs.length c := by
  have hx := ((Ty.in_iff w v).1 h).2.2.1
  cases ha : v.xa with
  | no =>
    rw [ha] at hx
    have : v.xs.length = 0 := by simpa [Sl.lies] using hx
    exact ⟨none, 0, by simp [Sl.val, this]⟩
  | odd a =>
    rw [ha] at hx
    have : v.xs.length = 0 := by simpa [Sl.lies] using hx
    exact ⟨some a, 0, by simp [Sl.val, this]⟩
  | at_ b o cap => exact ⟨_, _, rfl⟩

/-- The items, as they lie. -/
inductive TItems (w : World) (v : Ty) : Prop where
  | none (p : Option Addr) (h1 : v.xa.val v.xs.length = .slice p 0 0) (h2 : v.xs = [])
  | some (b o cap : Nat) (h1 : v.xa.val v.xs.length = .slice (some ⟨b, o, Option.none⟩) v.xs.length cap) (h2 : v.xs.length ≤ cap) (h3 : cap ≤ 9223372036854775807) (h4 : ∀ i (h : i < v.xs.length), PTy w b (o + i * 3) v.xs[i])
theorem Ty.In.items (h : v.In w) : TItems w v := by
  rw [Ty.in_iff] at h
  obtain ⟨_, _, hx, hi⟩ := h
  cases ha : v.xa with
  | no =>
    rw [ha] at hx
    exact .none Option.none (by simp [Sl.val, ha]) (by simpa [Sl.lies] using hx)
  | odd a =>
    rw [ha] at hx
    exact .none (Option.some a) (by simp [Sl.val, ha]) (by simpa [Sl.lies] using hx)
  | at_ b o cap =>
    rw [ha] at hx
    refine .some b o cap (by simp [Sl.val, ha]) hx.1 hx.2.1 (fun i hl => ⟨fun j hj => ?_, ?_, hi _ (by simp)⟩)
    · have := (hx.2.2 i hl j hj).1
      rw [← Nat.add_assoc] at this
      rw [this]
      simp [hl]
    · exact (hx.2.2 i hl 0 (by omega)).2
inductive TNames (w : World) (v : Ty) : Prop where
  | none (p : Option Addr) (h1 : v.na.val v.ns.length = .slice p 0 0) (h2 : v.ns = [])
  | some (b o cap : Nat) (h1 : v.na.val v.ns.length = .slice (some ⟨b, o, Option.none⟩) v.ns.length cap) (h2 : v.ns.length ≤ cap) (h3 : cap ≤ 9223372036854775807) (h4 : ∀ i (h : i < v.ns.length), w.cell? ⟨b, o + i, Option.none⟩ = Option.some (.string v.ns[i]))
theorem Ty.In.names (h : v.In w) : TNames w v := by
  rw [Ty.in_iff] at h
  obtain ⟨_, hx, _, hi⟩ := h
  cases ha : v.na with
  | no =>
    rw [ha] at hx
    exact .none Option.none (by simp [Sl.val, ha]) (by simpa [Sl.lies] using hx)
  | odd a =>
    rw [ha] at hx
    exact .none (Option.some a) (by simp [Sl.val, ha]) (by simpa [Sl.lies] using hx)
  | at_ b o cap =>
    rw [ha] at hx
    refine .some b o cap (by simp [Sl.val, ha]) hx.1 hx.2.1 (fun i hl => ?_)
    have := (hx.2.2 i hl 0 (by omega)).1
    simp at this
    rw [this]
    simp [hl]
end
theorem TNamesAt.of {w : World} {v : Ty} (h : v.In w) : NamesAt w (v.na.val v.ns.length) v.ns := by
  have hx := ((Ty.in_iff w v).1 h).2.1
  cases ha : v.na with
  | no =>
    rw [ha] at hx
    have : v.ns.length = 0 := by simpa [Sl.lies] using hx
    exact .none Option.none (by simp [Sl.val]) (by simpa using this)
  | odd a =>
    rw [ha] at hx
    have : v.ns.length = 0 := by simpa [Sl.lies] using hx
    exact .none (Option.some a) (by simp [Sl.val]) (by simpa using this)
  | at_ b o cap =>
    rw [ha] at hx
    refine .some b o cap rfl hx.1 hx.2.1 ?_ (fun i hl => ?_)
    · rcases Nat.eq_zero_or_pos v.ns.length with h0 | h0
      · exact .inl h0
      · exact .inr (hx.2.2 0 h0 0 (by omega)).2
    · have := (hx.2.2 i hl 0 (by omega)).1
      simpa using this
theorem titems_at {w : World} {v : Ty} (h : v.In w) : ∃ p c, v.xa.val v.xs.length = .slice p v.xs.length c ∧ ∀ i (hi : i < v.xs.length), ∃ b o, p = some ⟨b, o, none⟩ ∧ PTy w b (o + i * 3) (v.xs[i]'hi) ∧ v.xs.length ≤ c := by
  rcases h.items with ⟨pz, h1, h2⟩ | ⟨b, o, cap, h1, h2, h3, h4⟩
  · exact ⟨pz, 0, by rw [h1, h2]; rfl, fun i hi => by rw [h2] at hi; simp at hi⟩
  · exact ⟨_, cap, h1, fun i hi => ⟨b, o, rfl, h4 i hi, h2⟩⟩
end Go.Proofs.Ytemhinagajfemaa
