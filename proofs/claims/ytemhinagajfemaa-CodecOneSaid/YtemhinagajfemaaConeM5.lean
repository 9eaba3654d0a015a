/- Values as trees that lie in memory: plain words and lemmas, no program in sight. -/
import Derived.Test.YtemhinagajfemaaConeM1
namespace Go.Proofs.Ytemhinagajfemaa
set_option linter.unusedVariables false
open Go.RowKit

/-- Long lists of operations, written out. -/
theorem lapp_cons {A : Type} (a : A) (l m : List A) : List.append (a :: l) m = a :: List.append l m := rfl
theorem lapp_nil {A : Type} (m : List A) : List.append [] m = m := rfl

/-- Where a slice lies: nowhere, or at a place with so much room. -/
inductive Sl where
  | no
  | odd (a : Addr)
  | at_ (b o cap : Nat)
def Sl.val : Sl → Nat → Value
  | .no, _ => .slice none 0 0
  | .odd a, _ => .slice (some a) 0 0
  | .at_ b o cap, n => .slice (some ⟨b, o, none⟩) n cap
/-- n elements of c cells each lie there, the i-th one's cells told by 'row'. -/
def Sl.lies (w : World) (a : Sl) (c n : Nat) (row : Nat → List Value) : Prop :=
  match a with
  | .no => n = 0
  | .odd _ => n = 0
  | .at_ b o cap => n ≤ cap ∧ cap ≤ 9223372036854775807 ∧ ∀ i, i < n → ∀ j, j < c → w.cell? ⟨b, o + (i * c + j), none⟩ = (row i)[j]? ∧ b < w.heap.size

/-- A value: its kind, number, float, string; its names and where they lie; its items and where they lie. -/
inductive Val where
  | mk (k n : Int) (f : Nat) (s : ByteArray) (na : Sl) (ns : List ByteArray) (xa : Sl) (xs : List Val)
namespace Val
def k : Val → Int | .mk k _ _ _ _ _ _ _ => k
def n : Val → Int | .mk _ n _ _ _ _ _ _ => n
def f : Val → Nat | .mk _ _ f _ _ _ _ _ => f
def s : Val → ByteArray | .mk _ _ _ s _ _ _ _ => s
def na : Val → Sl | .mk _ _ _ _ na _ _ _ => na
def ns : Val → List ByteArray | .mk _ _ _ _ _ ns _ _ => ns
def xa : Val → Sl | .mk _ _ _ _ _ _ xa _ => xa
def xs : Val → List Val | .mk _ _ _ _ _ _ _ xs => xs
/-- Its six cells. -/
def cells (v : Val) : List Value := [.int .i64 v.k, .int .i64 v.n, .float .f64 v.f, .string v.s, v.na.val v.ns.length, v.xa.val v.xs.length]
end Val
def i64r (k : Int) : Prop := -9223372036854775808 ≤ k ∧ k ≤ 9223372036854775807
def strok (s : ByteArray) : Prop := s.size ≤ 140737488355328
mutual
/-- All that a value leads to lies in memory. -/
def Val.In (w : World) : Val → Prop
  | .mk k n f s na ns xa xs => (i64r k ∧ i64r n ∧ f < 18446744073709551616 ∧ strok s ∧ ns.length ≤ 8796093021952 ∧ xs.length ≤ 1599289640354 ∧ ∀ s, s ∈ ns → strok s) ∧
    na.lies w 1 ns.length (fun i => [.string (ns.getD i ByteArray.empty)]) ∧ xa.lies w 6 xs.length (fun i => Val.cells (xs.getD i (.mk 0 0 0 ByteArray.empty .no [] .no []))) ∧ Val.InAll w xs
def Val.InAll (w : World) : List Val → Prop
  | [] => True
  | x :: xs => x.In w ∧ Val.InAll w xs
end
abbrev Val.zero : Val := .mk 0 0 0 ByteArray.empty .no [] .no []

theorem Val.inAll_iff (w : World) : ∀ xs : List Val, Val.InAll w xs ↔ ∀ x, x ∈ xs → x.In w
  | [] => by simp [Val.InAll]
  | x :: xs => by simp [Val.InAll, Val.inAll_iff w xs]

theorem Val.in_iff (w : World) (v : Val) : v.In w ↔ (i64r v.k ∧ i64r v.n ∧ v.f < 18446744073709551616 ∧ strok v.s ∧ v.ns.length ≤ 8796093021952 ∧ v.xs.length ≤ 1599289640354 ∧ ∀ s, s ∈ v.ns → strok s) ∧
    v.na.lies w 1 v.ns.length (fun i => [.string (v.ns.getD i ByteArray.empty)]) ∧ v.xa.lies w 6 v.xs.length (fun i => (v.xs.getD i Val.zero).cells) ∧ ∀ x, x ∈ v.xs → x.In w := by
  cases v
  simp only [Val.In, Val.inAll_iff, Val.k, Val.n, Val.f, Val.s, Val.na, Val.ns, Val.xa, Val.xs]

mutual
def Val.sz : Val → Nat
  | .mk _ _ _ _ _ _ _ xs => 1 + Val.szAll xs
def Val.szAll : List Val → Nat
  | [] => 0
  | x :: xs => x.sz + Val.szAll xs
end
theorem Val.sz_eq (v : Val) : v.sz = 1 + Val.szAll v.xs := by cases v; simp [Val.sz, Val.xs]
theorem Val.szAll_mem {x : Val} : ∀ {xs : List Val}, x ∈ xs → x.sz ≤ Val.szAll xs
  | [], h => by simp at h
  | y :: xs, h => by
    simp only [Val.szAll]
    rcases List.mem_cons.1 h with rfl | h
    · omega
    · have := Val.szAll_mem h; omega
theorem Val.size_mem {x v : Val} (h : x ∈ v.xs) : x.sz < v.sz := by
  have := Val.szAll_mem h
  rw [Val.sz_eq v]; omega

/-- Blocks below B are as they were: what lies there still lies there. -/
theorem Sl.lies.carry {w w' : World} {a : Sl} {c n : Nat} {row : Nat → List Value} (h : a.lies w c n row) (hb : ∀ b o, b < w.heap.size → w'.cell? ⟨b, o, none⟩ = w.cell? ⟨b, o, none⟩) (hz : w.heap.size ≤ w'.heap.size) : a.lies w' c n row := by
  cases a with
  | no => exact h
  | odd a => exact h
  | at_ b o cap => exact ⟨h.1, h.2.1, fun i hi j hj => by
      obtain ⟨h1, h2⟩ := h.2.2 i hi j hj
      exact ⟨(hb b _ h2).trans h1, by omega⟩⟩
theorem Val.in_carry {w w' : World} (hb : ∀ b o, b < w.heap.size → w'.cell? ⟨b, o, none⟩ = w.cell? ⟨b, o, none⟩) (hz : w.heap.size ≤ w'.heap.size) : ∀ (d : Nat) (v : Val), v.sz ≤ d → v.In w → v.In w'
  | 0, v, hd, _ => by rw [Val.sz_eq] at hd; omega
  | d + 1, v, hd, h => by
    rw [Val.in_iff] at h ⊢
    exact ⟨h.1, Sl.lies.carry h.2.1 hb hz, Sl.lies.carry h.2.2.1 hb hz, fun x hx => Val.in_carry hb hz d x (by have := Val.size_mem hx; omega) (h.2.2.2 x hx)⟩
theorem Val.In.below {w w' : World} {v : Val} (h : v.In w) (hb : Below w.heap.size w w') : v.In w' :=
  Val.in_carry (fun b o hlt => hb.cell (p := ⟨b, o, none⟩) hlt) hb.size _ v (Nat.le_refl _) h
theorem Val.In.drewN {w : World} {v : Val} (h : v.In w) (n : Nat) : v.In (w.drewN n) := Val.in_carry (w := w) (w' := w.drewN n) (fun _ _ _ => rfl) (Nat.le_refl _) _ v (Nat.le_refl _) h

/-- A value's cells lie at a place, and all that it leads to lies in memory. -/
def PVal (w : World) (b o : Nat) (v : Val) : Prop := (∀ j, j < 6 → w.cell? ⟨b, o + j, none⟩ = v.cells[j]?) ∧ b < w.heap.size ∧ v.In w
section
variable {w w' : World} {b o : Nat} {v : Val}
theorem PVal.c0 (h : PVal w b o v) : w.cell? ⟨b, o, none⟩ = some (.int .i64 v.k) := h.1 0 (by omega)
theorem PVal.c1 (h : PVal w b o v) : w.cell? ⟨b, o + 1, none⟩ = some (.int .i64 v.n) := h.1 1 (by omega)
theorem PVal.c2 (h : PVal w b o v) : w.cell? ⟨b, o + 2, none⟩ = some (.float .f64 v.f) := h.1 2 (by omega)
theorem PVal.c3 (h : PVal w b o v) : w.cell? ⟨b, o + 3, none⟩ = some (.string v.s) := h.1 3 (by omega)
theorem PVal.c4 (h : PVal w b o v) : w.cell? ⟨b, o + 4, none⟩ = some (v.na.val v.ns.length) := h.1 4 (by omega)
theorem PVal.c5 (h : PVal w b o v) : w.cell? ⟨b, o + 5, none⟩ = some (v.xa.val v.xs.length) := h.1 5 (by omega)
theorem PVal.below (h : PVal w b o v) (hb : Below w.heap.size w w') : PVal w' b o v :=
  ⟨fun j hj => (hb.cell (p := ⟨b, o + j, none⟩) h.2.1).trans (h.1 j hj), Nat.lt_of_lt_of_le h.2.1 hb.size, h.2.2.below hb⟩
theorem PVal.drewN (h : PVal w b o v) (n : Nat) : PVal (w.drewN n) b o v := ⟨h.1, h.2.1, h.2.2.drewN n⟩
theorem PVal.new (w : World) (v : Val) (t : TypeId) (h : v.In w) : PVal (w.alloc (.cells v.cells.toArray t)) w.heap.size 0 v := by
  refine ⟨fun j hj => ?_, by simp, h.below ((Below.refl _ w).alloc (Nat.le_refl _) _)⟩
  rw [(Blk.new w t _).cell]
  simp
theorem PVal.in (h : PVal w b o v) : v.In w := h.2.2

theorem Val.In.ok (h : v.In w) : i64r v.k ∧ i64r v.n ∧ v.f < 18446744073709551616 ∧ strok v.s ∧ v.ns.length ≤ 8796093021952 ∧ v.xs.length ≤ 1599289640354 ∧ ∀ s, s ∈ v.ns → strok s := ((Val.in_iff w v).1 h).1
theorem Val.In.nslice (h : v.In w) : ∃ p c, v.na.val v.ns.length = .slice p v.ns.length c := by
  have hx := ((Val.in_iff w v).1 h).2.1
  cases ha : v.na with
  | no =>
    rw [ha] at hx
    have : v.ns.length = 0 := by simpa [Sl.lies] using hx
    exact ⟨none, 0, by simp [Sl.val, this]⟩
  | odd a =>
    rw [ha] at hx
    have : v.ns.length = 0 := by simpa [Sl.lies] using hx
    exact ⟨some a, 0, by simp [Sl.val, this]⟩
  | at_ b o cap => exact ⟨_, _, rfl⟩
theorem Val.In.xslice (h : v.In w) : ∃ p c, v.xa.val v.xs.length = .slice p v.xs.length c := by
  have hx := ((Val.in_iff w v).1 h).2.2.1
  cases ha : v.xa with
  | no =>
    rw [ha] at hx
    have : v.xs.length = 0 := by simpa [Sl.lies] using hx
    exact ⟨none, 0, by simp [Sl.val, this]⟩
  | odd a =>
    rw [ha] at hx
    have : v.xs.length = 0 := by simpa [Sl.lies] using hx
    exact ⟨some a, 0, by simp [Sl.val, this]⟩
  | at_ b o cap => exact ⟨_, _, rfl⟩

/-- The items, as they lie. -/
inductive Items (w : World) (v : Val) : Prop where
  | none (p : Option Addr) (h1 : v.xa.val v.xs.length = .slice p 0 0) (h2 : v.xs = [])
  | some (b o cap : Nat) (h1 : v.xa.val v.xs.length = .slice (some ⟨b, o, Option.none⟩) v.xs.length cap) (h2 : v.xs.length ≤ cap) (h3 : cap ≤ 9223372036854775807) (h4 : ∀ i (h : i < v.xs.length), PVal w b (o + i * 6) v.xs[i])
theorem Val.In.items (h : v.In w) : Items w v := by
  rw [Val.in_iff] at h
  obtain ⟨_, _, hx, hi⟩ := h
  cases ha : v.xa with
  | no =>
    rw [ha] at hx
    exact .none Option.none (by simp [Sl.val, ha]) (by simpa [Sl.lies] using hx)
  | odd a =>
    rw [ha] at hx
    exact .none (Option.some a) (by simp [Sl.val, ha]) (by simpa [Sl.lies] using hx)
  | at_ b o cap =>
    rw [ha] at hx
    refine .some b o cap (by simp [Sl.val, ha]) hx.1 hx.2.1 (fun i hl => ⟨fun j hj => ?_, ?_, hi _ (by simp)⟩)
    · have := (hx.2.2 i hl j hj).1
      rw [← Nat.add_assoc] at this
      rw [this]
      simp [hl]
    · exact (hx.2.2 i hl 0 (by omega)).2
inductive Names (w : World) (v : Val) : Prop where
  | none (p : Option Addr) (h1 : v.na.val v.ns.length = .slice p 0 0) (h2 : v.ns = [])
  | some (b o cap : Nat) (h1 : v.na.val v.ns.length = .slice (some ⟨b, o, Option.none⟩) v.ns.length cap) (h2 : v.ns.length ≤ cap) (h3 : cap ≤ 9223372036854775807) (h4 : ∀ i (h : i < v.ns.length), w.cell? ⟨b, o + i, Option.none⟩ = Option.some (.string v.ns[i]))
theorem Val.In.names (h : v.In w) : Names w v := by
  rw [Val.in_iff] at h
  obtain ⟨_, hx, _, hi⟩ := h
  cases ha : v.na with
  | no =>
    rw [ha] at hx
    exact .none Option.none (by simp [Sl.val, ha]) (by simpa [Sl.lies] using hx)
  | odd a =>
    rw [ha] at hx
    exact .none (Option.some a) (by simp [Sl.val, ha]) (by simpa [Sl.lies] using hx)
  | at_ b o cap =>
    rw [ha] at hx
    refine .some b o cap (by simp [Sl.val, ha]) hx.1 hx.2.1 (fun i hl => ?_)
    have := (hx.2.2 i hl 0 (by omega)).1
    simp at this
    rw [this]
    simp [hl]
end
end Go.Proofs.Ytemhinagajfemaa
