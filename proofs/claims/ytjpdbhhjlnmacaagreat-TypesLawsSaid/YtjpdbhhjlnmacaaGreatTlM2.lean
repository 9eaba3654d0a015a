/- Values as trees that lie in memory: plain words and lemmas, no program in sight. -/
import Derived.Test.YtjpdbhhjlnmacaaGreatTlM1
namespace Go.Proofs.YtjpdbhhjlnmacaaGreat
set_option linter.unusedVariables false
open Go.RowKit

/-- Long lists of operations, written out. -/
theorem lapp_cons {A : Type} (a : A) (l m : List A) : List.append (a :: l) m = a :: List.append l m := rfl
theorem lapp_nil {A : Type} (m : List A) : List.append [] m = m := rfl

/-- Where a slice lies: nowhere, or at a place with so much room. -/
inductive Sl where
  | no
  | odd (a : Addr)
  | at_ (b o cap : Nat)
def Sl.val : Sl → Nat → Value
  | .no, _ => .slice none 0 0
  | .odd a, _ => .slice (some a) 0 0
  | .at_ b o cap, n => .slice (some ⟨b, o, none⟩) n cap
/-- n elements of c cells each lie there, the i-th one's cells told by 'row'. -/
def Sl.lies (w : World) (a : Sl) (c n : Nat) (row : Nat → List Value) : Prop :=
  match a with
  | .no => n = 0
  | .odd _ => n = 0
  | .at_ b o cap => n ≤ cap ∧ cap ≤ 9223372036854775807 ∧ ∀ i, i < n → ∀ j, j < c → w.cell? ⟨b, o + (i * c + j), none⟩ = (row i)[j]? ∧ b < w.heap.size

/-- A value: its kind, number, float, string; its names and where they lie; its items and where they lie. -/
inductive Val where
  | mk (k n : Int) (f : Nat) (s : ByteArray) (na : Sl) (ns : List ByteArray) (xa : Sl) (xs : List Val)
namespace Val
def k : Val → Int | .mk k _ _ _ _ _ _ _ => k
def n : Val → Int | .mk _ n _ _ _ _ _ _ => n
def f : Val → Nat | .mk _ _ f _ _ _ _ _ => f
def s : Val → ByteArray | .mk _ _ _ s _ _ _ _ => s
def na : Val → Sl | .mk _ _ _ _ na _ _ _ => na
def ns : Val → List ByteArray | .mk _ _ _ _ _ ns _ _ => ns
def xa : Val → Sl | .mk _ _ _ _ _ _ xa _ => xa
def xs : Val → List Val | .mk _ _ _ _ _ _ _ xs => xs
/-- Its six cells. -/
def cells (v : Val) : List Value := [.int .i64 v.k, .int .i64 v.n, .float .f64 v.f, .string v.s, v.na.val v.ns.length, v.xa.val v.xs.length]
end Val
def i64r (k : Int) : Prop := -9223372036854775808 ≤ k ∧ k ≤ 9223372036854775807
def strok (s : ByteArray) : Prop := s.size ≤ 140737488355328
mutual
/-- All that a value leads to lies in memory. -/
def Val.In (w : World) : Val → Prop
  | .mk k n f s na ns xa xs => (i64r k ∧ i64r n ∧ f < 18446744073709551616 ∧ strok s ∧ ns.length ≤ 8796093021952 ∧ xs.length ≤ 1599289640354 ∧ ∀ s, s ∈ ns → strok s) ∧
    na.lies w 1 ns.length (fun i => [.string (ns.getD i ByteArray.empty)]) ∧ xa.lies w 6 xs.length (fun i => Val.cells (xs.getD i (.mk 0 0 0 ByteArray.empty .no [] .no []))) ∧ Val.InAll w xs
def Val.InAll (w : World) : List Val → Prop
  | [] => True
  | x :: xs => x.In w ∧ Val.InAll w xs
end
abbrev Val.zero : Val := .mk 0 0 0 ByteArray.empty .no [] .no []

theorem Val.inAll_iff (w : World) : ∀ xs : List Val, Val.InAll w xs ↔ ∀ x, x ∈ xs → x.In w
  | [] => by simp [Val.InAll]
  | x :: xs => by simp [Val.InAll, Val.inAll_iff w xs]

theorem Val.in_iff (w : World) (v : Val) : v.In w ↔ (i64r v.k ∧ i64r v.n ∧ v.f < 18446744073709551616 ∧ strok v.s ∧ v.ns.length ≤ 8796093021952 ∧ v.xs.length ≤ 1599289640354 ∧ ∀ s, s ∈ v.ns → strok s) ∧
    v.na.lies w 1 v.ns.length (fun i => [.string (v.ns.getD i ByteArray.empty)]) ∧ v.xa.lies w 6 v.xs.length (fun i => (v.xs.getD i Val.zero).cells) ∧ ∀ x, x ∈ v.xs → x.In w := by
  cases v
  simp only [Val.In, Val.inAll_iff, Val.k, Val.n, Val.f, Val.s, Val.na, Val.ns, Val.xa, Val.xs]

mutual
def Val.sz : Val → Nat
  | .mk _ _ _ _ _ _ _ xs => 1 + Val.szAll xs
def Val.szAll : List Val → Nat
  | [] => 0
  | x :: xs => x.sz + Val.szAll xs
end
theorem Val.sz_eq (v : Val) : v.sz = 1 + Val.szAll v.xs := by cases v; simp [Val.sz, Val.xs]
theorem Val.szAll_mem {x : Val} : ∀ {xs : List Val}, x ∈ xs → x.sz ≤ Val.szAll xs
  | [], h => by simp at h
  | y :: xs, h => by
    simp only [Val.szAll]
    rcases List.mem_cons.1 h with rfl | h
    · omega
    · have := Val.szAll_mem h; omega
theorem Val.size_mem {x v : Val} (h : x ∈ v.xs) : x.sz < v.sz := by
  have := Val.szAll_mem h
  rw [Val.sz_eq v]; omega

/-- Blocks below B are as they were: what lies there still lies there. -/
theorem Sl.lies.carry {w w' : World} {a : Sl} {c n : Nat} {row : Nat → List Value} (h : a.lies w c n row) (hb : ∀ b o, b < w.heap.size → w'.cell? ⟨b, o, none⟩ = w.cell? ⟨b, o, none⟩) (hz : w.heap.size ≤ w'.heap.size) : a.lies w' c n row := by
  cases a with
  | no => exact h
  | odd a => exact h
  | at_ b o cap => exact ⟨h.1, h.2.1, fun i hi j hj => by
      obtain ⟨h1, h2⟩ := h.2.2 i hi j hj
      exact ⟨(hb b _ h2).trans h1, by omega⟩⟩
theorem Val.in_carry {w w' : World} (hb : ∀ b o, b < w.heap.size → w'.cell? ⟨b, o, none⟩ = w.cell? ⟨b, o, none⟩) (hz : w.heap.size ≤ w'.heap.size) : ∀ (d : Nat) (v : Val), v.sz ≤ d → v.In w → v.In w'
  | 0, v, hd, _ => by rw [Val.sz_eq] at hd; omega
  | d + 1, v, hd, h => by
    rw [Val.in_iff] at h ⊢
    exact ⟨h.1, Sl.lies.carry h.2.1 hb hz, Sl.lies.carry h.2.2.1 hb hz, fun x hx => Val.in_carry hb hz d x (by have := Val.size_mem hx; omega) (h.2.2.2 x hx)⟩
theorem Val.In.below {w w' : World} {v : Val} (h : v.In w) (hb : Below w.heap.size w w') : v.In w' :=
  Val.in_carry (fun b o hlt => hb.cell (p := ⟨b, o, none⟩) hlt) hb.size _ v (Nat.le_refl _) h
theorem Val.In.drewN {w : World} {v : Val} (h : v.In w) (n : Nat) : v.In (w.drewN n) := Val.in_carry (w := w) (w' := w.drewN n) (fun _ _ _ => rfl) (Nat.le_refl _) _ v (Nat.le_refl _) h

/-- A value's cells lie at a place, and all that it leads to lies in memory. -/
def PVal (w : World) (b o : Nat) (v : Val) : Prop := (∀ j, j < 6 → w.cell? ⟨b, o + j, none⟩ = v.cells[j]?) ∧ b < w.heap.size ∧ v.In w
section
variable {w w' : World} {b o : Nat} {v : Val}
theorem PVal.c0 (h : PVal w b o v) : w.cell? ⟨b, o, none⟩ = some (.int .i64 v.k) := h.1 0 (by omega)
theorem PVal.c1 (h : PVal w b o v) : w.cell? ⟨b, o + 1, none⟩ = some (.int .i64 v.n) := h.1 1 (by omega)
theorem PVal.c2 (h : PVal w b o v) : w.cell? ⟨b, o + 2, none⟩ = some (.float .f64 v.f) := h.1 2 (by omega)
theorem PVal.c3 (h : PVal w b o v) : w.cell? ⟨b, o + 3, none⟩ = some (.string v.s) := h.1 3 (by omega)
theorem PVal.c4 (h : PVal w b o v) : w.cell? ⟨b, o + 4, none⟩ = some (v.na.val v.ns.length) := h.1 4 (by omega)
theorem PVal.c5 (h : PVal w b o v) : w.cell? ⟨b, o + 5, none⟩ = some (v.xa.val v.xs.length) := h.1 5 (by omega)
theorem PVal.below (h : PVal w b o v) (hb : Below w.heap.size w w') : PVal w' b o v :=
  ⟨fun j hj => (hb.cell (p := ⟨b, o + j, none⟩) h.2.1).trans (h.1 j hj), Nat.lt_of_lt_of_le h.2.1 hb.size, h.2.2.below hb⟩
theorem PVal.drewN (h : PVal w b o v) (n : Nat) : PVal (w.drewN n) b o v := ⟨h.1, h.2.1, h.2.2.drewN n⟩
theorem PVal.new (w : World) (v : Val) (t : TypeId) (h : v.In w) : PVal (w.alloc (.cells v.cells.toArray t)) w.heap.size 0 v := by
  refine ⟨fun j hj => ?_, by simp, h.below ((Below.refl _ w).alloc (Nat.le_refl _) _)⟩
  rw [(Blk.new w t _).cell]
  simp
theorem PVal.in (h : PVal w b o v) : v.In w := h.2.2

theorem Val.In.ok (h : v.In w) : i64r v.k ∧ i64r v.n ∧ v.f < 18446744073709551616 ∧ strok v.s ∧ v.ns.length ≤ 8796093021952 ∧ v.xs.length ≤ 1599289640354 ∧ ∀ s, s ∈ v.ns → strok s := ((Val.in_iff w v).1 h).1
theorem Val.In.nslice (h : v.In w) : ∃ p c, v.na.val v.ns.length = .slice p v.ns.length c := by
  have hx := ((Val.in_iff w v).1 h).2.1
  cases ha : v.na with
  | no =>
    rw [ha] at hx
    have : v.ns.length = 0 := by simpa [Sl.lies] using hx
    exact ⟨none, 0, by simp [Sl.val, this]⟩
  | odd a =>
    rw [ha] at hx
    have : v.ns.length = 0 := by simpa [Sl.lies] using hx
    exact ⟨some a, 0, by simp [Sl.val, this]⟩
  | at_ b o cap => exact ⟨_, _, rfl⟩
theorem Val.In.xslice (h : v.In w) : ∃ p c, v.xa.val v.xs.length = .slice p v.xs.length c := by
  have hx := ((Val.in_iff w v).1 h).2.2.1
  cases ha : v.xa with
  | no =>
    rw [ha] at hx
    have : v.xs.length = 0 := by simpa [Sl.lies] using hx
    exact ⟨none, 0, by simp [Sl.val, this]⟩
  | odd a =>
    rw [ha] at hx
    have : v.xs.length = 0 := by simpa [Sl.lies] using hx
    exact ⟨some a, 0, by simp [Sl.val, this]⟩
  | at_ b o cap => exact ⟨_, _, rfl⟩

/-- The items, as they lie. -/
inductive Items (w : World) (v : Val) : Prop where
  | none (p : Option Addr) (h1 : v.xa.val v.xs.length = .slice p 0 0) (h2 : v.xs = [])
  | some (b o cap : Nat) (h1 : v.xa.val v.xs.length = .slice (some ⟨b, o, Option.none⟩) v.xs.length cap) (h2 : v.xs.length ≤ cap) (h3 : cap ≤ 9223372036854775807) (h4 : ∀ i (h : i < v.xs.length), PVal w b (o + i * 6) v.xs[i])
theorem Val.In.items (h : v.In w) : Items w v := by
  rw [Val.in_iff] at h
  obtain ⟨_, _, hx, hi⟩ := h
  cases ha : v.xa with
  | no =>
    rw [ha] at hx
    exact .none Option.none (by simp [Sl.val, ha]) (by simpa [Sl.lies] using hx)
  | odd a =>
    rw [ha] at hx
    exact .none (Option.some a) (by simp [Sl.val, ha]) (by simpa [Sl.lies] using hx)
  | at_ b o cap =>
    rw [ha] at hx
    refine .some b o cap (by simp [Sl.val, ha]) hx.1 hx.2.1 (fun i hl => ⟨fun j hj => ?_, ?_, hi _ (by simp)⟩)
    · have := (hx.2.2 i hl j hj).1
      rw [← Nat.add_assoc] at this
      rw [this]
      simp [hl]
    · exact (hx.2.2 i hl 0 (by omega)).2
inductive Names (w : World) (v : Val) : Prop where
  | none (p : Option Addr) (h1 : v.na.val v.ns.length = .slice p 0 0) (h2 : v.ns = [])
  | some (b o cap : Nat) (h1 : v.na.val v.ns.length = .slice (some ⟨b, o, Option.none⟩) v.ns.length cap) (h2 : v.ns.length ≤ cap) (h3 : cap ≤ 9223372036854775807) (h4 : ∀ i (h : i < v.ns.length), w.cell? ⟨b, o + i, Option.none⟩ = Option.some (.string v.ns[i]))
theorem Val.In.names (h : v.In w) : Names w v := by
  rw [Val.in_iff] at h
  obtain ⟨_, hx, _, hi⟩ := h
  cases ha : v.na with
  | no =>
    rw [ha] at hx
    exact .none Option.none (by simp [Sl.val, ha]) (by simpa [Sl.lies] using hx)
  | odd a =>
    rw [ha] at hx
    exact .none (Option.some a) (by simp [Sl.val, ha]) (by simpa [Sl.lies] using hx)
  | at_ b o cap =>
    rw [ha] at hx
    refine .some b o cap (by simp [Sl.val, ha]) hx.1 hx.2.1 (fun i hl => ?_)
    have := (hx.2.2 i hl 0 (by omega)).1
    simp at this
    rw [this]
    simp [hl]
end
end Go.Proofs.YtjpdbhhjlnmacaaGreat

/- Where a value's parts lie: blocks that it leads to; and what it is without them. Plain lemmas. -/
namespace Go.Proofs.YtjpdbhhjlnmacaaGreat
set_option linter.unusedVariables false
open Go.RowKit

def Sl.sep (S : Nat → Prop) (n : Nat) : Sl → Prop
  | .no => True
  | .odd _ => True
  | .at_ b _ _ => n = 0 ∨ S b
mutual
/-- Each block that it leads to is such a one. -/
def Val.Sep (S : Nat → Prop) : Val → Prop
  | .mk _ _ _ _ na ns xa xs => na.sep S ns.length ∧ xa.sep S xs.length ∧ Val.SepAll S xs
def Val.SepAll (S : Nat → Prop) : List Val → Prop
  | [] => True
  | x :: xs => x.Sep S ∧ Val.SepAll S xs
end
theorem Val.sepAll_iff (S : Nat → Prop) : ∀ xs : List Val, Val.SepAll S xs ↔ ∀ x, x ∈ xs → x.Sep S
  | [] => by simp [Val.SepAll]
  | x :: xs => by simp [Val.SepAll, Val.sepAll_iff S xs]
theorem Val.sep_iff (S : Nat → Prop) (v : Val) : v.Sep S ↔ v.na.sep S v.ns.length ∧ v.xa.sep S v.xs.length ∧ ∀ x, x ∈ v.xs → x.Sep S := by
  cases v
  simp only [Val.Sep, Val.sepAll_iff, Val.na, Val.ns, Val.xa, Val.xs]
theorem Sl.sep.mono {S T : Nat → Prop} {n : Nat} {a : Sl} (h : a.sep S n) (hst : ∀ b, S b → T b) : a.sep T n := by
  cases a with
  | no => trivial
  | odd a => trivial
  | at_ b o c => rcases h with h | h; exact .inl h; exact .inr (hst b h)
theorem Val.sep_mono {S T : Nat → Prop} (hst : ∀ b, S b → T b) : ∀ (d : Nat) (v : Val), v.sz ≤ d → v.Sep S → v.Sep T
  | 0, v, hd, _ => by rw [Val.sz_eq] at hd; omega
  | d + 1, v, hd, h => by
    rw [Val.sep_iff] at h ⊢
    exact ⟨h.1.mono hst, h.2.1.mono hst, fun x hx => Val.sep_mono hst d x (by have := Val.size_mem hx; omega) (h.2.2 x hx)⟩
theorem Val.Sep.mono {S T : Nat → Prop} {v : Val} (h : v.Sep S) (hst : ∀ b, S b → T b) : v.Sep T := Val.sep_mono hst v.sz v (Nat.le_refl _) h
theorem Sl.sep.and {S T : Nat → Prop} {n : Nat} {a : Sl} (h : a.sep S n) (k : a.sep T n) : a.sep (fun b => S b ∧ T b) n := by
  cases a with
  | no => trivial
  | odd a => trivial
  | at_ b o c => rcases h with h | h; exact .inl h; rcases k with k | k; exact .inl k; exact .inr ⟨h, k⟩
theorem Val.sep_and {S T : Nat → Prop} : ∀ (d : Nat) (v : Val), v.sz ≤ d → v.Sep S → v.Sep T → v.Sep (fun b => S b ∧ T b)
  | 0, v, hd, _, _ => by rw [Val.sz_eq] at hd; omega
  | d + 1, v, hd, h, k => by
    rw [Val.sep_iff] at h k ⊢
    exact ⟨h.1.and k.1, h.2.1.and k.2.1, fun x hx => Val.sep_and d x (by have := Val.size_mem hx; omega) (h.2.2 x hx) (k.2.2 x hx)⟩
theorem Val.Sep.and {S T : Nat → Prop} {v : Val} (h : v.Sep S) (k : v.Sep T) : v.Sep (fun b => S b ∧ T b) := Val.sep_and v.sz v (Nat.le_refl _) h k
theorem Sl.lies.sep {w : World} {a : Sl} {c n : Nat} {row : Nat → List Value} (h : a.lies w c n row) (hc : 0 < c) : a.sep (fun b => b < w.heap.size) n := by
  cases a with
  | no => trivial
  | odd a => trivial
  | at_ b o cap =>
    rcases Nat.eq_zero_or_pos n with h0 | h0
    · exact .inl h0
    · exact .inr (h.2.2 0 h0 0 hc).2
theorem Val.in_sep {w : World} : ∀ (d : Nat) (v : Val), v.sz ≤ d → v.In w → v.Sep (fun b => b < w.heap.size)
  | 0, v, hd, _ => by rw [Val.sz_eq] at hd; omega
  | d + 1, v, hd, h => by
    rw [Val.in_iff] at h
    rw [Val.sep_iff]
    exact ⟨h.2.1.sep (by omega), h.2.2.1.sep (by omega), fun x hx => Val.in_sep d x (by have := Val.size_mem hx; omega) (h.2.2.2 x hx)⟩
theorem Val.In.sep {w : World} {v : Val} (h : v.In w) : v.Sep (fun b => b < w.heap.size) := Val.in_sep v.sz v (Nat.le_refl _) h

theorem Sl.lies.carryS {S : Nat → Prop} {w w' : World} {a : Sl} {c n : Nat} {row : Nat → List Value} (h : a.lies w c n row) (hs : a.sep S n)
    (hb : ∀ b o, S b → b < w.heap.size → w'.cell? ⟨b, o, none⟩ = w.cell? ⟨b, o, none⟩) (hz : w.heap.size ≤ w'.heap.size) : a.lies w' c n row := by
  cases a with
  | no => exact h
  | odd a => exact h
  | at_ b o cap => exact ⟨h.1, h.2.1, fun i hi j hj => by
      obtain ⟨h1, h2⟩ := h.2.2 i hi j hj
      have hsb : S b := by rcases hs with h' | h'; omega; exact h'
      exact ⟨(hb b _ hsb h2).trans h1, by omega⟩⟩
theorem Val.in_carryS {S : Nat → Prop} {w w' : World} (hb : ∀ b o, S b → b < w.heap.size → w'.cell? ⟨b, o, none⟩ = w.cell? ⟨b, o, none⟩) (hz : w.heap.size ≤ w'.heap.size) :
    ∀ (d : Nat) (v : Val), v.sz ≤ d → v.In w → v.Sep S → v.In w'
  | 0, v, hd, _, _ => by rw [Val.sz_eq] at hd; omega
  | d + 1, v, hd, h, hs => by
    rw [Val.in_iff] at h ⊢
    rw [Val.sep_iff] at hs
    exact ⟨h.1, h.2.1.carryS hs.1 hb hz, h.2.2.1.carryS hs.2.1 hb hz, fun x hx => Val.in_carryS hb hz d x (by have := Val.size_mem hx; omega) (h.2.2.2 x hx) (hs.2.2 x hx)⟩
theorem Val.In.carryS {S : Nat → Prop} {w w' : World} {v : Val} (h : v.In w) (hs : v.Sep S) (hb : ∀ b o, S b → b < w.heap.size → w'.cell? ⟨b, o, none⟩ = w.cell? ⟨b, o, none⟩) (hz : w.heap.size ≤ w'.heap.size) : v.In w' :=
  Val.in_carryS hb hz v.sz v (Nat.le_refl _) h hs

mutual
/-- A value without its places; the same with floats made canonical. -/
def Val.erase : Val → Val
  | .mk k n f s _ ns _ xs => .mk k n f s .no ns .no (Val.eraseAll xs)
def Val.eraseAll : List Val → List Val
  | [] => []
  | x :: xs => x.erase :: Val.eraseAll xs
end
theorem Val.eraseAll_map : ∀ xs : List Val, Val.eraseAll xs = xs.map Val.erase
  | [] => rfl
  | x :: xs => by simp [Val.eraseAll, Val.eraseAll_map xs]
theorem Val.erase_eq (v : Val) : v.erase = .mk v.k v.n v.f v.s .no v.ns .no (v.xs.map Val.erase) := by
  cases v
  simp only [Val.erase, Val.eraseAll_map, Val.k, Val.n, Val.f, Val.s, Val.ns, Val.xs]

/-- The cells of values in a row. -/
def rowCells (us : List Val) : List Value := us.flatMap Val.cells
theorem cells_length (v : Val) : v.cells.length = 6 := rfl
theorem rowCells_length (us : List Val) : (rowCells us).length = us.length * 6 := by
  induction us with
  | nil => rfl
  | cons u us ih => simp [rowCells] at ih ⊢; rw [ih, cells_length]; omega
theorem rowCells_get : ∀ (us : List Val) (i j : Nat) (hi : i < us.length), j < 6 → (rowCells us)[i * 6 + j]? = (us[i]'hi).cells[j]?
  | u :: us, 0, j, _, hj => by
    simp only [rowCells, List.flatMap_cons, Nat.zero_mul, Nat.zero_add]
    rw [List.getElem?_append_left (by rw [cells_length]; exact hj)]
    rfl
  | u :: us, i + 1, j, hi, hj => by
    simp only [rowCells, List.flatMap_cons]
    rw [List.getElem?_append_right (by rw [cells_length]; omega)]
    have := rowCells_get us i j (by simpa using hi) hj
    rw [cells_length, show (i + 1) * 6 + j - 6 = i * 6 + j from by omega]
    simpa [rowCells] using this
theorem rowCells_snoc (us : List Val) (u : Val) : rowCells (us ++ [u]) = rowCells us ++ u.cells := by simp [rowCells]
theorem cells_oneCell (v : Val) : ∀ u ∈ v.cells, u.oneCell' = true := by
  intro u hu
  simp only [Val.cells, List.mem_cons, List.not_mem_nil, or_false] at hu
  rcases hu with rfl | rfl | rfl | rfl | rfl | rfl
  · rfl
  · rfl
  · rfl
  · rfl
  · cases v.na <;> rfl
  · cases v.xa <;> rfl

/-- What an owned row of values is: where it lies. -/
theorem rowLies_of_own {w : World} {base : Nat} {e : TypeId} {v : Value} {us : List Val} (h : w.ownsRow base e 6 v us.length (rowCells us)) :
    ∃ s : Sl, v = s.val us.length ∧ s.lies w 6 us.length (fun i => (us.getD i Val.zero).cells) ∧ s.sep (fun b => base ≤ b) us.length := by
  rcases h.2 with ⟨rfl, h0⟩ | ⟨g, cap, cur, rfl, hb, hg, hnc, hcm, hcs, htake⟩
  · exact ⟨.no, by simp [Sl.val], h0, trivial⟩
  · refine ⟨.at_ g 0 cap, rfl, ⟨hnc, by unfold maxLen at hcm; exact hcm, fun i hi j hj => ⟨?_, ?_⟩⟩, .inr hb⟩
    · have hget := rowCells_get us i j hi hj
      have hl : j < (us[i]'hi).cells.length := by rw [cells_length]; exact hj
      have hc := h.cells (g := g) rfl (i * 6 + j) ((us[i]'hi).cells[j]'hl) (by rw [hget, List.getElem?_eq_getElem hl])
      rw [Addr.add_lit] at hc
      have e : us.getD i Val.zero = us[i]'hi := by simp [hi]
      show _ = (us.getD i Val.zero).cells[j]?
      rw [hc, e, List.getElem?_eq_getElem hl]
    · rcases Nat.lt_or_ge g w.heap.size with h' | h'
      · exact h'
      · simp [Array.getElem?_eq_none h'] at hg
end Go.Proofs.YtjpdbhhjlnmacaaGreat
