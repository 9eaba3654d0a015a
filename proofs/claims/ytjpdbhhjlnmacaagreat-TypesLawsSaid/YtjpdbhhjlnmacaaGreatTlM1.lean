/- Words on memory that all walks of this claim use: a block known whole; what a call may have changed. Plain lemmas, no program in sight. -/
import Derived.WalkKit
import Derived.WalkSpells
import Derived.WalkLawsBesides
import Derived.Lib.Hide
import Derived.Deep.Draws
import Derived.Laws.Rows
import Derived.Laws.BitsAllLaws
import Derived.Laws.BitsLemmas
namespace Go.Proofs.YtjpdbhhjlnmacaaGreat
set_option linter.unusedVariables false
open Go.RowKit

/-- Block g is just the cells cs of element type t, none of them frozen. -/
def Blk (w : World) (g : Nat) (t : TypeId) (cs : Array Value) : Prop := w.heap[g]? = some (.cells cs t (0, 0))

section
variable {w w' : World} {g : Nat} {t : TypeId} {cs : Array Value}
theorem Blk.lt (h : Blk w g t cs) : g < w.heap.size := by
  rcases Nat.lt_or_ge g w.heap.size with hlt | hge
  · exact hlt
  · unfold Blk at h; rw [Array.getElem?_eq_none hge] at h; cases h
theorem Blk.cell (h : Blk w g t cs) (i : Nat) : w.cell? ⟨g, i, none⟩ = cs[i]? := cell_of_row w g i cs t (0, 0) h
theorem Blk.frozen (h : Blk w g t cs) (i : Nat) : w.frozen? ⟨g, i, none⟩ = false := by
  unfold Blk at h
  simp [World.frozen?, h]
theorem Blk.new (w : World) (t : TypeId) (cs : Array Value) : Blk (w.alloc (.cells cs t)) w.heap.size t cs := heap_alloc_new w _
theorem Blk.drew (h : Blk w g t cs) : Blk w.drew g t cs := h
theorem Blk.drewN (h : Blk w g t cs) (n : Nat) : Blk (w.drewN n) g t cs := h
theorem Blk.alloc (h : Blk w g t cs) (o : Obj) : Blk (w.alloc o) g t cs := (Below.heap_alloc w o g h.lt).trans h
theorem Blk.set_ (h : Blk w g t cs) (i : Nat) (u : Value) : Blk (w.setCell ⟨g, i, none⟩ u) g t (cs.setIfInBounds i u) := by
  unfold Blk at h ⊢
  simp [World.setCell, Array.getElem?_modify, h]
theorem Blk.far (h : Blk w g t cs) {p : Addr} (hp : g ≠ p.block) (u : Value) : Blk (w.setCell p u) g t cs := (Below.heap_setCell w p u g hp).trans h
theorem Blk.below {B : Nat} (h : Blk w g t cs) (hb : Below B w w') (hg : g < B) : Blk w' g t cs := (hb.block g hg).trans h
theorem Blk.grown {row : Option Nat} (h : Blk w g t cs) (hb : w.grownBy w' row) (hg : some g ≠ row) : Blk w' g t cs := (hb.block g h.lt hg).trans h
theorem Blk.ne_ {g' : Nat} {t' : TypeId} {cs' : Array Value} (h : Blk w g t cs) (h' : Blk w g' t' cs') (hne : t ≠ t') : g ≠ g' := by
  rintro rfl
  unfold Blk at h h'
  rw [h] at h'
  injection h' with h'
  injection h' with _ ht
  exact hne ht
end

/-- Only block g, and what is new, has changed. -/
abbrev Only (w w' : World) (g : Nat) : Prop := w.grownBy w' (some g)

section
variable {a w w' : World} {g : Nat}
theorem Only.refl (w : World) (g : Nat) : Only w w g := World.grownBy.refl w _
theorem Only.drewN (h : Only a w g) (n : Nat) : Only a (w.drewN n) g := ⟨h.os, h.tape, h.output, h.size, h.block⟩
theorem Only.drew (h : Only a w g) : Only a w.drew g := ⟨h.os, h.tape, h.output, h.size, h.block⟩
theorem Only.alloc (h : Only a w g) (o : Obj) : Only a (w.alloc o) g :=
  ⟨h.os, h.tape, h.output, Nat.le_trans h.size (by simp), fun i hi hne => (Below.heap_alloc w o i (Nat.lt_of_lt_of_le hi h.size)).trans (h.block i hi hne)⟩
theorem Only.set_ (h : Only a w g) {p : Addr} (hp : p.block = g ∨ a.heap.size ≤ p.block) (u : Value) : Only a (w.setCell p u) g :=
  ⟨h.os, h.tape, h.output, by simpa [World.setCell] using h.size, fun i hi hne => (Below.heap_setCell w p u i (by
    rintro rfl
    rcases hp with hp | hp
    · exact hne (by rw [hp])
    · omega)).trans (h.block i hi hne)⟩
theorem Only.of_below (h : Below a.heap.size a w) (g : Nat) : Only a w g := ⟨h.os, h.tape, h.output, h.size, fun i hi _ => h.block i hi⟩
theorem Only.trans {b c : World} (h : Only a b g) (k : Only b c g) : Only a c g :=
  ⟨k.os.trans h.os, k.tape.trans h.tape, k.output.trans h.output, Nat.le_trans h.size k.size, fun i hi hne => (k.block i (Nat.lt_of_lt_of_le hi h.size) hne).trans (h.block i hi hne)⟩
theorem Only.below {B : Nat} (h : Only a w g) (hB : B ≤ g) (hs : B ≤ a.heap.size) : Below B a w := ⟨h.os, h.tape, h.output, h.size, fun i hi => h.block i (by omega) (by simp; omega)⟩
theorem Below.only {B : Nat} {c : World} (h : Below B a w) (k : Only w c g) (hB : B ≤ g) (hs : B ≤ w.heap.size) : Below B a c := h.trans (k.below hB hs)
end
theorem below_drewN {B : Nat} {a w : World} (h : Below B a w) (n : Nat) : Below B a (w.drewN n) := ⟨h.os, h.tape, h.output, h.size, h.block⟩

/-- The cells of a new block, each by its place. -/
theorem cells_new (w : World) (l : List Value) (t : TypeId) : ∀ j u, l[j]? = some u → (w.alloc (.cells l.toArray t)).cell? ((⟨w.heap.size, 0, none⟩ : Addr).add j) = some u := by
  intro j u h
  rw [Addr.add_lit, (Blk.new w t l.toArray).cell]
  simpa using h

theorem own_ge {w : World} {base n size k : Nat} {e : TypeId} {v : Value} {xs : List Value} (h : w.ownsRow base e size v n xs) (hk : v.ownBlock = some k) : base ≤ k := by
  rcases h.2 with ⟨rfl, _⟩ | ⟨g, cap, cur, rfl, hb, _⟩
  · simp [Value.ownBlock] at hk
  · simp [Value.ownBlock] at hk; omega
theorem Below.own {B : Nat} {a w w' : World} {n size : Nat} {e : TypeId} {v : Value} {xs : List Value} (h : Below B a w) (ho : w.ownsRow B e size v n xs) (hg : w.grownBy w' v.ownBlock) (hB : B ≤ w.heap.size) : Below B a w' :=
  h.grown hg hB (fun _ hk => own_ge ho hk)

theorem quiet_add {P : Program} {f : FuncId} {args : Array Value} {w : World} {a n : Nat} {v : Value}
    (h : Calls P f args (w.drewN (a + n)) fun e w' => e = .returned v ∧ ∃ m, w' = (w.drewN (a + n)).drewN m) :
    Calls P f args (w.drewN (a + n)) fun e w'' => e = .returned v ∧ ∃ m, w'' = w.drewN (a + m) :=
  h.mono fun _ _ ⟨he, m, hm⟩ => ⟨he, n + m, by rw [hm, World.drewN_drewN, Nat.add_assoc]⟩
theorem quiet_add_left {P : Program} {f : FuncId} {args : Array Value} {w : World} {a n : Nat} {v : Value}
    (h : Calls P f args (w.drewN (a + n)) fun e w' => e = .returned v ∧ w.drewN (a + n) = w') :
    Calls P f args (w.drewN (a + n)) fun e w'' => e = .returned v ∧ ∃ m, w'' = w.drewN (a + m) :=
  h.mono fun _ _ ⟨he, hm⟩ => ⟨he, n, hm.symm⟩
theorem quiet_left {P : Program} {f : FuncId} {args : Array Value} {w : World} {n : Nat} {v : Value}
    (h : Calls P f args (w.drewN n) fun e w' => e = .returned v ∧ w.drewN n = w') : Calls P f args (w.drewN n) fun e w'' => e = .returned v ∧ ∃ m, w'' = w.drewN m :=
  h.mono fun _ _ ⟨he, hm⟩ => ⟨he, n, hm.symm⟩

theorem ofInt_i64 (a : Nat) (ha : a < 9223372036854775808) : (BitVec.ofInt 64 (a : Int)).toNat = a := by
  rw [BitVec.ofInt_natCast, BitVec.toNat_ofNat]; exact Nat.mod_eq_of_lt (by omega)
theorem i64_and_nat (a b : Nat) (ha : a < 9223372036854775808) (hb : b < 9223372036854775808) : bits .and .i64 (a : Int) (b : Int) = ((a &&& b : Nat) : Int) := by
  have hx : a &&& b < 2 ^ 63 := Nat.and_lt_two_pow _ (by omega)
  show IntKind.i64.wrap ((BitVec.ofInt 64 (a : Int) &&& BitVec.ofInt 64 (b : Int)).toNat : Int) = _
  rw [BitVec.toNat_and, ofInt_i64 a ha, ofInt_i64 b hb, IntKind.wrap_i64]
  omega
theorem i64_or_nat (a b : Nat) (ha : a < 9223372036854775808) (hb : b < 9223372036854775808) : bits .or .i64 (a : Int) (b : Int) = ((a ||| b : Nat) : Int) := by
  have hx : a ||| b < 2 ^ 63 := Nat.or_lt_two_pow (by omega) (by omega)
  show IntKind.i64.wrap ((BitVec.ofInt 64 (a : Int) ||| BitVec.ofInt 64 (b : Int)).toNat : Int) = _
  rw [BitVec.toNat_or, ofInt_i64 a ha, ofInt_i64 b hb, IntKind.wrap_i64]
  omega
theorem i64_xor_nat (a b : Nat) (ha : a < 9223372036854775808) (hb : b < 9223372036854775808) : bits .xor .i64 (a : Int) (b : Int) = ((a ^^^ b : Nat) : Int) := by
  have hx : a ^^^ b < 2 ^ 63 := Nat.xor_lt_two_pow (by omega) (by omega)
  show IntKind.i64.wrap ((BitVec.ofInt 64 (a : Int) ^^^ BitVec.ofInt 64 (b : Int)).toNat : Int) = _
  rw [BitVec.toNat_xor, ofInt_i64 a ha, ofInt_i64 b hb, IntKind.wrap_i64]
  omega
end Go.Proofs.YtjpdbhhjlnmacaaGreat

/- How floats of 64 bits stand to one another, by their bits. A plain law, no program in sight. -/
namespace Go.Proofs.YtjpdbhhjlnmacaaGreat
set_option linter.unusedVariables false

/-- The size of a finite float, by its bits but the sign. -/
def rungv (r : Nat) : Nat := if r < 4503599627370496 then r else (4503599627370496 + r % 4503599627370496) * 2 ^ (r / 4503599627370496 - 1)
theorem rungv_succ (r : Nat) : rungv r < rungv (r + 1) := by
  unfold rungv
  by_cases h1 : r + 1 < 4503599627370496
  · rw [if_pos (by omega), if_pos h1]; omega
  · rw [if_neg h1]
    by_cases h2 : r < 4503599627370496
    · have e : r = 4503599627370495 := by omega
      subst e
      rw [if_pos (by omega)]
      decide
    · rw [if_neg h2]
      by_cases h3 : r % 4503599627370496 = 4503599627370495
      · have e1 : (r + 1) % 4503599627370496 = 0 := by omega
        have e2 : (r + 1) / 4503599627370496 - 1 = (r / 4503599627370496 - 1) + 1 := by omega
        rw [h3, e1, e2, Nat.pow_succ]
        have hp : 0 < 2 ^ (r / 4503599627370496 - 1) := Nat.two_pow_pos _
        generalize 2 ^ (r / 4503599627370496 - 1) = P at hp ⊢
        omega
      · have e1 : (r + 1) % 4503599627370496 = r % 4503599627370496 + 1 := by omega
        have e2 : (r + 1) / 4503599627370496 = r / 4503599627370496 := by omega
        rw [e1, e2]
        exact Nat.mul_lt_mul_of_pos_right (by omega) (Nat.two_pow_pos _)
theorem rungv_lt {a b : Nat} (h : a < b) : rungv a < rungv b := by
  induction b with
  | zero => omega
  | succ b ih =>
    by_cases e : a = b
    · subst e; exact rungv_succ a
    · exact Nat.lt_trans (ih (by omega)) (rungv_succ b)
theorem rungv_inj {a b : Nat} (h : rungv a = rungv b) : a = b := by
  rcases Nat.lt_trichotomy a b with h' | h' | h'
  · have := rungv_lt h'; omega
  · exact h'
  · have := rungv_lt h'; omega

/-- No number; the sign; the size. -/
def fnan (x : Nat) : Bool := decide (9218868437227405312 < x % 9223372036854775808)
def fneg (x : Nat) : Bool := x / 9223372036854775808 % 2 == 1
def fsv (x : Nat) : Int := if fneg x then -(rungv (x % 9223372036854775808) : Int) else (rungv (x % 9223372036854775808) : Int)

theorem signed_eq (s : Bool) (m a c : Nat) (h : c ≤ a) : Ieee.signed s m (a - c) * (2 ^ c : Nat) = Ieee.signed s m a := by
  unfold Ieee.signed
  have e : (m <<< (a - c)) * 2 ^ c = m <<< a := by
    rw [Nat.shiftLeft_eq, Nat.shiftLeft_eq, Nat.mul_assoc, ← Nat.pow_add, Nat.sub_add_cancel h]
  cases s
  · simp only [Bool.false_eq_true, if_false]
    rw [← e]; simp
  · simp only [if_true]
    rw [← e, Int.neg_mul, Int.natCast_mul]
theorem compare_scale (x y : Int) (P : Nat) (hP : 0 < P) : compare x y = compare (x * (P : Int)) (y * (P : Int)) := by
  have hp : (0 : Int) < (P : Int) := by omega
  rcases Int.lt_trichotomy x y with h | h | h
  · rw [Int.compare_eq_lt.2 h, Int.compare_eq_lt.2 (Int.mul_lt_mul_of_pos_right h hp)]
  · subst h; simp
  · rw [Int.compare_eq_gt.2 h, Int.compare_eq_gt.2 (Int.mul_lt_mul_of_pos_right h hp)]
theorem number_order (s t : Bool) (m n a b : Nat) : Ieee.Datum.order (.number s m (-1074 + (a : Int))) (.number t n (-1074 + (b : Int))) = some (compare (Ieee.signed s m a) (Ieee.signed t n b)) := by
  have e : min (-1074 + (a : Int)) (-1074 + (b : Int)) = -1074 + ((min a b : Nat) : Int) := by omega
  simp only [Ieee.Datum.order, e]
  rw [show ((-1074 + (a : Int)) - (-1074 + ((min a b : Nat) : Int))).toNat = a - min a b from by omega,
    show ((-1074 + (b : Int)) - (-1074 + ((min a b : Nat) : Int))).toNat = b - min a b from by omega]
  rw [compare_scale _ _ (2 ^ min a b) (Nat.two_pow_pos _), signed_eq _ _ _ _ (by omega), signed_eq _ _ _ _ (by omega)]

theorem read_nan {x : Nat} (h : fnan x = true) : ∃ s q, Ieee.double.read x = .nan s q := by
  unfold fnan at h
  have h' : 9218868437227405312 < x % 9223372036854775808 := by simpa using h
  refine ⟨x / 9223372036854775808 % 2 == 1, x % 9223372036854775808 - 9218868437227405312, ?_⟩
  unfold Ieee.Format.read
  have e1 : Ieee.double.signWeight = 9223372036854775808 := by decide
  have e2 : Ieee.double.binade = 4503599627370496 := by decide
  have e3 : Ieee.double.infRung = 9218868437227405312 := by decide
  simp only [e1, e2, e3]
  rw [if_neg (by omega), if_neg (by omega), if_neg (by omega)]
theorem read_inf {x : Nat} (h : x % 9223372036854775808 = 9218868437227405312) : Ieee.double.read x = .infinity (fneg x) := by
  unfold Ieee.Format.read
  have e1 : Ieee.double.signWeight = 9223372036854775808 := by decide
  have e2 : Ieee.double.binade = 4503599627370496 := by decide
  have e3 : Ieee.double.infRung = 9218868437227405312 := by decide
  simp only [e1, e2, e3]
  rw [if_neg (by omega), if_neg (by omega), if_pos (by omega)]
  rfl
theorem read_fin {x : Nat} (h : x % 9223372036854775808 < 9218868437227405312) : ∃ m a, Ieee.double.read x = .number (fneg x) m (-1074 + ((a : Nat) : Int)) ∧ m <<< a = rungv (x % 9223372036854775808) := by
  unfold Ieee.Format.read
  have e1 : Ieee.double.signWeight = 9223372036854775808 := by decide
  have e2 : Ieee.double.binade = 4503599627370496 := by decide
  have e3 : Ieee.double.infRung = 9218868437227405312 := by decide
  have e4 : Ieee.double.leastPlace = -1074 := by decide
  simp only [e1, e2, e3, e4]
  unfold rungv
  by_cases h1 : x % 9223372036854775808 < 4503599627370496
  · rw [if_pos h1, if_pos h1]
    exact ⟨x % 9223372036854775808, 0, rfl, by simp⟩
  · rw [if_neg h1, if_pos h, if_neg h1]
    exact ⟨_, _, rfl, by rw [Nat.shiftLeft_eq]⟩

theorem fsv_signed (x m a : Nat) (h : m <<< a = rungv (x % 9223372036854775808)) : Ieee.signed (fneg x) m a = fsv x := by
  unfold Ieee.signed fsv
  rw [h]

theorem order_none {x y : Nat} (h : fnan x = true ∨ fnan y = true) : Ieee.double.order x y = none := by
  unfold Ieee.Format.order
  rcases h with h | h
  · obtain ⟨s, q, e⟩ := read_nan h
    rw [e]
    simp [Ieee.Datum.order]
  · obtain ⟨s, q, e⟩ := read_nan h
    rw [e]
    cases Ieee.double.read x <;> simp [Ieee.Datum.order]

theorem order_some {x y : Nat} (hx : fnan x = false) (hy : fnan y = false) : Ieee.double.order x y = some (compare (fsv x) (fsv y)) := by
  unfold fnan at hx hy
  have hx' : x % 9223372036854775808 ≤ 9218868437227405312 := by simpa using hx
  have hy' : y % 9223372036854775808 ≤ 9218868437227405312 := by simpa using hy
  unfold Ieee.Format.order
  by_cases h1 : x % 9223372036854775808 = 9218868437227405312
  · rw [read_inf h1]
    by_cases h2 : y % 9223372036854775808 = 9218868437227405312
    · rw [read_inf h2]
      simp only [Ieee.Datum.order, fsv, h1, h2]
      have hp : 0 < rungv 9218868437227405312 := by have := rungv_lt (a := 0) (b := 9218868437227405312) (by omega); omega
      generalize rungv 9218868437227405312 = R at hp ⊢
      cases fneg x <;> cases fneg y <;> simp
      · exact (Int.compare_eq_gt.2 (by omega)).symm
      · exact (Int.compare_eq_lt.2 (by omega)).symm
    · obtain ⟨m, a, e, hm⟩ := read_fin (x := y) (by omega)
      rw [e]
      simp only [Ieee.Datum.order, fsv, h1]
      have hlt := rungv_lt (a := y % 9223372036854775808) (b := 9218868437227405312) (by omega)
      generalize rungv 9218868437227405312 = R at hlt ⊢
      generalize rungv (y % 9223372036854775808) = Q at hlt ⊢
      cases fneg x <;> cases fneg y <;> simp
      · exact (Int.compare_eq_gt.2 (by omega)).symm
      · exact (Int.compare_eq_gt.2 (by omega)).symm
      · exact (Int.compare_eq_lt.2 (by omega)).symm
      · exact (Int.compare_eq_lt.2 (by omega)).symm
  · obtain ⟨m, a, e, hm⟩ := read_fin (x := x) (by omega)
    rw [e]
    by_cases h2 : y % 9223372036854775808 = 9218868437227405312
    · rw [read_inf h2]
      simp only [Ieee.Datum.order, fsv, h2]
      have hlt := rungv_lt (a := x % 9223372036854775808) (b := 9218868437227405312) (by omega)
      generalize rungv 9218868437227405312 = R at hlt ⊢
      generalize rungv (x % 9223372036854775808) = Q at hlt ⊢
      cases fneg x <;> cases fneg y <;> simp
      · exact (Int.compare_eq_lt.2 (by omega)).symm
      · exact (Int.compare_eq_gt.2 (by omega)).symm
      · exact (Int.compare_eq_lt.2 (by omega)).symm
      · exact (Int.compare_eq_gt.2 (by omega)).symm
    · obtain ⟨m', a', e', hm'⟩ := read_fin (x := y) (by omega)
      rw [e', number_order, fsv_signed _ _ _ hm, fsv_signed _ _ _ hm']
end Go.Proofs.YtjpdbhhjlnmacaaGreat
