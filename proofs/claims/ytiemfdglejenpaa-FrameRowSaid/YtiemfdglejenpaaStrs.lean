/- Slices of texts in memory, and the contract of the reference's Same. -/
import Derived.Test.YtiemfdglejenpaaFrameAll
import Derived.Deep.QuietTactic
import Derived.BigQuiet
namespace Go.Proofs.Ytiemfdglejenpaa
set_option linter.unusedVariables false
open Go.RowKit

/-- v is a slice that reads as the texts l, in blocks below B. -/
def StrsAt (w : World) (B : Nat) (A : Option Addr) (l : List ByteArray) : Prop :=
  ∀ (k : Nat) (h : k < l.length), ∃ b off, A = some ⟨b, off, none⟩ ∧ b < B ∧ w.cell? ⟨b, off + k, none⟩ = some (.string l[k])

theorem StrsAt.below {w w' : World} {B : Nat} {A : Option Addr} {l : List ByteArray} (h : StrsAt w B A l) (hb : Below B w w') : StrsAt w' B A l := fun k hk => by
  obtain ⟨b, off, rfl, hB, c⟩ := h k hk
  exact ⟨b, off, rfl, hB, (hb.cell (p := ⟨b, off + k, none⟩) hB).trans c⟩
theorem StrsAt.drewN {w : World} {B : Nat} {A : Option Addr} {l : List ByteArray} (h : StrsAt w B A l) (n : Nat) : StrsAt (w.drewN n) B A l := h
theorem StrsAt.more {w : World} {B B' : Nat} {A : Option Addr} {l : List ByteArray} (h : StrsAt w B A l) (hB : B ≤ B') : StrsAt w B' A l := fun k hk => by
  obtain ⟨b, off, e, hb, c⟩ := h k hk
  exact ⟨b, off, e, by omega, c⟩
theorem strs_of_own {w : World} {base : Nat} {v : Value} {l : List ByteArray} (h : w.ownsRow base 9 1 v l.length (l.map Value.string)) :
    ∃ A cap, v = .slice A l.length cap ∧ StrsAt w w.heap.size A l := by
  have h' := h
  obtain ⟨h1, h2⟩ := h
  rcases h2 with ⟨rfl, h0⟩ | ⟨g, cap, cur, rfl, hb, hg, _⟩
  · rw [h0]
    exact ⟨none, 0, rfl, fun k hk => by omega⟩
  · have hlt : g < w.heap.size := by
      rcases Nat.lt_or_ge g w.heap.size with hlt | hge
      · exact hlt
      · rw [Array.getElem?_eq_none hge] at hg; cases hg
    refine ⟨_, cap, rfl, fun k hk => ⟨g, 0, rfl, hlt, ?_⟩⟩
    have := h'.cells (g := g) rfl k (.string l[k]) (by simp [hk])
    rwa [Addr.add_lit] at this

def sameB (a b : List ByteArray) : Bool := decide (a = b)
/-- They are told same, or not; nothing has changed. -/
def Samed (a b : List ByteArray) (w : World) (e : Ending) (w' : World) : Prop := e = .returned (.bool (sameB a b)) ∧ Below w.heap.size w w'
theorem Samed.of {a b : List ByteArray} {w w' : World} {r : Bool} (h : sameB a b = r) (hb : Below w.heap.size w w') : Samed a b w (.returned (.bool r)) w' := ⟨by rw [h], hb⟩

set_option maxHeartbeats 400000 in
theorem same_len (A C : Option Addr) (a b : List ByteArray) (ca cb : Nat) (w : World) (hl : a.length ≠ b.length) :
    Calls Try.prog 36 #[.slice A a.length ca, .slice C b.length cb] w fun e w' => Samed a b w e w' := by
  have hs : sameB a b = false := decide_eq_false fun e => hl (by rw [e])
  have HS := Lib.hid hs
  have hne : ((a.length : Int) == (b.length : Int)) = false := by simp; omega
  have hne' : ((a.length : Int) != (b.length : Int)) = true := by simp; omega
  clear hl hs
  generalize a.length = n at *
  generalize b.length = m at *
  go_enter Try.func36, Try.ntmps36
  go_wp2
  go_ret
  exact Samed.of HS.out (Below.refl _ _)

set_option maxHeartbeats 1000000 in
theorem same_go (A C : Option Addr) (a b : List ByteArray) (n ca cb : Nat) (w : World) (ha : a.length = n) (hb : b.length = n) (hn : n ≤ 140737488355328) (h1 : StrsAt w w.heap.size A a) (h2 : StrsAt w w.heap.size C b) :
    Calls Try.prog 36 #[.slice A n ca, .slice C n cb] w fun e w' => Samed a b w e w' := by
  have HA := Lib.hid ha
  have HB := Lib.hid hb
  clear ha hb
  go_enter Try.func36, Try.ntmps36
  go_wp2
  go_loopw [5] (fun v wr => ∃ k : Nat, k ≤ n ∧ v = .int .i64 k ∧ a.take k = b.take k ∧ Below w.heap.size w wr) (fun v _ => (n - intOf v).toNat)
  case atStart => exact ⟨0, by omega, rfl, by simp, Below.refl _ _⟩
  case round =>
    obtain ⟨k, hk, rfl, ht, hl⟩ := hrel
    have HT := Lib.hid ht
    clear ht
    by_cases hlt : k < n
    · have hka : k < a.length := by rw [HA.out]; exact hlt
      have hkb : k < b.length := by rw [HB.out]; exact hlt
      obtain ⟨b1, o1, rfl, hB1, c1⟩ := (h1.below hl) k hka
      obtain ⟨b2, o2, rfl, hB2, c2⟩ := (h2.below hl) k hkb
      obtain ⟨x, hx⟩ : ∃ x, x = a[k] := ⟨_, rfl⟩
      obtain ⟨y, hy⟩ : ∃ y, y = b[k] := ⟨_, rfl⟩
      rw [← hx] at c1
      rw [← hy] at c2
      have HX := Lib.hid hx
      have HY := Lib.hid hy
      have i1 : (k : Int) < (n : Int) := by omega
      clear hx hy
      by_cases hxy : x = y
      · have hnext : a.take (k + 1) = b.take (k + 1) := by
          rw [List.take_succ_eq_append_getElem hka, List.take_succ_eq_append_getElem hkb, HT.out, ← HX.out, ← HY.out, hxy]
        have HN := Lib.hid hnext
        clear hnext HX HY
        subst hxy
        go_wp2
        go_quiet (fail)
        go_wp2
        go_roundw
        case rel => exact ⟨k + 1, by omega, by go_num, HN.out, below_drewN hl _⟩
        case measure => simp [intOf]; omega
      · have hs : sameB a b = false := decide_eq_false fun e => hxy (by rw [HX.out, HY.out]; simp [e])
        have HS := Lib.hid hs
        have hg : (x.toList == y.toList) = false := by
          have : x.toList ≠ y.toList := fun e => hxy (WideShapes.bytes_inj (by rw [← Lib.toList_data, ← Lib.toList_data]; exact e))
          simpa using this
        clear hs hxy HX HY
        go_wp2
        go_quiet (fail)
        go_wp2
        go_ret
        exact Samed.of HS.out (below_drewN hl _)
    · obtain rfl : k = n := by omega
      have hs : sameB a b = true := by
        refine decide_eq_true ?_
        have := HT.out
        rw [List.take_of_length_le (by rw [HA.out]; omega), List.take_of_length_le (by rw [HB.out]; omega)] at this
        exact this
      have HS := Lib.hid hs
      clear hs
      go_wp2
      go_ret
      exact Samed.of HS.out hl

theorem same_any (A C : Option Addr) (a b : List ByteArray) (ca cb : Nat) (w : World) (ha : a.length ≤ 140737488355328) (h1 : StrsAt w w.heap.size A a) (h2 : StrsAt w w.heap.size C b) :
    Calls Try.prog 36 #[.slice A a.length ca, .slice C b.length cb] w fun e w' => Samed a b w e w' := by
  by_cases hl : a.length = b.length
  · have := same_go A C a b a.length ca cb w rfl hl.symm ha h1 h2
    rwa [← hl]
  · exact same_len A C a b ca cb w hl
end Go.Proofs.Ytiemfdglejenpaa
