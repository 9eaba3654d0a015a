/- Two lists of numbers; layer 19's answers that the document fixes. -/
import Derived.Test.YtbngcepekaicjaaTmDue
import Derived.Test.YtbngcepekaicjaaRow
namespace Go.Proofs.Ytbngcepekaicjaa
set_option linter.unusedVariables false
open Go.RowKit

def gI (l : List Int) (i : Nat) : Int := l.getD i 0
/-- A list of numbers that can be read. -/
def RdI (w : World) (A : Option Addr) (O : List Int) : Prop := ∀ i, i < O.length → ∃ b o, A = some ⟨b, o, none⟩ ∧ b < w.heap.size ∧ w.cell? ⟨b, o + i, none⟩ = some (.int .i64 (gI O i))
theorem RdI.below {w w' : World} {A : Option Addr} {O : List Int} (h : RdI w A O) (hb : Below w.heap.size w w') : RdI w' A O := fun i hi => by
  obtain ⟨b, o, e, hlt, hc⟩ := h i hi
  exact ⟨b, o, e, Nat.lt_of_lt_of_le hlt hb.size, (hb.cell (p := ⟨b, o + i, none⟩) hlt).trans hc⟩
theorem IntsAt.rd {w : World} {B : Nat} {sv : Value} {O : List Int} (h : IntsAt w B sv O) : ∃ A cap, sv = .slice A O.length cap ∧ RdI w A O := by
  rcases h.2 with ⟨rfl, h0⟩ | ⟨b, cap, cur, rfl, hb, hg, hr⟩
  · exact ⟨none, 0, by rw [h0], fun i hi => absurd hi (by omega)⟩
  · refine ⟨_, _, rfl, fun i hi => ⟨b, 0, rfl, ?_, ?_⟩⟩
    · rcases Nat.lt_or_ge b w.heap.size with h' | h'
      · exact h'
      · rw [Array.getElem?_eq_none h'] at hg; cases hg
    · have := h.cells (g := b) rfl i (.int .i64 (gI O i)) (by simp [gI, hi])
      rw [Addr.add_lit] at this
      exact this
theorem RdI.new (w : World) (O : List Int) (t : TypeId) : RdI (w.alloc (.cells (O.map (Value.int .i64)).toArray t)) (some ⟨w.heap.size, 0, none⟩) O := fun i hi => by
  refine ⟨_, 0, rfl, by simp, ?_⟩
  rw [(Blk.new w t _).cell, Nat.zero_add]
  simp [gI, hi]
def Drawn (w w' : World) : Prop := ∃ n, w' = w.drewN n
def SameR (r : Bool) (w : World) (e : Ending) (w' : World) : Prop := e = .returned (.bool r) ∧ Drawn w w'
def SameOut (a b : List Int) (w : World) (e : Ending) (w' : World) : Prop := SameR (decide (a = b)) w e w'
theorem ret_bool {a b : Bool} (h : a = b) : Ending.returned (.bool a) = .returned (.bool b) := by rw [h]
def EqTo (a b : List Int) (k : Nat) : Prop := ∀ i, i < k → gI a i = gI b i
theorem eq_of_eqTo {a b : List Int} (hl : a.length = b.length) (h : EqTo a b a.length) : a = b := by
  apply List.ext_getElem hl
  intro i h1 h2
  have := h i h1
  simpa [gI, h1, h2] using this
set_option maxHeartbeats 1000000 in
theorem same_any (A B : Option Addr) (a b : List Int) (ca cb : Nat) (w : World) (ha : RdI w A a) (hb : RdI w B b) (hl : a.length ≤ 140737488351232) :
    Calls Try.prog 14 #[.slice A a.length ca, .slice B b.length cb] w fun e w' => SameOut a b w e w' := by
  unfold SameOut
  obtain ⟨n, hn⟩ : ∃ n, n = a.length := ⟨_, rfl⟩
  obtain ⟨m, hm⟩ : ∃ m, m = b.length := ⟨_, rfl⟩
  have HA := Lib.hid ha; have HB := Lib.hid hb; have HN := Lib.hid hn; have HM := Lib.hid hm
  rw [← hn] at hl
  rw [← hn, ← hm]
  clear ha hb
  by_cases he : n = m
  · subst he
    have hnn : ((n : Int) != (n : Int)) = false := by simp
    clear hn hm
    obtain ⟨r, hr⟩ : ∃ r, r = decide (a = b) := ⟨_, rfl⟩
    rw [← hr]
    have HR := Lib.hid hr
    clear hr
    go_enter Try.func14, Try.ntmps14
    go_wp2
    go_loopw [5] (fun iv wr => ∃ k : Nat, k ≤ n ∧ iv = .int .i64 k ∧ EqTo a b k ∧ Drawn w wr) (fun iv _ => n - (intOf iv).toNat)
    case atStart => exact ⟨0, by omega, rfl, fun i hi => absurd hi (by omega), 0, rfl⟩
    case round =>
      obtain ⟨k, hk, rfl, heq, hdr⟩ := hrel
      obtain ⟨q, rfl⟩ := hdr
      have HEQ := Lib.hid heq
      clear heq
      by_cases hlt : k < n
      · obtain ⟨b0, o0, rfl, hb0, c0⟩ := HA.out k (by rw [← HN.out]; exact hlt)
        obtain ⟨b1, o1, rfl, hb1, c1⟩ := HB.out k (by rw [← HM.out]; exact hlt)
        have hk0 : (0 : Int) ≤ (k : Int) := by omega
        have hk1 : (k : Int) < (n : Int) := by omega
        by_cases hx : gI a k = gI b k
        · have hxx : (gI a k != gI b k) = false := by simp [hx]
          have HX := Lib.hid hx
          clear hx
          go_wp2_with fail
          go_quiet (fail)
          go_wp2
          exact ⟨⟨k + 1, by omega, by go_num, fun i hi => by rcases (by omega : i < k ∨ i = k) with h | h; exact HEQ.out i h; rw [h]; exact HX.out, ⟨_, rfl⟩⟩, by simp [intOf]; omega⟩
        · have hxx : (gI a k != gI b k) = true := by simp [hx]
          have HX := Lib.hid hx
          clear hx
          go_wp2_with fail
          go_quiet (fail)
          go_wp2
          go_ret
          exact ⟨ret_bool (by rw [HR.out, decide_eq_false (fun e => HX.out (by rw [e]))]), _, World.drewN_drewN _ _ _⟩
      · obtain rfl : k = n := by omega
        go_wp2
        go_ret
        exact ⟨ret_bool (by rw [HR.out, decide_eq_true (eq_of_eqTo (HN.out.symm.trans HM.out) (by rw [← HN.out]; exact HEQ.out))]), _, rfl⟩
  · have hnn : ((n : Int) != (m : Int)) = true := by simp; omega
    have hr : decide (a = b) = false := decide_eq_false (fun e => he (by rw [hn, hm, e]))
    rw [hr]
    clear hn hm hr he
    go_enter Try.func14, Try.ntmps14
    go_wp2
    go_ret
    exact ⟨rfl, 0, rfl⟩
end Go.Proofs.Ytbngcepekaicjaa
