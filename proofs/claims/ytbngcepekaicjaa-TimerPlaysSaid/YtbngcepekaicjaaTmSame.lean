/- Two lists of pairs: basculeref19.Same. -/
import Derived.Test.YtbngcepekaicjaaTmCopy
namespace Go.Proofs.Ytbngcepekaicjaa
set_option linter.unusedVariables false
open Go.RowKit

theorem run_part2 (W : World) (x y : Value) (i : Nat) (h : i < 2) : (part 3 #[x, y] i).run Try.prog W = .ok (#[x, y].getD i undef) W := by
  rcases (by omega : i = 0 ∨ i = 1) with rfl | rfl
  · simp [part, Try.isAgg3, go_sem]
  · simp [part, Try.isAgg3, go_sem]
theorem pair_eqIn (W : World) (k : Nat) (a b c d : Int) (hin : ∀ (W : World) (x y : Int), (Op.equalIn k 3 (.int .i64 x) (.int .i64 y)).run Try.prog W = .ok (x == y) W) :
    (Op.equalIn (k + 1) 36 (.agg #[.int .i64 a, .int .i64 b]) (.agg #[.int .i64 c, .int .i64 d])).run Try.prog W = .ok (a == c && b == d) W := by
  simp only [Op.equalIn, Sem.run_bind, run_underlying Try.underlying36, Result.andThen_ok, Try.sizeOf3]
  have p0 := fun (W : World) (x y : Value) => run_part2 W x y 0 (by omega)
  have p1 := fun (W : World) (x y : Value) => run_part2 W x y 1 (by omega)
  simp [Std.Legacy.Range.forIn_eq_forIn_range', List.range'_succ, List.forIn_cons, p0, p1, hin]
  by_cases h1 : a = c
  · by_cases h2 : b = d
    · simp [h1, h2, p0, p1, hin]
    · have : (b == d) = false := by simpa using h2
      simp [h1, h2, this, p0, p1, hin]
  · have : (a == c) = false := by simpa using h1
    simp [h1, this, p0, p1, hin]
theorem pair_neq (W : World) (a b c d : Int) : (binOp .neq 36 (.agg #[.int .i64 a, .int .i64 b]) (.agg #[.int .i64 c, .int .i64 d])).run Try.prog W = .ok (.bool (!(a == c && b == d))) W := by
  have h := pair_eqIn W 9999 a b c d (fun W x y => run_equalIn_int W 9998 3 .i64 .i64 x y Try.underlying3)
  simp [binOp, Op.equal, Op.maxDepth, h]
def eqW (x y : Wt) : Bool := x.1 == y.1 && x.2 == y.2
theorem eqW_true {x y : Wt} : eqW x y = true ↔ x = y := by
  unfold eqW
  simp
  exact ⟨fun h => Prod.ext h.1 h.2, fun h => by rw [h]; exact ⟨rfl, rfl⟩⟩
theorem pair_neqW (W : World) (x y : Wt) : (binOp .neq 36 (.agg #[.int .i64 x.1, .int .i64 x.2]) (.agg #[.int .i64 y.1, .int .i64 y.2])).run Try.prog W = .ok (.bool (!eqW x y)) W := pair_neq W x.1 x.2 y.1 y.2
/-- A list of pairs that can be read. -/
def RdP (w : World) (A : Option Addr) (L : List Wt) : Prop := ∀ i, i < L.length → ∃ b o, A = some ⟨b, o, none⟩ ∧ b < w.heap.size ∧ w.cell? ⟨b, o + i * 2, none⟩ = some (.int .i64 (gW L i).1) ∧ w.cell? ⟨b, o + i * 2 + 1, none⟩ = some (.int .i64 (gW L i).2)
theorem RdP.below {w w' : World} {A : Option Addr} {L : List Wt} (h : RdP w A L) (hb : Below w.heap.size w w') : RdP w' A L := fun i hi => by
  obtain ⟨b, o, e, hlt, h0, h1⟩ := h i hi
  exact ⟨b, o, e, Nat.lt_of_lt_of_le hlt hb.size, (hb.cell (p := ⟨b, o + i * 2, none⟩) hlt).trans h0, (hb.cell (p := ⟨b, o + i * 2 + 1, none⟩) hlt).trans h1⟩
theorem PairsAt.rd {w : World} {B : Nat} {sv : Value} {L : List Wt} (h : PairsAt w B sv L) : ∃ A cap, sv = .slice A L.length cap ∧ RdP w A L := by
  rcases h.2 with ⟨rfl, h0⟩ | ⟨b, cap, cur, rfl, hb, hg, hr⟩
  · exact ⟨none, 0, by rw [h0], fun i hi => absurd hi (by omega)⟩
  · have hlt : b < w.heap.size := by
      rcases Nat.lt_or_ge b w.heap.size with h' | h'
      · exact h'
      · rw [Array.getElem?_eq_none h'] at hg; cases hg
    refine ⟨_, _, rfl, fun i hi => ⟨b, 0, rfl, hlt, ?_, ?_⟩⟩
    · have hw := wc_0 L i [] hi
      rw [List.append_nil] at hw
      have := h.cells (g := b) rfl (i * 2) _ hw
      rw [Addr.add_lit] at this
      exact this
    · have hw := wc_1 L i [] hi
      rw [List.append_nil] at hw
      have := h.cells (g := b) rfl (i * 2 + 1) _ hw
      rw [Addr.add_lit] at this
      exact this
def SameP (a b : List Wt) (w : World) (e : Ending) (w' : World) : Prop := SameR (decide (a = b)) w e w'
def EqToP (a b : List Wt) (k : Nat) : Prop := ∀ i, i < k → gW a i = gW b i
theorem eq_of_eqToP {a b : List Wt} (hl : a.length = b.length) (h : EqToP a b a.length) : a = b := by
  apply List.ext_getElem hl
  intro i h1 h2
  have := h i h1
  rwa [gW_eq h1, gW_eq h2] at this
set_option maxHeartbeats 1000000 in
theorem same_pairs (A B : Option Addr) (a b : List Wt) (ca cb : Nat) (w : World) (ha : RdP w A a) (hb : RdP w B b) (hl : a.length ≤ 140737488351232) :
    Calls Try.prog 13 #[.slice A a.length ca, .slice B b.length cb] w fun e w' => SameP a b w e w' := by
  unfold SameP
  obtain ⟨n, hn⟩ : ∃ n, n = a.length := ⟨_, rfl⟩
  obtain ⟨m, hm⟩ : ∃ m, m = b.length := ⟨_, rfl⟩
  have HA := Lib.hid ha; have HB := Lib.hid hb; have HN := Lib.hid hn; have HM := Lib.hid hm
  rw [← hn] at hl
  rw [← hn, ← hm]
  clear ha hb
  by_cases he : n = m
  · subst he
    have hnn : ((n : Int) != (n : Int)) = false := by simp
    clear hn hm
    obtain ⟨r, hr⟩ : ∃ r, r = decide (a = b) := ⟨_, rfl⟩
    rw [← hr]
    have HR := Lib.hid hr
    clear hr
    go_enter Try.func13, Try.ntmps13
    go_wp2
    go_loopw [5] (fun iv wr => ∃ k : Nat, k ≤ n ∧ iv = .int .i64 k ∧ EqToP a b k ∧ Drawn w wr) (fun iv _ => n - (intOf iv).toNat)
    case atStart => exact ⟨0, by omega, rfl, fun i hi => absurd hi (by omega), 0, rfl⟩
    case round =>
      obtain ⟨k, hk, rfl, heq, hdr⟩ := hrel
      obtain ⟨q, rfl⟩ := hdr
      have HEQ := Lib.hid heq
      clear heq
      by_cases hlt : k < n
      · obtain ⟨b0, o0, rfl, hb0, c0, c1⟩ := HA.out k (by rw [← HN.out]; exact hlt)
        obtain ⟨b1, o1, rfl, hb1, d0, d1⟩ := HB.out k (by rw [← HM.out]; exact hlt)
        have hk0 : (0 : Int) ≤ (k : Int) := by omega
        have hk1 : (k : Int) < (n : Int) := by omega
        have hrun := fun W => pair_neqW W (gW a k) (gW b k)
        cases hx : eqW (gW a k) (gW b k)
        · have HX := Lib.hid hx
          go_wp2_with fail
          go_quiet (fail)
          go_wp2
          go_ret
          exact ⟨ret_bool (by rw [HR.out, decide_eq_false (fun e => by have h' := HX.out; rw [e, eqW_true.2 rfl] at h'; cases h')]), _, World.drewN_drewN _ _ _⟩
        · have HX := Lib.hid hx
          go_wp2_with fail
          go_quiet (fail)
          go_wp2
          exact ⟨⟨k + 1, by omega, by go_num, fun i hi => by rcases (by omega : i < k ∨ i = k) with h | h; exact HEQ.out i h; rw [h]; exact eqW_true.1 HX.out, ⟨_, rfl⟩⟩, by simp [intOf]; omega⟩
      · obtain rfl : k = n := by omega
        go_wp2
        go_ret
        exact ⟨ret_bool (by rw [HR.out, decide_eq_true (eq_of_eqToP (HN.out.symm.trans HM.out) (by rw [← HN.out]; exact HEQ.out))]), _, rfl⟩
  · have hnn : ((n : Int) != (m : Int)) = true := by simp; omega
    have hr : decide (a = b) = false := decide_eq_false (fun e => he (by rw [hn, hm, e]))
    rw [hr]
    clear hn hm hr he
    go_enter Try.func13, Try.ntmps13
    go_wp2
    go_ret
    exact ⟨rfl, 0, rfl⟩
end Go.Proofs.Ytbngcepekaicjaa
