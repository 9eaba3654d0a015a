/- Lists of pairs that came in. -/
import Derived.Test.YtbngcepekaicjaaOpen
import Derived.Test.YtbngcepekaicjaaTmSame
import Derived.Test.YtbngcepekaicjaaRow
namespace Go.Proofs.Ytbngcepekaicjaa
open Go.RowKit Go.ChangeShapes Go.WideShapes Go.Deep
set_option linter.unusedVariables false
section
variable {H : Type} {enc : TypeId × Value → H} {W : World} {base : Nat}
set_option maxRecDepth 100000 in
theorem open_pair {fuel : Nat} {cs : List Value} {x : DataW H × List MemPlace} (h : DataW.trod enc Try.prog W 0 (fun _ => true) true fuel 36 cs = some x) :
    ∃ y : Wt, cs = [.int .i64 y.1, .int .i64 y.2] ∧ y.1 ≤ 9223372036854775807 ∧ y.2 ≤ 9223372036854775807 := by
  obtain ⟨xs, m, _, _, hl, hxl, hf⟩ := DataW.trod_array Try.underlying36 h
  rw [show Try.prog.cellsOf 36 = 2 from by kernel_rfl] at hl
  match cs, hl with
  | [c0, c1], _ =>
    have f0 := hf 0 (by omega)
    have f1 := hf 1 (by omega)
    rw [show Try.prog.cellsOf 3 = 1 from by kernel_rfl] at f0 f1
    simp only [Nat.zero_mul, Nat.one_mul, List.drop_zero, List.drop_succ_cons, List.take_succ_cons, List.take_zero] at f0 f1
    rw [List.getElem?_eq_getElem (by omega)] at f0 f1
    obtain ⟨a, ea, _, wa⟩ := DataW.trod_int Try.underlying3 f0
    obtain ⟨b, eb, _, wb⟩ := DataW.trod_int Try.underlying3 f1
    simp only [List.cons.injEq, and_true] at ea eb
    have ha : a ≤ 9223372036854775807 := by
      have h2 : a ≤ IntKind.i64.max := by simp [Lit.wf] at wa; exact wa.2
      have h3 : IntKind.i64.max = 9223372036854775807 := by decide
      omega
    have hb : b ≤ 9223372036854775807 := by
      have h2 : b ≤ IntKind.i64.max := by simp [Lit.wf] at wb; exact wb.2
      have h3 : IntKind.i64.max = 9223372036854775807 := by decide
      omega
    exact ⟨(a, b), by rw [ea, eb], ha, hb⟩
theorem open_pairs {v : Value} {d : DataW H} {p : List MemPlace} (hv : Value.okWide Try.prog W .any base 33 v) (h : DataW.Trod enc Try.prog W 0 (fun _ => true) true 33 v d p)
    {ts : List TypeId} {ds : List (DataW H)} (j : Nat) (hsz : (DataW.weightsEach Try.prog ts ds).all (· ≤ reachBytes) = true) (ht : ts[j]? = some 33) (hd : ds[j]? = some d) :
    ∃ A L cap, v = .slice A (List.length L) cap ∧ RdP W A L ∧ L.length ≤ 140737488351232 ∧ ∀ x, x ∈ L → x.1 ≤ 9223372036854775807 ∧ x.2 ≤ 9223372036854775807 := by
  obtain ⟨a0, len, cap, rfl⟩ := okWide_slice Try.underlying33 hv
  obtain ⟨fuel, hf⟩ := h
  rcases open_slice Try.underlying33 hf with ⟨hcs, hx⟩ | ⟨a, len', cap', m, n, D, Pl, hcs, hb, hl, hm, hmm, hx, hi⟩
  · simp [Value.cells] at hcs
    obtain ⟨rfl, rfl, rfl⟩ := hcs
    exact ⟨none, [], 0, rfl, fun k hk => absurd hk (by simp), by simp, fun x hx => by simp at hx⟩
  · simp [Value.cells] at hcs
    obtain ⟨rfl, rfl, rfl⟩ := hcs
    have hml : len ≤ m := by rw [hmm]; split <;> omega
    simp only [Prod.mk.injEq] at hx
    have hd' := hd
    rw [hx.1] at hd'
    have key : ∀ k, k < len → ∃ y : Wt, W.cell? (a.add (k * 2 + 0)) = some (.int .i64 y.1) ∧ W.cell? (a.add (k * 2 + 1)) = some (.int .i64 y.2) ∧ y.1 ≤ 9223372036854775807 ∧ y.2 ≤ 9223372036854775807 := by
      intro k hk
      obtain ⟨cs', hc, ht'⟩ := hi k (by omega)
      rw [show Try.prog.cellsOf 36 = 2 from by kernel_rfl] at hc
      obtain ⟨y, rfl, hy1, hy2⟩ := open_pair ht'
      obtain ⟨_, _, hat⟩ := World.cells?_some hc
      have h0 := hat 0 (by omega)
      have h1 := hat 1 (by omega)
      rw [Go.Deep.add_add] at h0 h1
      exact ⟨y, h0, h1, hy1, hy2⟩
    obtain ⟨L, hL, hP⟩ := exists_list len key
    refine ⟨some a, L, cap, by rw [hL], fun k hk => ?_, ?_, fun x hx => ?_⟩
    · obtain ⟨c0, c1, _⟩ := hP k hk
      obtain ⟨b0, _⟩ := hP 0 (by omega)
      simp only [Nat.zero_mul, Nat.zero_add, Addr.add_zero'] at b0
      have hsp := cell_spot b0
      have hblk := cell_lt b0
      rw [hsp] at c0 c1
      rw [Addr.add_lit] at c0 c1
      rw [gW_eq hk]
      exact ⟨a.block, a.off, by rw [← hsp], hblk, by simpa using c0, by simpa [Nat.add_assoc] using c1⟩
    · have := sized_slice hsz ht hd' Try.underlying33
      rw [show Try.prog.bytesOf 36 = 16 from by kernel_rfl] at this
      have hr := reachBytes_lt
      simp at this
      omega
    · obtain ⟨i, hi, rfl⟩ := List.getElem_of_mem hx
      exact ⟨(hP i hi).2.2.1, (hP i hi).2.2.2⟩
end
end Go.Proofs.Ytbngcepekaicjaa
