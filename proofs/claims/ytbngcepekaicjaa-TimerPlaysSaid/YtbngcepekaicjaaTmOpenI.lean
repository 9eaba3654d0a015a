/- Lists of pairs that came in: their ids are ints. -/
import Derived.Test.YtbngcepekaicjaaTmOrdP
import Derived.Test.YtbngcepekaicjaaTmOpen
namespace Go.Proofs.Ytbngcepekaicjaa
open Go.RowKit Go.ChangeShapes Go.WideShapes Go.Deep
set_option linter.unusedVariables false
section
variable {H : Type} {enc : TypeId × Value → H} {W : World} {base : Nat}
set_option maxRecDepth 100000 in
theorem open_pairI {fuel : Nat} {cs : List Value} {x : DataW H × List MemPlace} (h : DataW.trod enc Try.prog W 0 (fun _ => true) true fuel 36 cs = some x) :
    ∃ y : Wt, cs = [.int .i64 y.1, .int .i64 y.2] ∧ WfI y.1 ∧ WfI y.2 := by
  obtain ⟨xs, m, _, _, hl, hxl, hf⟩ := DataW.trod_array Try.underlying36 h
  rw [show Try.prog.cellsOf 36 = 2 from by kernel_rfl] at hl
  match cs, hl with
  | [c0, c1], _ =>
    have f0 := hf 0 (by omega)
    have f1 := hf 1 (by omega)
    rw [show Try.prog.cellsOf 3 = 1 from by kernel_rfl] at f0 f1
    simp only [Nat.zero_mul, Nat.one_mul, List.drop_zero, List.drop_succ_cons, List.take_succ_cons, List.take_zero] at f0 f1
    rw [List.getElem?_eq_getElem (by omega)] at f0 f1
    obtain ⟨a, ea, _, wa⟩ := DataW.trod_int Try.underlying3 f0
    obtain ⟨b, eb, _, wb⟩ := DataW.trod_int Try.underlying3 f1
    simp only [List.cons.injEq, and_true] at ea eb
    have ha : WfI a := by
      have h2 : IntKind.i64.min ≤ a ∧ a ≤ IntKind.i64.max := by simpa [Lit.wf] using wa
      exact h2
    have hb : WfI b := by
      have h2 : IntKind.i64.min ≤ b ∧ b ≤ IntKind.i64.max := by simpa [Lit.wf] using wb
      exact h2
    exact ⟨(a, b), by rw [ea, eb], ha, hb⟩
theorem open_pairsI {v : Value} {d : DataW H} {p : List MemPlace} (hv : Value.okWide Try.prog W .any base 33 v) (h : DataW.Trod enc Try.prog W 0 (fun _ => true) true 33 v d p)
    {ts : List TypeId} {ds : List (DataW H)} (j : Nat) (hsz : (DataW.weightsEach Try.prog ts ds).all (· ≤ reachBytes) = true) (ht : ts[j]? = some 33) (hd : ds[j]? = some d) :
    ∃ A L cap, v = .slice A (List.length L) cap ∧ RdP W A L ∧ L.length ≤ 140737488351232 ∧ ∀ x, x ∈ L → WfI x.1 ∧ WfI x.2 := by
  obtain ⟨a0, len, cap, rfl⟩ := okWide_slice Try.underlying33 hv
  obtain ⟨fuel, hf⟩ := h
  rcases open_slice Try.underlying33 hf with ⟨hcs, hx⟩ | ⟨a, len', cap', m, n, D, Pl, hcs, hb, hl, hm, hmm, hx, hi⟩
  · simp [Value.cells] at hcs
    obtain ⟨rfl, rfl, rfl⟩ := hcs
    exact ⟨none, [], 0, rfl, fun k hk => absurd hk (by simp), by simp, fun x hx => by simp at hx⟩
  · simp [Value.cells] at hcs
    obtain ⟨rfl, rfl, rfl⟩ := hcs
    have hml : len ≤ m := by rw [hmm]; split <;> omega
    simp only [Prod.mk.injEq] at hx
    have hd' := hd
    rw [hx.1] at hd'
    have key : ∀ k, k < len → ∃ y : Wt, W.cell? (a.add (k * 2 + 0)) = some (.int .i64 y.1) ∧ W.cell? (a.add (k * 2 + 1)) = some (.int .i64 y.2) ∧ WfI y.1 ∧ WfI y.2 := by
      intro k hk
      obtain ⟨cs', hc, ht'⟩ := hi k (by omega)
      rw [show Try.prog.cellsOf 36 = 2 from by kernel_rfl] at hc
      obtain ⟨y, rfl, hy1, hy2⟩ := open_pairI ht'
      obtain ⟨_, _, hat⟩ := World.cells?_some hc
      have h0 := hat 0 (by omega)
      have h1 := hat 1 (by omega)
      rw [Go.Deep.add_add] at h0 h1
      exact ⟨y, h0, h1, hy1, hy2⟩
    obtain ⟨L, hL, hP⟩ := exists_list len key
    refine ⟨some a, L, cap, by rw [hL], fun k hk => ?_, ?_, fun x hx => ?_⟩
    · obtain ⟨c0, c1, _⟩ := hP k hk
      obtain ⟨b0, _⟩ := hP 0 (by omega)
      simp only [Nat.zero_mul, Nat.zero_add, Addr.add_zero'] at b0
      have hsp := cell_spot b0
      have hblk := cell_lt b0
      rw [hsp] at c0 c1
      rw [Addr.add_lit] at c0 c1
      rw [gW_eq hk]
      exact ⟨a.block, a.off, by rw [← hsp], hblk, by simpa using c0, by simpa [Nat.add_assoc] using c1⟩
    · have := sized_slice hsz ht hd' Try.underlying33
      rw [show Try.prog.bytesOf 36 = 16 from by kernel_rfl] at this
      have hr := reachBytes_lt
      simp at this
      omega
    · obtain ⟨i, hi, rfl⟩ := List.getElem_of_mem hx
      exact ⟨(hP i hi).2.2.1, (hP i hi).2.2.2⟩
end
end Go.Proofs.Ytbngcepekaicjaa
