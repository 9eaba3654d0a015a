/- How a script of calls that came in lies in memory. -/
import Derived.Test.YtiemfdglejenpaaRow
import Derived.Test.YtiemfdglejenpaaOps
import Derived.Test.YtiemfdglejenpaaOpen
namespace Go.Proofs.Ytiemfdglejenpaa
open Go.RowKit Go.ChangeShapes Go.WideShapes Go.Deep
set_option linter.unusedVariables false
section
variable {H : Type} {enc : TypeId × Value → H} {W : World} {base : Nat}
theorem open_ops {v : Value} {d : DataW H} {p : List MemPlace} (hv : Value.okWide Try.prog W .any base 22 v) (h : DataW.Trod enc Try.prog W 0 (fun _ => true) true 22 v d p)
    {ts : List TypeId} {ds : List (DataW H)} (j : Nat) (hsz : (DataW.weightsEach Try.prog ts ds).all (· ≤ reachBytes) = true) (ht : ts[j]? = some 22) (hd : ds[j]? = some d) :
    ∃ A L cap, v = .slice A (List.length L) cap ∧ OpsAt W W.heap.size A L ∧ L.length ≤ 140737488351232 := by
  obtain ⟨a0, len, cap, rfl⟩ := okWide_slice Try.underlying22 hv
  obtain ⟨fuel, hf⟩ := h
  rcases open_slice_fields Try.underlying22 Try.underlying31 (by kernel_rfl) (by kernel_rfl) hf with ⟨hcs, hx⟩ | ⟨a, len', cap', m, D, Pl, hcs, hb, hl, hm, hmm, hx, hi⟩
  · simp [Value.cells] at hcs
    obtain ⟨rfl, rfl, rfl⟩ := hcs
    exact ⟨none, [], 0, rfl, fun k hk => absurd hk (by simp), by simp⟩
  · simp [Value.cells] at hcs
    obtain ⟨rfl, rfl, rfl⟩ := hcs
    have hml : len ≤ m := by rw [hmm]; split <;> omega
    simp only [Prod.mk.injEq] at hx
    have hd' := hd
    rw [hx.1] at hd'
    have key : ∀ k, k < len → ∃ o : OpV, W.cell? (a.add (k * 4 + 0)) = some (.int .i64 o.kind) ∧ W.cell? (a.add (k * 4 + 1)) = some (.int .i64 o.i) ∧ W.cell? (a.add (k * 4 + 2)) = some (.int .i64 o.n) ∧
        W.cell? (a.add (k * 4 + 3)) = some (.string o.s) ∧ o.s.size ≤ 140737488355328 := by
      intro k hk
      obtain ⟨ys, n, hD, _, _, hf⟩ := hi k (by omega)
      obtain ⟨v0, y0, c0, _, t0⟩ := hf 0 _ rfl
      obtain ⟨v1, y1, c1, _, t1⟩ := hf 1 _ rfl
      obtain ⟨v2, y2, c2, _, t2⟩ := hf 2 _ rfl
      obtain ⟨v3, y3, c3, hy3, t3⟩ := hf 3 _ rfl
      obtain ⟨x0, e0, _, _⟩ := DataW.trod_int Try.underlying3 t0
      obtain ⟨x1, e1, _, _⟩ := DataW.trod_int Try.underlying3 t1
      obtain ⟨x2, e2, _, _⟩ := DataW.trod_int Try.underlying3 t2
      obtain ⟨x3, e3, hz3, _⟩ := DataW.trod_string Try.underlying9 t3
      simp at e0 e1 e2 e3
      subst e0 e1 e2 e3
      refine ⟨⟨x0, x1, x2, x3⟩, c0, c1, c2, c3, ?_⟩
      refine fits_of_mem hsz (weightsEach_mem ht hd' ?_)
      simp only [DataW.weights, Try.underlying22, List.mem_cons, List.mem_append]
      refine .inr (.inl (weightsAll_mem (d := D k) (by simp; exact ⟨k, hk, rfl⟩) ?_))
      rw [hD]
      simp only [DataW.weights, Try.underlying31]
      refine weightsEach_mem (j := 3) rfl (d := .lit (.string x3.data.toList)) (by simp [hy3, hz3]) ?_
      simp [DataW.weights]
    obtain ⟨L, hL, hP⟩ := exists_list len key
    refine ⟨some a, L, cap, by rw [hL], fun k hk => ?_, ?_⟩
    · obtain ⟨c0, c1, c2, c3, hs⟩ := hP k hk
      obtain ⟨b0, _⟩ := hP 0 (by omega)
      simp only [Nat.zero_mul, Nat.zero_add, Addr.add_zero'] at b0
      have hsp := cell_spot b0
      have hblk := cell_lt b0
      rw [hsp] at c0 c1 c2 c3
      rw [Addr.add_lit] at c0 c1 c2 c3
      exact ⟨a.block, a.off, by rw [← hsp], hblk, by simpa using c0, by simpa [Nat.add_assoc] using c1, by simpa [Nat.add_assoc] using c2, by simpa [Nat.add_assoc] using c3, hs⟩
    · have := sized_slice hsz ht hd' Try.underlying22
      rw [show Try.prog.bytesOf 31 = 40 from by kernel_rfl] at this
      have hr := reachBytes_lt
      simp at this
      omega
end
end Go.Proofs.Ytiemfdglejenpaa
