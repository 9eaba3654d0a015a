/- Types that came in, opened as trees (printed by wip/gen_ty.py from XValOpen). -/
import Derived.Test.YtemhinagajfemaaCbkM17
import Derived.Test.YtemhinagajfemaaCbkM51
namespace Go.Proofs.Ytemhinagajfemaa
set_option linter.unusedVariables false
open Go.RowKit Go.ChangeShapes Go.WideShapes Go.Deep

section
variable {H : Type} {enc : TypeId × Value → H} {W : World}
set_option maxRecDepth 100000 in
set_option maxHeartbeats 1000000 in
theorem ty_open : ∀ (fuel : Nat) (cs : List Value) (x : DataW H × List MemPlace), DataW.trod enc Try.prog W 0 (fun _ => true) true fuel 61 cs = some x → Fits 61 x.1 → ∃ v : Ty, cs = v.cells ∧ v.In W
  | 0, cs, x, h, _ => by simp [DataW.trod] at h
  | fuel + 1, cs, x, h, hw => by
    obtain ⟨ys, n, hn, rfl, hl, hyl, hfs⟩ := DataW.trod_struct Try.underlying61 h
    have hnf : n = fuel := by omega
    rw [hnf] at hfs
    rw [show Try.prog.cellsOf 61 = 3 from by kernel_rfl] at hl
    obtain ⟨c0, c4, c5, rfl⟩ : ∃ c0 c4 c5, cs = [c0, c4, c5] := by
      match cs, hl with
      | [c0, c4, c5], _ => exact ⟨c0, c4, c5, rfl⟩
    have hget : ∀ i, i < 3 → ∃ y, ys[i]? = some y := fun i hi => ⟨ys[i]'(by rw [hyl]; exact hi), List.getElem?_eq_getElem _⟩
    obtain ⟨y0, g0⟩ := hget 0 (by omega); obtain ⟨y4, g4⟩ := hget 1 (by omega); obtain ⟨y5, g5⟩ := hget 2 (by omega)
    have t0 : DataW.trod enc Try.prog W 0 (fun _ => true) true fuel 3 (([c0, c4, c5].drop 0).take (Try.prog.cellsOf 3)) = some y0 := (hfs 0 _ rfl).trans g0
    have t4 : DataW.trod enc Try.prog W 0 (fun _ => true) true fuel 44 (([c0, c4, c5].drop 1).take (Try.prog.cellsOf 44)) = some y4 := (hfs 1 _ rfl).trans g4
    have t5 : DataW.trod enc Try.prog W 0 (fun _ => true) true fuel 59 (([c0, c4, c5].drop 2).take (Try.prog.cellsOf 59)) = some y5 := (hfs 2 _ rfl).trans g5
    have hp : ∀ (j : Nat) (u : TypeId) (y : DataW H × List MemPlace), _ → ys[j]? = some y → Fits u y.1 := fun j u y h1 h2 => parts_mem Try.underlying61 (j := j) h1 (by rw [List.getElem?_map, h2]; rfl) hw
    have w4 : Fits 44 y4.1 := hp 1 44 y4 rfl g4
    have w5 : Fits 59 y5.1 := hp 2 59 y5 rfl g5
    simp only [show Try.prog.cellsOf 3 = 1 from by kernel_rfl, List.drop_zero, List.take_succ_cons, List.take_zero] at t0
    simp only [show Try.prog.cellsOf 44 = 1 from by kernel_rfl, List.drop_succ_cons, List.drop_zero, List.take_succ_cons, List.take_zero] at t4
    simp only [show Try.prog.cellsOf 59 = 1 from by kernel_rfl, List.drop_succ_cons, List.drop_zero, List.take_succ_cons, List.take_zero] at t5
    obtain ⟨x0, e0, _, r0⟩ := DataW.trod_int Try.underlying3 t0
    obtain ⟨na, ns, e4, q1, q2, q3⟩ := names_open t4 w4
    injection e0 with e0 _; injection e4 with e4 _
    subst e0 e4
    have hin : ∀ (xa : Sl) (xs : List Ty), c5 = xa.val xs.length → xs.length ≤ 2513169434843 → xa.lies W 3 xs.length (fun i => (xs.getD i Ty.zero).cells) → (∀ y, y ∈ xs → y.In W) →
        ∃ v : Ty, [.int .i64 x0, na.val ns.length, c5] = v.cells ∧ v.In W := fun xa xs h1 h2 h3 h4 =>
      ⟨.mk x0 na ns xa xs, by rw [h1]; rfl, (Ty.in_iff W _).2 ⟨⟨i64_wf r0, q1, h2, q2⟩, q3, h3, h4⟩⟩
    rcases DataW.trod_slice Try.underlying59 t5 with ⟨e5, _⟩ | ⟨a, len, cap, elems, rest, n', hn', e5, hx5, hb5, hlc, hcm, hel, hi, hsp, _⟩
    · injection e5 with e5 _
      exact hin .no [] e5 (by simp) rfl (fun y hy => by simp at hy)
    · injection e5 with e5 _
      obtain ⟨hrl, hrj⟩ := hsp rfl
      have hbytes : cap * 56 ≤ 140737488351232 := by
        refine w5 _ ?_
        rw [hx5]
        have hbo : Try.prog.bytesOf 61 = 56 := by kernel_rfl
        simp only [DataW.weights, Try.underlying59, List.length_map, hbo, List.mem_cons]
        left
        rw [hel, hrl]
        omega
      have hcell : ∀ i, i < cap → ∃ cs', W.cells? 0 (a.add (i * 3)) 3 = some cs' := fun i hic => by
        rcases Nat.lt_or_ge i len with h' | h'
        · have := hi i h'
          rw [List.getElem?_eq_getElem (by omega)] at this
          obtain ⟨cs', h1, h2⟩ := Option.bind_eq_some_iff.1 this
          rw [show Try.prog.cellsOf 61 = 3 from by kernel_rfl] at h1
          exact ⟨cs', h1⟩
        · have := hrj (i - len) (by omega)
          rw [List.getElem?_eq_getElem (by omega)] at this
          obtain ⟨cs', h1, h2⟩ := Option.bind_eq_some_iff.1 this
          rw [show Try.prog.cellsOf 61 = 3 from by kernel_rfl, show len + (i - len) = i by omega] at h1
          exact ⟨cs', h1⟩
      have hv : ∀ i, i < len → ∃ v : Ty, W.cells? 0 (a.add (i * 3)) 3 = some v.cells ∧ v.In W := fun i hil => by
        have := hi i hil
        rw [List.getElem?_eq_getElem (by omega)] at this
        obtain ⟨cs', h1, h2⟩ := Option.bind_eq_some_iff.1 this
        rw [show Try.prog.cellsOf 61 = 3 from by kernel_rfl] at h1
        obtain ⟨v, rfl, hvi⟩ := ty_open fuel cs' (elems[i]'(by omega)) (DataW.trod_le (by omega) h2) (fun y hy => w5 y (by
          rw [hx5]
          simp only [DataW.weights, Try.underlying59, List.mem_cons, List.mem_append]
          right; left
          exact weightsAll_mem (List.mem_map.2 ⟨_, List.getElem_mem _, rfl⟩) hy))
        exact ⟨v, h1, hvi⟩
      obtain ⟨xs, hxl, hxs⟩ := exists_list len hv
      rcases Nat.eq_zero_or_pos cap with h0 | h0
      · obtain rfl : cap = 0 := h0
        obtain rfl : len = 0 := by omega
        exact hin (.odd a) [] e5 (by simp) rfl (fun y hy => by simp at hy)
      · obtain ⟨cs', hc'⟩ := hcell 0 h0
        obtain ⟨_, hcl, hat⟩ := World.cells?_some hc'
        have h00 := hat 0 (by omega)
        rw [List.getElem?_eq_getElem (by omega)] at h00
        have ha0 : (a.add (0 * 3)).add 0 = a := by simp [Addr.add]
        rw [ha0] at h00
        have hspot := cell_spot h00
        have hlt := cell_lt h00
        refine hin (.at_ a.block a.off cap) xs (by rw [e5, hxl]; show Value.slice (some a) len cap = _; rw [Sl.val, ← hspot]) (by omega) ⟨by omega, by unfold maxLen at hcm; exact hcm, fun i hi' j hj => ⟨?_, hlt⟩⟩ (fun y hy => ?_)
        · obtain ⟨_, _, hat⟩ := World.cells?_some (hxs i hi').1
          have := hat j hj
          rw [Go.Deep.add_add, hspot, Addr.add_lit] at this
          rw [this]
          simp [hi']
        · obtain ⟨i, hi', rfl⟩ := List.getElem_of_mem hy
          exact (hxs i hi').2

/-- An argument that is a type. -/
theorem arg_ty {v : Value} {cs : Array Value} (e : v = .agg cs) {d : DataW H} {p : List MemPlace} (h : DataW.Trod enc Try.prog W 0 (fun _ => true) true 61 v d p)
    {ts : List TypeId} {ds : List (DataW H)} (j : Nat) (hsz : (DataW.weightsEach Try.prog ts ds).all (· ≤ reachBytes) = true) (ht : ts[j]? = some 61) (hd : ds[j]? = some d) :
    ∃ u : Ty, v = u.agg ∧ u.In W := by
  subst e
  obtain ⟨fuel, hf⟩ := h
  obtain ⟨u, he, hu⟩ := ty_open fuel _ _ hf (fun y hy => by
    have := List.all_eq_true.1 hsz y (weightsEach_mem ht hd hy)
    exact of_decide_eq_true this)
  refine ⟨u, ?_, hu⟩
  simp only [Value.cells] at he
  show Value.agg cs = .agg _
  congr 1
  exact Array.ext' he
end
end Go.Proofs.Ytemhinagajfemaa
