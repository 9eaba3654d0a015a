/- A message's twelve cells stored at once. -/
import Derived.Test.YtemhinagajfemaaPost2
import Derived.Laws.CopyRow
import Derived.Laws.Tables
namespace Go.Proofs.Ytemhinagajfemaa
set_option linter.unusedVariables false
open Go.RowKit

theorem let_size : (Try.prog.info? 104).map (·.size) = some 12 := by kernel_rfl
theorem store_letter {W : World} {g o : Nat} {cur : Array Value} {T : TypeId} {a0 a1 a2 a3 a4 a5 b0 b1 b2 b3 b4 b5 : Value} (hg : W.heap[g]? = some (.cells cur T (0, 0))) (hl : o + 12 ≤ cur.size)
    (h1 : ∀ x, x ∈ [a0, a1, a2, a3, a4, a5, b0, b1, b2, b3, b4, b5] → x.oneCell' = true) :
    (storeVar 104 ⟨g, o, none⟩ (.agg #[a0, a1, a2, a3, a4, a5, b0, b1, b2, b3, b4, b5])).run Try.prog W = .ok () (W.setRow g (cur.toList.take o ++ [a0, a1, a2, a3, a4, a5, b0, b1, b2, b3, b4, b5] ++ cur.toList.drop (o + 12)).toArray) := by
  have := run_storeCells_at (P := Try.prog) g o T [a0, a1, a2, a3, a4, a5, b0, b1, b2, b3, b4, b5] 0 cur W hg (by simpa using hl) h1
  have hs := let_size
  cases hq : Try.prog.info? 104 with
  | none => rw [hq] at hs; cases hs
  | some i =>
    have hz : i.size = 12 := by rw [hq] at hs; simpa using hs
    simp [storeVar, sizeOf, typeInfo, hq, Value.cells, hz, this]
theorem twelve {W : World} {g o : Nat} {T : TypeId} {arr : Array Value} (hb : Blk W g T arr) (hl : o + 12 ≤ arr.size) (u0 u1 u2 u3 u4 u5 u6 u7 u8 u9 u10 u11 : Value) :
    (∃ x, W.cell? ⟨g, o, none⟩ = some x) ∧ W.frozen? ⟨g, o, none⟩ = false ∧
    (∃ x, (W.setCell ⟨g, o, none⟩ u0).cell? ⟨g, o + 1, none⟩ = some x) ∧ (W.setCell ⟨g, o, none⟩ u0).frozen? ⟨g, o + 1, none⟩ = false ∧
    (∃ x, ((W.setCell ⟨g, o, none⟩ u0).setCell ⟨g, o + 1, none⟩ u1).cell? ⟨g, o + 2, none⟩ = some x) ∧ ((W.setCell ⟨g, o, none⟩ u0).setCell ⟨g, o + 1, none⟩ u1).frozen? ⟨g, o + 2, none⟩ = false ∧
    (∃ x, (((W.setCell ⟨g, o, none⟩ u0).setCell ⟨g, o + 1, none⟩ u1).setCell ⟨g, o + 2, none⟩ u2).cell? ⟨g, o + 3, none⟩ = some x) ∧ (((W.setCell ⟨g, o, none⟩ u0).setCell ⟨g, o + 1, none⟩ u1).setCell ⟨g, o + 2, none⟩ u2).frozen? ⟨g, o + 3, none⟩ = false ∧
    (∃ x, ((((W.setCell ⟨g, o, none⟩ u0).setCell ⟨g, o + 1, none⟩ u1).setCell ⟨g, o + 2, none⟩ u2).setCell ⟨g, o + 3, none⟩ u3).cell? ⟨g, o + 4, none⟩ = some x) ∧ ((((W.setCell ⟨g, o, none⟩ u0).setCell ⟨g, o + 1, none⟩ u1).setCell ⟨g, o + 2, none⟩ u2).setCell ⟨g, o + 3, none⟩ u3).frozen? ⟨g, o + 4, none⟩ = false ∧
    (∃ x, (((((W.setCell ⟨g, o, none⟩ u0).setCell ⟨g, o + 1, none⟩ u1).setCell ⟨g, o + 2, none⟩ u2).setCell ⟨g, o + 3, none⟩ u3).setCell ⟨g, o + 4, none⟩ u4).cell? ⟨g, o + 5, none⟩ = some x) ∧ (((((W.setCell ⟨g, o, none⟩ u0).setCell ⟨g, o + 1, none⟩ u1).setCell ⟨g, o + 2, none⟩ u2).setCell ⟨g, o + 3, none⟩ u3).setCell ⟨g, o + 4, none⟩ u4).frozen? ⟨g, o + 5, none⟩ = false ∧
    (∃ x, ((((((W.setCell ⟨g, o, none⟩ u0).setCell ⟨g, o + 1, none⟩ u1).setCell ⟨g, o + 2, none⟩ u2).setCell ⟨g, o + 3, none⟩ u3).setCell ⟨g, o + 4, none⟩ u4).setCell ⟨g, o + 5, none⟩ u5).cell? ⟨g, o + 6, none⟩ = some x) ∧ ((((((W.setCell ⟨g, o, none⟩ u0).setCell ⟨g, o + 1, none⟩ u1).setCell ⟨g, o + 2, none⟩ u2).setCell ⟨g, o + 3, none⟩ u3).setCell ⟨g, o + 4, none⟩ u4).setCell ⟨g, o + 5, none⟩ u5).frozen? ⟨g, o + 6, none⟩ = false ∧
    (∃ x, (((((((W.setCell ⟨g, o, none⟩ u0).setCell ⟨g, o + 1, none⟩ u1).setCell ⟨g, o + 2, none⟩ u2).setCell ⟨g, o + 3, none⟩ u3).setCell ⟨g, o + 4, none⟩ u4).setCell ⟨g, o + 5, none⟩ u5).setCell ⟨g, o + 6, none⟩ u6).cell? ⟨g, o + 7, none⟩ = some x) ∧ (((((((W.setCell ⟨g, o, none⟩ u0).setCell ⟨g, o + 1, none⟩ u1).setCell ⟨g, o + 2, none⟩ u2).setCell ⟨g, o + 3, none⟩ u3).setCell ⟨g, o + 4, none⟩ u4).setCell ⟨g, o + 5, none⟩ u5).setCell ⟨g, o + 6, none⟩ u6).frozen? ⟨g, o + 7, none⟩ = false ∧
    (∃ x, ((((((((W.setCell ⟨g, o, none⟩ u0).setCell ⟨g, o + 1, none⟩ u1).setCell ⟨g, o + 2, none⟩ u2).setCell ⟨g, o + 3, none⟩ u3).setCell ⟨g, o + 4, none⟩ u4).setCell ⟨g, o + 5, none⟩ u5).setCell ⟨g, o + 6, none⟩ u6).setCell ⟨g, o + 7, none⟩ u7).cell? ⟨g, o + 8, none⟩ = some x) ∧ ((((((((W.setCell ⟨g, o, none⟩ u0).setCell ⟨g, o + 1, none⟩ u1).setCell ⟨g, o + 2, none⟩ u2).setCell ⟨g, o + 3, none⟩ u3).setCell ⟨g, o + 4, none⟩ u4).setCell ⟨g, o + 5, none⟩ u5).setCell ⟨g, o + 6, none⟩ u6).setCell ⟨g, o + 7, none⟩ u7).frozen? ⟨g, o + 8, none⟩ = false ∧
    (∃ x, (((((((((W.setCell ⟨g, o, none⟩ u0).setCell ⟨g, o + 1, none⟩ u1).setCell ⟨g, o + 2, none⟩ u2).setCell ⟨g, o + 3, none⟩ u3).setCell ⟨g, o + 4, none⟩ u4).setCell ⟨g, o + 5, none⟩ u5).setCell ⟨g, o + 6, none⟩ u6).setCell ⟨g, o + 7, none⟩ u7).setCell ⟨g, o + 8, none⟩ u8).cell? ⟨g, o + 9, none⟩ = some x) ∧ (((((((((W.setCell ⟨g, o, none⟩ u0).setCell ⟨g, o + 1, none⟩ u1).setCell ⟨g, o + 2, none⟩ u2).setCell ⟨g, o + 3, none⟩ u3).setCell ⟨g, o + 4, none⟩ u4).setCell ⟨g, o + 5, none⟩ u5).setCell ⟨g, o + 6, none⟩ u6).setCell ⟨g, o + 7, none⟩ u7).setCell ⟨g, o + 8, none⟩ u8).frozen? ⟨g, o + 9, none⟩ = false ∧
    (∃ x, ((((((((((W.setCell ⟨g, o, none⟩ u0).setCell ⟨g, o + 1, none⟩ u1).setCell ⟨g, o + 2, none⟩ u2).setCell ⟨g, o + 3, none⟩ u3).setCell ⟨g, o + 4, none⟩ u4).setCell ⟨g, o + 5, none⟩ u5).setCell ⟨g, o + 6, none⟩ u6).setCell ⟨g, o + 7, none⟩ u7).setCell ⟨g, o + 8, none⟩ u8).setCell ⟨g, o + 9, none⟩ u9).cell? ⟨g, o + 10, none⟩ = some x) ∧ ((((((((((W.setCell ⟨g, o, none⟩ u0).setCell ⟨g, o + 1, none⟩ u1).setCell ⟨g, o + 2, none⟩ u2).setCell ⟨g, o + 3, none⟩ u3).setCell ⟨g, o + 4, none⟩ u4).setCell ⟨g, o + 5, none⟩ u5).setCell ⟨g, o + 6, none⟩ u6).setCell ⟨g, o + 7, none⟩ u7).setCell ⟨g, o + 8, none⟩ u8).setCell ⟨g, o + 9, none⟩ u9).frozen? ⟨g, o + 10, none⟩ = false ∧
    (∃ x, (((((((((((W.setCell ⟨g, o, none⟩ u0).setCell ⟨g, o + 1, none⟩ u1).setCell ⟨g, o + 2, none⟩ u2).setCell ⟨g, o + 3, none⟩ u3).setCell ⟨g, o + 4, none⟩ u4).setCell ⟨g, o + 5, none⟩ u5).setCell ⟨g, o + 6, none⟩ u6).setCell ⟨g, o + 7, none⟩ u7).setCell ⟨g, o + 8, none⟩ u8).setCell ⟨g, o + 9, none⟩ u9).setCell ⟨g, o + 10, none⟩ u10).cell? ⟨g, o + 11, none⟩ = some x) ∧ (((((((((((W.setCell ⟨g, o, none⟩ u0).setCell ⟨g, o + 1, none⟩ u1).setCell ⟨g, o + 2, none⟩ u2).setCell ⟨g, o + 3, none⟩ u3).setCell ⟨g, o + 4, none⟩ u4).setCell ⟨g, o + 5, none⟩ u5).setCell ⟨g, o + 6, none⟩ u6).setCell ⟨g, o + 7, none⟩ u7).setCell ⟨g, o + 8, none⟩ u8).setCell ⟨g, o + 9, none⟩ u9).setCell ⟨g, o + 10, none⟩ u10).frozen? ⟨g, o + 11, none⟩ = false := by
  have k0 := hb
  have k1 := k0.set_ o u0
  have k2 := k1.set_ (o + 1) u1
  have k3 := k2.set_ (o + 2) u2
  have k4 := k3.set_ (o + 3) u3
  have k5 := k4.set_ (o + 4) u4
  have k6 := k5.set_ (o + 5) u5
  have k7 := k6.set_ (o + 6) u6
  have k8 := k7.set_ (o + 7) u7
  have k9 := k8.set_ (o + 8) u8
  have k10 := k9.set_ (o + 9) u9
  have k11 := k10.set_ (o + 10) u10
  exact ⟨⟨_, (k0.cell o).trans (Array.getElem?_eq_getElem (by omega))⟩, k0.frozen o, ⟨_, (k1.cell (o + 1)).trans (Array.getElem?_eq_getElem (by simp; omega))⟩, k1.frozen (o + 1), ⟨_, (k2.cell (o + 2)).trans (Array.getElem?_eq_getElem (by simp; omega))⟩, k2.frozen (o + 2), ⟨_, (k3.cell (o + 3)).trans (Array.getElem?_eq_getElem (by simp; omega))⟩, k3.frozen (o + 3), ⟨_, (k4.cell (o + 4)).trans (Array.getElem?_eq_getElem (by simp; omega))⟩, k4.frozen (o + 4), ⟨_, (k5.cell (o + 5)).trans (Array.getElem?_eq_getElem (by simp; omega))⟩, k5.frozen (o + 5), ⟨_, (k6.cell (o + 6)).trans (Array.getElem?_eq_getElem (by simp; omega))⟩, k6.frozen (o + 6), ⟨_, (k7.cell (o + 7)).trans (Array.getElem?_eq_getElem (by simp; omega))⟩, k7.frozen (o + 7), ⟨_, (k8.cell (o + 8)).trans (Array.getElem?_eq_getElem (by simp; omega))⟩, k8.frozen (o + 8), ⟨_, (k9.cell (o + 9)).trans (Array.getElem?_eq_getElem (by simp; omega))⟩, k9.frozen (o + 9), ⟨_, (k10.cell (o + 10)).trans (Array.getElem?_eq_getElem (by simp; omega))⟩, k10.frozen (o + 10), ⟨_, (k11.cell (o + 11)).trans (Array.getElem?_eq_getElem (by simp; omega))⟩, k11.frozen (o + 11)⟩
end Go.Proofs.Ytemhinagajfemaa
