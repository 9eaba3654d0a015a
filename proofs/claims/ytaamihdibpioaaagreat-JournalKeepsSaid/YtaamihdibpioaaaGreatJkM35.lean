/- A row whose frozen stretch lies behind its end (what a conversion to bytes makes), and a byte that is appended to it. -/
import Derived.Test.YtaamihdibpioaaaGreatJkM8
import Derived.Test.YtaamihdibpioaaaGreatJkM34
import Derived.Lib.ConvBytes
import Derived.Lib.FrozenHead
namespace Go.Proofs.YtaamihdibpioaaaGreat
set_option linter.unusedVariables false
open Go.RowKit

/-- v is a slice of n cells xs in a row of the call's own; what is frozen of the row lies behind it. -/
def OwnT (w : World) (base : Nat) (e : TypeId) (v : Value) (n : Nat) (xs : List Value) : Prop :=
  xs.length = n ∧ ∃ g cap cur fz, v = .slice (some ⟨g, 0, none⟩) n cap ∧ base ≤ g ∧ w.heap[g]? = some (.cells cur e fz) ∧ (fz.2 = 0 ∨ cap ≤ fz.1) ∧ n ≤ cap ∧ cap ≤ maxLen ∧ cur.size = cap ∧ cur.toList.take n = xs

section
variable {w : World} {base : Nat} {e : TypeId} {v : Value} {n : Nat} {xs : List Value}
theorem OwnT.kept {w' : World} {row : Option Nat} (h : OwnT w base e v n xs) (hg : w.grownBy w' row) (hne : v.ownBlock ≠ row) : OwnT w' base e v n xs := by
  obtain ⟨hl, g, cap, cur, fz, rfl, hb, hgg, rest⟩ := h
  refine ⟨hl, g, cap, cur, fz, rfl, hb, ?_, rest⟩
  rw [hg.block g (Array.getElem?_eq_some_iff.1 hgg).1 (by simpa [Value.ownBlock] using hne)]
  exact hgg
theorem OwnT.alloc (h : OwnT w base e v n xs) (o : Obj) : OwnT (w.alloc o) base e v n xs :=
  h.kept (World.grownBy_alloc w o none) (by obtain ⟨hl, g, cap, cur, fz, rfl, _⟩ := h; simp [Value.ownBlock])
theorem OwnT.cells {g : Nat} (h : OwnT w base e v n xs) (hg : v.ownBlock = some g) : ∀ j u, xs[j]? = some u → w.cell? ((⟨g, 0, none⟩ : Addr).add j) = some u := by
  intro j u hu
  obtain ⟨hl, g', cap, cur, fz, rfl, hb, hgg, _, _, _, _, htake⟩ := h
  simp [Value.ownBlock] at hg
  subst hg
  have hadd : (⟨g', 0, none⟩ : Addr).add j = ⟨g', j, none⟩ := by unfold Addr.add; split <;> simp_all
  rw [hadd, cell_of_row w g' j cur e fz hgg]
  rw [← htake, List.getElem?_take] at hu
  split at hu
  · simpa using hu
  · cases hu
theorem OwnT.ge (h : OwnT w base e v n xs) : ∀ k, v.ownBlock = some k → base ≤ k := by
  intro k hk
  obtain ⟨hl, g', cap, cur, fz, rfl, hb, _⟩ := h
  simp [Value.ownBlock] at hk
  omega
end

theorem OwnT.bytes (w : World) (base : Nat) (e : TypeId) (s : ByteArray) (hb : base ≤ w.heap.size) (hs : s.size ≤ maxLen) :
    OwnT (Lib.bytesWorld w e s) base e (.slice (some ⟨w.heap.size, 0, none⟩) s.size (grownCap w s.size 0 e)) s.size (Lib.byteCells s.data.toList) := by
  have hge := grownCap_ge w s.size 0 e
  have hds : s.data.size = s.size := rfl
  have hcs : (Lib.bytesCells w e s).size = grownCap w s.size 0 e := by
    unfold Lib.bytesCells
    simp only [Array.size_append, Array.size_map, Array.size_replicate]
    omega
  refine ⟨by simp [Lib.byteCells], w.heap.size, _, _, _, rfl, hb, Lib.bytesWorld_at_new w e s, .inr (by show _ ≤ (Lib.bytesCells w e s).size; omega), hge, grownCap_le_maxLen w s.size 0 e hs, hcs, ?_⟩
  unfold Lib.bytesCells
  have hl : (Array.map (fun b : UInt8 => Value.int .u8 b.toNat) s.data).toList.length = s.size := by simp
  rw [Array.toList_append, ← hl, List.take_left, Array.toList_map]
  rfl

section
variable {P : Program} (w : World)
end

end Go.Proofs.YtaamihdibpioaaaGreat
