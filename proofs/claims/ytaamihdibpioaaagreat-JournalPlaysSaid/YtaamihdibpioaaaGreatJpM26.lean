/- How arguments that came in lie in memory: slices of structs whose fields are one cell each. Plain lemmas, no program in sight. -/
import Derived.Test.YtaamihdibpioaaaGreatJpM25
import Derived.Deep.Slices
import Derived.Deep.Fields
import Derived.ChangeSame
set_option maxRecDepth 100000
set_option maxHeartbeats 40000000
namespace Go.Proofs.YtaamihdibpioaaaGreat
open Go.RowKit Go.ChangeShapes Go.WideShapes Go.Deep
section
variable {H : Type} {enc : TypeId × Value -> H} {P : Program} {w : World} {base : Nat} {spare : Nat -> Bool} {held : Bool}
end
theorem exists_list {α : Type} {P : Nat -> α -> Prop} : ∀ (n : Nat), (∀ k, k < n -> ∃ o, P k o) -> ∃ L : List α, L.length = n /\ ∀ (k : Nat) (h : k < L.length), P k L[k]
 | 0,_ => ⟨[],rfl,fun k h => absurd h (by simp)⟩
 | n + 1, h => by
  obtain ⟨L,hl,hp⟩ := exists_list n (fun k hk => h k (by omega))
  obtain ⟨o,ho⟩ := h n (by omega)
  refine ⟨L ++ [o],by simp [hl],fun k hk => ?_⟩
  by_cases hk' : k < L.length
  ·rw [List.getElem_append_left hk']; exact hp k hk'
  ·have e : k = n := by simp at hk; omega
   subst e; rw [List.getElem_append_right (by omega)]
   simpa [hl] using ho
theorem weightsAll_mem {H : Type} {P : Program} {e : TypeId} {d : DataW H} {x : Nat} : ∀ {l : List (DataW H)}, d ∈ l -> x ∈ DataW.weights P e d -> x ∈ DataW.weightsAll P e l
 | [],h,_ => by simp at h
 | a :: l, h, hx => by
  simp only [DataW.weightsAll,List.mem_append]
  rcases List.mem_cons.1 h with rfl | h
  ·exact .inl hx
  ·exact .inr (weightsAll_mem h hx)
theorem weightsEach_mem {H : Type} {P : Program} {t : TypeId} {d : DataW H} {x : Nat} : ∀ {ts : List TypeId} {ds : List (DataW H)} {j : Nat}, ts[j]? = some t -> ds[j]? = some d -> x ∈ DataW.weights P t d -> x ∈ DataW.weightsEach P ts ds
 | [],ds,j,h,_,_ => by simp at h
 | t' :: ts, [],j,_,h,_ => by simp at h
 | t' :: ts, d' :: ds, 0, h, h', hx => by
  simp at h h'
  subst h h'; simp only [DataW.weightsEach,List.mem_append]; exact .inl hx
 | t' :: ts, d' :: ds, j + 1, h, h', hx => by
  simp only [DataW.weightsEach,List.mem_append]; exact .inr (weightsEach_mem (by simpa using h) (by simpa using h') hx)
theorem cell_lt {w : World} {a : Addr} {v : Value} (h : w.cell? a = some v) : a.block < w.heap.size := by
 rcases Nat.lt_or_ge a.block w.heap.size with hlt | hge
 ·exact hlt
 ·simp [World.cell?,Array.getElem?_eq_none hge] at h
theorem cell_spot {w : World} {a : Addr} {v : Value} (h : w.cell? a = some v) : a = ⟨a.block, a.off, none⟩ := by
 obtain ⟨b,o,s⟩ := a
 cases s with
 | none => rfl
 | some x => simp [World.cell?] at h; split at h <;> simp_all
end Go.Proofs.YtaamihdibpioaaaGreat
