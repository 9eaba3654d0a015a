/- A wheel that holds some, in order; a new one; somebody is added. -/
import Derived.Test.YtbngcepekaicjaaTmIdx
import Derived.Test.YtbngcepekaicjaaAppendAny
import Derived.Deep.RegionLaw
namespace Go.Proofs.Ytbngcepekaicjaa
set_option linter.unusedVariables false
open Go.RowKit

/-- A wheel at g, its heap in block F, holds L. -/
def Wheel (w : World) (g : Nat) (F : Option Nat) (L : List Wt) : Prop := ∃ v l, WhAt w g 0 v l ∧ v.ownBlock = F ∧ Hp l ∧ l.Perm L ∧ OkW L
/-- Blocks but g and F are as they were. -/
structure KeptF (w w' : World) (g : Nat) (F : Option Nat) : Prop where
  os : w'.os = w.os
  tape : w'.tape = w.tape
  output : w'.output = w.output
  size : w.heap.size ≤ w'.heap.size
  block : ∀ i, i < w.heap.size → i ≠ g → some i ≠ F → w'.heap[i]? = w.heap[i]?
def NewF (w : World) (F F' : Option Nat) : Prop := F' = F ∨ ∃ k, w.heap.size ≤ k ∧ F' = some k
def TurnedTo (g : Nat) (F : Option Nat) (L : List Wt) (w w' : World) : Prop := ∃ F', Wheel w' g F' L ∧ KeptF w w' g F ∧ NewF w F F'
section
variable {w w' w'' : World} {g : Nat} {F F' : Option Nat} {L : List Wt}
theorem KeptF.refl (w : World) (g : Nat) (F : Option Nat) : KeptF w w g F := ⟨rfl, rfl, rfl, Nat.le_refl _, fun _ _ _ _ => rfl⟩
theorem KeptF.of_below (h : Below w.heap.size w w') (g : Nat) (F : Option Nat) : KeptF w w' g F := ⟨h.os, h.tape, h.output, h.size, fun i hi _ _ => h.block i hi⟩
theorem Kept.f {v : Value} (h : Kept w w' g v) (hv : v.ownBlock = F) : KeptF w w' g F := ⟨h.os, h.tape, h.output, h.size, fun i hi h1 h2 => h.block i hi h1 (by rw [hv]; exact h2)⟩
theorem KeptF.trans (h : KeptF w w' g F) (k : KeptF w' w'' g F') (hn : NewF w F F') : KeptF w w'' g F :=
  ⟨k.os.trans h.os, k.tape.trans h.tape, k.output.trans h.output, Nat.le_trans h.size k.size, fun i hi h1 h2 => (k.block i (Nat.lt_of_lt_of_le hi h.size) h1 (by
    rcases hn with e | ⟨x, hx, e⟩
    · rw [e]; exact h2
    · rw [e]; intro e'; injection e' with e'; omega)).trans (h.block i hi h1 h2)⟩
theorem NewF.trans {F'' : Option Nat} (h : NewF w F F') (k : NewF w' F' F'') (hz : w.heap.size ≤ w'.heap.size) : NewF w F F'' := by
  rcases k with e | ⟨x, hx, e⟩
  · rw [NewF, e]; exact h
  · exact .inr ⟨x, by omega, e⟩
theorem TurnedTo.trans {L' : List Wt} (h : TurnedTo g F L w w') (k : ∀ F', Wheel w' g F' L → TurnedTo g F' L' w' w'') : TurnedTo g F L' w w'' := by
  obtain ⟨F', hw, hk, hn⟩ := h
  obtain ⟨F'', hw', hk', hn'⟩ := k F' hw
  exact ⟨F'', hw', hk.trans hk' hn, hn.trans hn' hk.size⟩
theorem Kept.below (h : Below w.heap.size w w') (k : KeptF w' w'' g F) : KeptF w w'' g F :=
  ⟨k.os.trans h.os, k.tape.trans h.tape, k.output.trans h.output, Nat.le_trans h.size k.size, fun i hi h1 h2 => (k.block i (Nat.lt_of_lt_of_le hi h.size) h1 h2).trans (h.block i hi)⟩
theorem KeptF.grown {row : Option Nat} (h : KeptF w w' g F) (k : w'.grownBy w'' row) (hr : row = F ∨ row = some g ∨ ∃ x, w.heap.size ≤ x ∧ row = some x) : KeptF w w'' g F :=
  ⟨k.os.trans h.os, k.tape.trans h.tape, k.output.trans h.output, Nat.le_trans h.size k.size, fun i hi h1 h2 => (k.block i (Nat.lt_of_lt_of_le hi h.size) (by
    rcases hr with e | e | ⟨x, hx, e⟩
    · rw [e]; exact h2
    · rw [e]; intro e'; injection e' with e'; exact h1 e'
    · rw [e]; intro e'; injection e' with e'; omega)).trans (h.block i hi h1 h2)⟩
theorem Wheel.ok (h : Wheel w g F L) : OkW L := by obtain ⟨_, _, _, _, _, _, h⟩ := h; exact h
theorem Wheel.lt (h : Wheel w g F L) : g < w.heap.size := by obtain ⟨_, _, h, _⟩ := h; exact h.1.lt
theorem Wheel.flt (h : Wheel w g F L) : ∀ k, F = some k → k < w.heap.size := fun k hk => by
  obtain ⟨v, l, h, rfl, _⟩ := h
  exact (h.2.lt k hk).2
theorem WhAt.keep {v : Value} {l : List Wt} (h : WhAt w g 0 v l) (hb : ∀ i, i < w.heap.size → (i = g ∨ some i = v.ownBlock) → w'.heap[i]? = w.heap[i]?) : WhAt w' g 0 v l := by
  refine ⟨(hb g h.1.lt (.inl rfl)).trans h.1, h.2.1, ?_⟩
  rcases h.2.2 with h0 | ⟨b, cap, cur, rfl, h1, h2, h3⟩
  · exact .inl h0
  · refine .inr ⟨b, cap, cur, rfl, h1, (hb b ?_ (.inr rfl)).trans h2, h3⟩
    rcases Nat.lt_or_ge b w.heap.size with h' | h'
    · exact h'
    · rw [Array.getElem?_eq_none h'] at h2; cases h2
theorem Wheel.keep (h : Wheel w g F L) (hb : ∀ i, i < w.heap.size → (i = g ∨ some i = F) → w'.heap[i]? = w.heap[i]?) : Wheel w' g F L := by
  obtain ⟨v, l, h, rfl, h1⟩ := h
  exact ⟨v, l, h.keep hb, rfl, h1⟩
theorem Wheel.below (h : Wheel w g F L) (hb : Below w.heap.size w w') : Wheel w' g F L := h.keep fun i hi _ => hb.block i hi
theorem TurnedTo.of_below (h : Wheel w g F L) (hb : Below w.heap.size w w') : TurnedTo g F L w w' := ⟨F, h.below hb, .of_below hb g F, .inl rfl⟩
end

def NewWheel (w : World) (e : Ending) (w' : World) : Prop := e = .returned (.pointer (some ⟨w.heap.size, 0, none⟩)) ∧ Wheel w' w.heap.size none [] ∧ Below w.heap.size w w'
theorem hp_nil : Hp [] := fun j _ h => absurd h (by simp)
theorem new_any (w : World) : Calls Try.prog 9 #[] w fun e w' => NewWheel w e w' := by
  go_enter Try.func9, Try.ntmps9
  go_wp2
  go_ret
  exact ⟨rfl, ⟨.slice none 0 0, [], ⟨Blk.new w _ _, World.ownsRow_nil _ 0 _ 2⟩, rfl, hp_nil, List.Perm.nil, okW_nil⟩, (Below.refl _ _).alloc (Nat.le_refl _) _⟩

theorem add_nil (id at_ : Int) (w : World) : Calls Try.prog 10 #[.pointer none, .int .i64 id, .int .i64 at_] w fun e w' => IntBelow 1 w e w' := by
  have hnp : ∀ (W : World), (binOp .eql 25 (.pointer none) (.pointer none)).run Try.prog W = .ok (.bool true) W := fun _ => rfl
  go_enter Try.func10, Try.ntmps10
  go_wp2
  go_ret
  exact ⟨rfl, (Below.refl _ _).alloc (Nat.le_refl _) _⟩
theorem add_bad (g : Nat) (id at_ : Int) (w : World) (h : badW id at_ = true) : Calls Try.prog 10 #[.pointer (some ⟨g, 0, none⟩), .int .i64 id, .int .i64 at_] w fun e w' => IntBelow 2 w e w' := by
  have hnp : ∀ (W : World) (a : Addr), (binOp .eql 25 (.pointer (some a)) (.pointer none)).run Try.prog W = .ok (.bool false) W := fun _ _ => rfl
  have hc : (decide (id < 0) = true) ∨ (decide (id < 0) = false ∧ decide (at_ < 0) = true) ∨ (decide (id < 0) = false ∧ decide (at_ < 0) = false ∧ decide (2199023255552 < at_) = true) := by
    unfold badW at h
    simp at h ⊢
    omega
  clear h
  rcases hc with h1 | ⟨h1, h2⟩ | ⟨h1, h2, h3⟩
  all_goals
    go_enter Try.func10, Try.ntmps10
    go_wp2
    go_ret
    exact ⟨rfl, (Below.refl _ _).alloc (Nat.le_refl _) _⟩
def AddNo (n : Int) (w : World) (e : Ending) (w' : World) : Prop := IntBelow n w e w'
set_option maxHeartbeats 1000000 in
theorem add_once (g : Nat) (v : Value) (l : List Wt) (id at_ : Int) (w : World) (h : WhAt w g 0 v l) (hl : l.length ≤ 200) (hb : badW id at_ = false) (hc : hasW l id = true ∨ 200 ≤ l.length) :
    Calls Try.prog 10 #[.pointer (some ⟨g, 0, none⟩), .int .i64 id, .int .i64 at_] w fun e w' => IntBelow (if hasW l id = true then 17 else 4) w e w' := by
  have hnp : ∀ (W : World) (a : Addr), (binOp .eql 25 (.pointer (some a)) (.pointer none)).run Try.prog W = .ok (.bool false) W := fun _ _ => rfl
  obtain ⟨h1, h2, h3⟩ : decide (id < 0) = false ∧ decide (at_ < 0) = false ∧ decide (2199023255552 < at_) = false := by unfold badW at hb; simp at hb ⊢; omega
  obtain ⟨A, cap, rfl, hr, hcap⟩ := h.lie
  have hgl := h.1.lt
  have hne : g ≠ w.heap.size := by omega
  have cg := h.1.cell 0
  simp only [List.getElem?_toArray, List.getElem?_cons_zero] at cg
  have hco := cont_any A cap l w.heap.size id (w.alloc (.cells #[.int .i64 id] 3)) (hr.below ((Below.refl _ _).alloc (Nat.le_refl _) _)) (by omega) ((Blk.new w 3 #[.int .i64 id]).cell 0) (by simp)
  have hcg : ∀ w', Below (w.alloc (.cells #[.int .i64 id] 3)).heap.size (w.alloc (.cells #[.int .i64 id] 3)) w' → w'.cell? ⟨g, 0, none⟩ = some (.slice A l.length cap) := fun w' hb' =>
    (hb'.cell (p := ⟨g, 0, none⟩) (by simp; omega)).trans ((World.cell?_alloc_lt w _ _ hgl).trans cg)
  obtain ⟨n, hn⟩ : ∃ n, n = l.length := ⟨_, rfl⟩
  rw [← hn] at hco cg hl hcg hc
  have HN := Lib.hid hn; have HCG := Lib.hid hcg
  clear hn hb h hr hcap hcg
  cases hh : hasW l id
  · have hfull : (200 : Int) ≤ (n : Int) := by rw [hh] at hc; rcases hc with h | h; cases h; omega
    rw [hh] at hco
    have HCO := Lib.hid hco
    clear hco hc hh
    go_enter Try.func10, Try.ntmps10
    go_wp2_with fail
    refine HCO.out.mono ?_
    rintro e w1 ⟨rfl, hl1⟩
    have cg1 := HCG.out w1 hl1
    have HL := Lib.hid (((Below.refl w.heap.size w).alloc (Nat.le_refl _) (.cells #[.int .i64 id] 3)).trans (hl1.mono (by simp)))
    clear hl1 cg
    go_wp2
    go_ret
    exact ⟨rfl, HL.out⟩
  · rw [hh] at hco
    have HCO := Lib.hid hco
    clear hco hc hh
    go_enter Try.func10, Try.ntmps10
    go_wp2_with fail
    refine HCO.out.mono ?_
    rintro e w1 ⟨rfl, hl1⟩
    have HL := Lib.hid (((Below.refl w.heap.size w).alloc (Nat.le_refl _) (.cells #[.int .i64 id] 3)).trans (hl1.mono (by simp)))
    clear hl1 cg
    go_wp2
    go_ret
    exact ⟨rfl, HL.out⟩
theorem wait_facts : (Try.prog.info? 57).map (fun i => (i.zero, i.size, i.bytes)) = some (some (.agg #[.int .i64 0, .int .i64 0]), 2, 16) := by kernel_rfl
end Go.Proofs.Ytbngcepekaicjaa
