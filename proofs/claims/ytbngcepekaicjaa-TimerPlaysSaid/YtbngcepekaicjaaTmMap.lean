/- Maps from int to int that the call made, told by a function. -/
import Derived.Test.YtbngcepekaicjaaTmTwo
import Derived.Maps.OwnSet
import Derived.Maps.OwnOps
namespace Go.Proofs.Ytbngcepekaicjaa
set_option linter.unusedVariables false
open Go.RowKit Go.Maps Go.ChangeMaps Go.MapKept

theorem lawI : Keyed Try.prog 3 := int_keyed Try.underlying3
theorem zeroI (w : World) : (zeroValue 3).run Try.prog w = .ok (.int .i64 0) w := by kernel_rfl
def WfI (a : Int) : Prop := -9223372036854775808 ≤ a ∧ a ≤ 9223372036854775807
theorem WfI.wf {a : Int} (h : WfI a) : (Lit.int .i64 a).wf = true := WalkArith.wf_i64 h
theorem keyI {a : Int} (h : WfI a) : keyOf Try.prog 3 (.int .i64 a) = some (.int .i64 a) := keyOf_int_mk Try.underlying3 h.wf
theorem litI {a b : Int} (h : a ≠ b) : (Lit.int .i64 a) ≠ .int .i64 b := fun e => h (by injection e)
/-- Block B is a map that holds f, s entries; at most n were ever laid. -/
def MapO (w : World) (B n : Nat) (f : Int → Option Int) (s : Nat) : Prop :=
  ∃ D : DataW Unit, w.ownsMap Try.prog 3 (plainElem Try.prog 3) B n D ∧ Maps.size D = s ∧ ∀ id, WfI id → Maps.has D (.int .i64 id) = (f id).isSome ∧ D.atKey (.int .i64 id) (.lit (.int .i64 0)) = .lit (.int .i64 ((f id).getD 0))
section
variable {w w' : World} {B n s : Nat} {f g : Int → Option Int}
theorem MapO.made (w : World) : MapO (w.alloc (.map #[] 0)) w.heap.size 0 (fun _ => none) 0 := ⟨_, World.ownsMap_made _ _ _ _, rfl, fun id hid => ⟨rfl, rfl⟩⟩
theorem MapO.kept {row : Option Nat} (h : MapO w B n f s) (hg : w.grownBy w' row) (hne : some B ≠ row) : MapO w' B n f s := by
  obtain ⟨D, h1, h2⟩ := h
  exact ⟨D, h1.kept hg hne, h2⟩
theorem MapO.below (h : MapO w B n f s) (hb : Below w.heap.size w w') : MapO w' B n f s := h.kept (row := none) ⟨hb.os, hb.tape, hb.output, hb.size, fun k hk _ => hb.block k hk⟩ (by simp)
theorem MapO.lt (h : MapO w B n f s) : B < w.heap.size := by
  obtain ⟨D, h1, h2⟩ := h
  exact h1.lt
theorem MapO.alloc (h : MapO w B n f s) (o : Obj) : MapO (w.alloc o) B n f s := h.below ((Below.refl _ _).alloc (Nat.le_refl _) o)
theorem MapO.congr (h : MapO w B n f s) (he : ∀ id, WfI id → f id = g id) : MapO w B n g s := by
  obtain ⟨D, h1, h2, h3⟩ := h
  exact ⟨D, h1, h2, fun id hid => by rw [← he id hid]; exact h3 id hid⟩
/-- The map is no row of cells. -/
theorem MapO.notCells (h : MapO w B n f s) {cs : Array Value} {t : TypeId} : ¬ Blk w B t cs := by
  obtain ⟨D, ⟨es, clock, hb, _⟩, _⟩ := h
  intro hk
  unfold Blk at hk
  rw [hb] at hk
  injection hk with hk
  cases hk
end
section
variable (w : World) {ops : Array Oper} {rest : List Oper} {o : Oper} {a : Act} {Q : Exit → Act → World → Prop} {B n s : Nat} {f : Int → Option Int}
theorem wpList_lookO (hg : o.guard = none) (m x : Operand) (hop : o.op = Op.lookup 27 m x false) (B n : Nat) (f : Int → Option Int) (s : Nat) (hm : a.eval m = .map (some B)) (h : MapO w B n f s) (id : Int) (hx : a.eval x = .int .i64 id) (hw : WfI id)
    (hK : wpList Try.prog ops Q rest (a.put o.dst (.int .i64 ((f id).getD 0))) w) : wpList Try.prog ops Q (o :: rest) a w := by
  obtain ⟨D, h1, h2, h3⟩ := h
  refine wpList_lookup_own_int w hg m x 27 hop 3 3 .i64 lawI Try.underlying27 Try.underlying3 (zeroI w) B n D hm h1 _ _ hx (keyI hw) ?_
  intro c hat hwc
  rw [(h3 id hw).2] at hat
  injection hat with hat
  injection hat with _ hat
  subst hat
  exact hK
theorem wpList_lookOk (hg : o.guard = none) (m x : Operand) (hop : o.op = Op.lookup 27 m x true) (B n : Nat) (f : Int → Option Int) (s : Nat) (hm : a.eval m = .map (some B)) (h : MapO w B n f s) (id : Int) (hx : a.eval x = .int .i64 id) (hw : WfI id)
    (hK : wpList Try.prog ops Q rest (a.put o.dst (.tuple #[.int .i64 ((f id).getD 0), .bool (f id).isSome])) w) : wpList Try.prog ops Q (o :: rest) a w := by
  obtain ⟨D, h1, h2, h3⟩ := h
  refine wpList_lookup_own_ok_int w hg m x 27 hop 3 3 .i64 lawI Try.underlying27 Try.underlying3 (zeroI w) B n D hm h1 _ _ hx (keyI hw) ?_
  intro c hat hwc
  rw [(h3 id hw).2] at hat
  rw [(h3 id hw).1]
  injection hat with hat
  injection hat with _ hat
  subst hat
  exact hK
def putF (f : Int → Option Int) (id c : Int) : Int → Option Int := fun j => if j = id then some c else f j
def delF (f : Int → Option Int) (id : Int) : Int → Option Int := fun j => if j = id then none else f j
theorem wpList_updO (hg : o.guard = none) (m x v : Operand) (hop : o.op = Op.mapUpdate 27 m x v) (B n : Nat) (f : Int → Option Int) (s : Nat) (hm : a.eval m = .map (some B)) (h : MapO w B n f s) (hn : n < maxLen) (id c : Int) (hx : a.eval x = .int .i64 id) (hv : a.eval v = .int .i64 c) (hw : WfI id) (hc : WfI c)
    (hK : ∀ w', MapO w' B (n + 1) (putF f id c) (if (f id).isSome = true then s else s + 1) → w.grownBy w' (some B) → wpList Try.prog ops Q rest (a.put o.dst undef) w') : wpList Try.prog ops Q (o :: rest) a w := by
  obtain ⟨D, h1, h2, h3⟩ := h
  refine wpList_mapUpdate_own w hg m x v 27 hop 3 3 lawI Try.underlying27 _ B n D hm h1 hn _ _ _ hx hv (keyI hw) _ [] (plainElem_int Try.underlying3 hc.wf) ?_
  intro w' hown hgr
  refine hK w' ⟨_, hown, ?_, fun j hj => ?_⟩ hgr
  · rw [Maps.size_put (h1.tidy lawI), (h3 id hw).1, h2]
  · by_cases hji : j = id
    · subst hji
      rw [Maps.has_put_same h1.isMap (lawI.key (keyI hw)), Maps.atKey_put_same h1.isMap (lawI.key (keyI hw))]
      simp [putF]
    · rw [Maps.has_put_other (litI hji), Maps.atKey_put_other (litI hji)]
      have := h3 j hj
      simpa [putF, hji] using this
theorem wpList_delO (hg : o.guard = none) (m x : Operand) (hop : o.op = Op.call { callee := Callee.builtin Builtin.delete, args := #[m, x], argTypes := #[27, 3] }) (B n : Nat) (f : Int → Option Int) (s : Nat) (hm : a.eval m = .map (some B)) (h : MapO w B n f s) (id : Int) (hx : a.eval x = .int .i64 id) (hw : WfI id)
    (hK : ∀ w', MapO w' B n (delF f id) (if (f id).isSome = true then s - 1 else s) → w.grownBy w' (some B) → wpList Try.prog ops Q rest (a.put o.dst (.tuple #[])) w') : wpList Try.prog ops Q (o :: rest) a w := by
  obtain ⟨D, h1, h2, h3⟩ := h
  refine wpList_delete_own w hg m x 27 3 hop 3 lawI Try.underlying27 _ B n D hm h1 _ _ hx (keyI hw) ?_
  intro w' hown hgr
  refine hK w' ⟨_, hown, ?_, fun j hj => ?_⟩ ?_
  · have := Maps.size_del (k := Lit.int .i64 id) (h1.tidy lawI)
    rw [(h3 id hw).1, h2] at this
    split <;> rename_i hc <;> simp [hc] at this <;> omega
  · by_cases hji : j = id
    · subst hji
      rw [Maps.has_del_same, Maps.atKey_del_same]
      simp [delF]
    · rw [Maps.has_del_other (litI hji), Maps.atKey_del_other (litI hji)]
      have := h3 j hj
      simpa [delF, hji] using this
  · obtain ⟨es, clock, es', clock', hb, rfl⟩ := hgr
    exact ⟨rfl, rfl, rfl, by simp [setBlock], fun i _ hi => heap_setBlock_other hb _ (fun e => hi (by rw [e]))⟩
theorem wpList_lenO (hg : o.guard = none) (m : Operand) (hop : o.op = Op.call { callee := Callee.builtin Builtin.len, args := #[m], argTypes := #[27] }) (B n : Nat) (f : Int → Option Int) (s : Nat) (hm : a.eval m = .map (some B)) (h : MapO w B n f s)
    (hK : wpList Try.prog ops Q rest (a.put o.dst (.int .i64 s)) w) : wpList Try.prog ops Q (o :: rest) a w := by
  obtain ⟨D, h1, h2, h3⟩ := h
  refine wpList_len_own w hg m 27 hop 3 3 Try.underlying27 _ B n D hm h1 ?_
  rw [h2]
  exact hK
end
/-- A map's writing keeps a row of cells. -/
theorem PairsAt.map {w w' : World} {B K n s : Nat} {f : Int → Option Int} {sv : Value} {L : List Wt} (h : PairsAt w K sv L) (hm : MapO w B n f s) (hg : w.grownBy w' (some B)) : PairsAt w' K sv L := by
  refine World.ownsRow.kept h hg ?_
  rcases h.2 with ⟨rfl, _⟩ | ⟨b, cap, cur, rfl, hb, hgg, _⟩
  · exact .inl rfl
  · refine .inr fun e => ?_
    injection e with e
    have e' : b = B := e
    subst e'
    exact hm.notCells hgg
/-- A row's growing keeps a map. -/
theorem MapO.grown {w w' : World} {B K n s m size : Nat} {e : TypeId} {f : Int → Option Int} {sv : Value} {xs : List Value} (h : MapO w B n f s) (hr : w.ownsRow K e size sv m xs) (hg : w.grownBy w' sv.ownBlock) : MapO w' B n f s := by
  refine h.kept hg fun he => ?_
  rcases hr.2 with ⟨rfl, _⟩ | ⟨b, cap, cur, rfl, hb, hgg, _⟩
  · cases he
  · injection he with he
    have e' : B = b := he
    subst e'
    exact h.notCells hgg
end Go.Proofs.Ytbngcepekaicjaa
