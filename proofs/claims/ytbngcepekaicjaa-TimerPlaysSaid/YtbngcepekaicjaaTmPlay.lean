/- A wheel beside its reference. -/
import Derived.Test.YtbngcepekaicjaaTmRefAdd
import Derived.Deep.RegionHeld3
namespace Go.Proofs.Ytbngcepekaicjaa
set_option linter.unusedVariables false
open Go.RowKit

/-- A wheel at g holds La, the reference at r holds Lr; all behind w. -/
def PW (w : World) (g r : Nat) (La Lr : List Wt) (wr : World) : Prop := ∃ F, Wheel wr g F La ∧ RefW wr r Lr ∧ w.heap.size ≤ g ∧ w.heap.size ≤ r ∧ (∀ k, F = some k → w.heap.size ≤ k) ∧ Below w.heap.size w wr
section
variable {w wr w' : World} {g r : Nat} {La Lr L L' : List Wt} {F : Option Nat}
theorem RefW.step (h : RefW wr r Lr) (hk : StepW g wr w') : RefW w' r Lr := by
  obtain ⟨sv, h1, h2⟩ := h
  exact ⟨sv, hk.blk h1 (by decide) (by decide), hk.pairs h2⟩
theorem Wheel.only (h : Wheel wr g F La) {cs : Array Value} {t : TypeId} (hr : Blk wr r t cs) (h1 : t ≠ 54) (h2 : t ≠ 57) (ho : Only wr w' r) : Wheel w' g F La := by
  obtain ⟨v, hv⟩ := h.blk
  have hg : g ≠ r := hv.ne_ hr (fun e => h1 e.symm)
  have hF := h.fne hr h2
  exact h.keep fun i hi hc => ho.block i hi (fun e => by
    injection e with e
    rcases hc with hc | hc
    · exact hg (by rw [← hc, e])
    · exact hF (by rw [← hc, e]))
theorem pw_turn (h1 : Wheel wr g F La) (h2 : RefW wr r Lr) (h3 : w.heap.size ≤ g) (h4 : w.heap.size ≤ r) (h5 : ∀ k, F = some k → w.heap.size ≤ k) (h6 : Below w.heap.size w wr) (ht : TurnedTo g F L wr w') : PW w g r L Lr w' ∧ StepW g wr w' := by
  obtain ⟨F', hW, hk, hn⟩ := ht
  have hst : StepW g wr w' := ⟨F, La, h1, hk⟩
  refine ⟨⟨F', hW, h2.step hst, h3, h4, fun k hk' => ?_, h6.trans ⟨hk.os, hk.tape, hk.output, hk.size, fun i hi => hk.block i (by have := h6.size; omega) (by omega) (fun e => by have := h5 i e.symm; omega)⟩⟩, hst⟩
  rcases hn with e | ⟨x, hx, e⟩
  · exact h5 k (by rw [← e, hk'])
  · rw [e] at hk'
    injection hk' with hk'
    have := h6.size
    omega
theorem PW.rturn (h : PW w g r La Lr wr) (hW : RefW w' r L) (ho : Only wr w' r) : PW w g r La L w' := by
  obtain ⟨F, h1, h2, h3, h4, h5, h6⟩ := h
  obtain ⟨sv, hb, _⟩ := h2
  exact ⟨F, h1.only hb (by decide) (by decide) ho, hW, h3, h4, h5, Below.only h6 ho h4 h6.size⟩
theorem PW.below (h : PW w g r La Lr wr) (hb : Below wr.heap.size wr w') : PW w g r La Lr w' := by
  obtain ⟨F, h1, h2, h3, h4, h5, h6⟩ := h
  exact ⟨F, h1.below hb, h2.below hb, h3, h4, h5, h6.trans (hb.mono h6.size)⟩
theorem PW.ok (h : PW w g r La Lr wr) : OkW La := by obtain ⟨F, h1, _⟩ := h; exact h1.ok
theorem PW.ref (h : PW w g r La Lr wr) : RefW wr r Lr := by obtain ⟨F, h1, h2, _⟩ := h; exact h2
theorem PW.all (h : PW w g r La Lr wr) : Below w.heap.size w wr := by obtain ⟨F, h1, h2, h3, h4, h5, h6⟩ := h; exact h6
theorem blk_only {x : Nat} {t : TypeId} {cs : Array Value} (h : RefW wr r Lr) (hb : Blk wr x t cs) (hne : t ≠ 45) (ho : Only wr w' r) : Blk w' x t cs := by
  obtain ⟨sv, h1, _⟩ := h
  exact hb.grown ho (fun e => by injection e with e; exact (hb.ne_ h1 hne) e)
theorem ints_only {B : Nat} {sv : Value} {O : List Int} (h : RefW wr r Lr) (hi : IntsAt wr B sv O) (ho : Only wr w' r) : IntsAt w' B sv O := by
  obtain ⟨sv', h1, _⟩ := h
  refine World.ownsRow.kept hi ho ?_
  rcases hv : sv.ownBlock with _ | k
  · exact .inl rfl
  · refine .inr fun e => ?_
    exact own_ne hi h1 (by decide) (by rw [hv, e])
end
def PwOut (w : World) (g r : Nat) (La Lr : List Wt) (v : Value) (wr : World) (e : Ending) (w' : World) : Prop := e = .returned v ∧ PW w g r La Lr w' ∧ StepW g wr w'
def PrOut (w : World) (g r : Nat) (La Lr : List Wt) (v : Value) (wr : World) (e : Ending) (w' : World) : Prop := e = .returned v ∧ PW w g r La Lr w' ∧ Only wr w' r
section
variable {w wr : World} {g r : Nat} {La Lr L : List Wt}
theorem pw_add (id at_ : Int) (h : PW w g r La Lr wr) (hid : id ≤ 9223372036854775807) : Calls Try.prog 10 #[.pointer (some ⟨g, 0, none⟩), .int .i64 id, .int .i64 at_] wr fun e w' => PwOut w g r (addL La id at_) Lr (.int .i64 (addE La id at_)) wr e w' := by
  obtain ⟨F, h1, h2, h3, h4, h5, h6⟩ := h
  exact (add_any g F La id at_ wr h1 hid).mono fun e w' ⟨he, ht⟩ => ⟨he, pw_turn h1 h2 h3 h4 h5 h6 ht⟩
theorem pw_drop (id : Int) (h : PW w g r La Lr wr) : Calls Try.prog 15 #[.pointer (some ⟨g, 0, none⟩), .int .i64 id] wr fun e w' => PwOut w g r (dropL La id) Lr (.bool (hasW La id)) wr e w' := by
  obtain ⟨F, h1, h2, h3, h4, h5, h6⟩ := h
  exact (drop_any g F La id wr h1).mono fun e w' ⟨he, ht⟩ => ⟨he, pw_turn h1 h2 h3 h4 h5 h6 ht⟩
def PwDue (w : World) (g r : Nat) (La Lr : List Wt) (now : Int) (wr : World) (e : Ending) (w' : World) : Prop := ∃ sv, e = .returned sv ∧ IntsAt w' wr.heap.size sv (dueO La now) ∧ PW w g r (dueL La now) Lr w' ∧ StepW g wr w'
theorem pw_due (now : Int) (h : PW w g r La Lr wr) : Calls Try.prog 11 #[.pointer (some ⟨g, 0, none⟩), .int .i64 now] wr fun e w' => PwDue w g r La Lr now wr e w' := by
  obtain ⟨F, h1, h2, h3, h4, h5, h6⟩ := h
  exact (due_any g F La now wr h1).mono fun e w' ⟨sv, he, hi, ht⟩ => ⟨sv, he, hi, pw_turn h1 h2 h3 h4 h5 h6 ht⟩
def PwWaits (w : World) (g r : Nat) (La Lr : List Wt) (wr : World) (e : Ending) (w' : World) : Prop := ∃ sv, e = .returned sv ∧ PairsAt w' wr.heap.size sv La ∧ PW w g r La Lr w' ∧ Below wr.heap.size wr w'
theorem pw_waits (h : PW w g r La Lr wr) : Calls Try.prog 12 #[.pointer (some ⟨g, 0, none⟩)] wr fun e w' => PwWaits w g r La Lr wr e w' := by
  have hT := h
  obtain ⟨F, h1, _⟩ := h
  exact (waits_any g F La wr h1).mono fun e w' ⟨sv, he, hi, hb⟩ => ⟨sv, he, hi, hT.below hb, hb⟩
theorem pw_next (h : PW w g r La Lr wr) : Calls Try.prog 20 #[.pointer (some ⟨g, 0, none⟩)] wr fun e w' => NextOut La wr e w' := by
  obtain ⟨F, h1, _⟩ := h
  exact next_any g F La wr h1
theorem pr_add (id at_ : Int) (h : PW w g r La Lr wr) (hok : OkW Lr) : Calls Try.prog 16 #[.pointer (some ⟨r, 0, none⟩), .int .i64 id, .int .i64 at_] wr fun e w' => PrOut w g r La (addL Lr id at_) (.int .i64 (addE Lr id at_)) wr e w' :=
  (ref_add r Lr id at_ wr h.ref hok).mono fun e w' ⟨he, hW, ho⟩ => ⟨he, h.rturn hW ho, ho⟩
theorem pr_drop (id : Int) (h : PW w g r La Lr wr) (hok : OkW Lr) : Calls Try.prog 17 #[.pointer (some ⟨r, 0, none⟩), .int .i64 id] wr fun e w' => PrOut w g r La (dropL Lr id) (.bool (hasW Lr id)) wr e w' :=
  (ref_drop r Lr id wr h.ref hok).mono fun e w' ⟨he, hW, ho⟩ => ⟨he, h.rturn hW ho, ho⟩
def PrDue (w : World) (g r : Nat) (La Lr : List Wt) (now : Int) (wr : World) (e : Ending) (w' : World) : Prop := ∃ sv, e = .returned sv ∧ IntsAt w' wr.heap.size sv (dueO Lr now) ∧ PW w g r La (dueL Lr now) w' ∧ Only wr w' r
theorem pr_due (now : Int) (h : PW w g r La Lr wr) (hok : OkW Lr) : Calls Try.prog 18 #[.pointer (some ⟨r, 0, none⟩), .int .i64 now] wr fun e w' => PrDue w g r La Lr now wr e w' :=
  (ref_due r Lr now wr h.ref hok.len).mono fun e w' ⟨sv, he, hi, hW, ho⟩ => ⟨sv, he, hi, h.rturn hW ho, ho⟩
/-- The copy beside the old wheel. -/
def PwCopy (w : World) (g r : Nat) (La Lr : List Wt) (wr : World) (e : Ending) (w' : World) : Prop := ∃ c, e = .returned (.pointer (some ⟨c, 0, none⟩)) ∧ Two w g c La La w' ∧ RefW w' r Lr ∧ w.heap.size ≤ r ∧ Below wr.heap.size wr w'
theorem pw_copy (h : PW w g r La Lr wr) : Calls Try.prog 19 #[.pointer (some ⟨g, 0, none⟩)] wr fun e w' => PwCopy w g r La Lr wr e w' := by
  obtain ⟨F, h1, h2, h3, h4, h5, h6⟩ := h
  refine (copy_any g F La wr h1).mono fun e w' ⟨he, hW, hb⟩ => ⟨_, he, ⟨F, _, h1.below hb, hW, ?_, fun k hk e => ?_, ⟨h3, by have := h6.size; omega⟩, h5, fun k hk => ?_, h6.trans (hb.mono h6.size)⟩, h2.below hb, h4, hb⟩
  · have := h1.lt
    omega
  · injection e with e
    have := h1.flt k hk
    omega
  · injection hk with hk
    rw [← hk]
    exact h6.size
theorem pw_of_two {c : Nat} {Lb : List Wt} (h : Two w c g La Lb wr) (hr : RefW wr r Lr) (h4 : w.heap.size ≤ r) : PW w c r La Lr wr := by
  obtain ⟨Fa, Fb, h1, h2, h3, h5, h6, h7, h8, h9⟩ := h
  exact ⟨Fa, h1, hr, h6.1, h4, h7, h9⟩
end
end Go.Proofs.Ytbngcepekaicjaa
