/- On a wheel that is none nobody waits. No conditions. -/
import Derived.Test.YtbngcepekaicjaaTmAwake2
namespace Go.Proofs.Ytbngcepekaicjaa.timerNil
set_option linter.unusedVariables false
open Go.RowKit Go.ChangeShapes Go.WideShapes

theorem waits_nil (w : World) : Calls Try.prog 12 #[.pointer none] w fun e w' => e = .returned (.slice none 0 0) ∧ w = w' := by
  have hnp : ∀ (W : World), (binOp .eql 25 (.pointer none) (.pointer none)).run Try.prog W = .ok (.bool true) W := fun _ => rfl
  go_enter Try.func12, Try.ntmps12
  go_wp2
  go_ret
  exact ⟨rfl, rfl⟩
theorem copy_nil (w : World) : Calls Try.prog 19 #[.pointer none] w fun e w' => e = .returned (.pointer none) ∧ w = w' := by
  have hnp : ∀ (W : World), (binOp .eql 25 (.pointer none) (.pointer none)).run Try.prog W = .ok (.bool true) W := fun _ => rfl
  go_enter Try.func19, Try.ntmps19
  go_wp2
  go_ret
  exact ⟨rfl, rfl⟩
set_option maxHeartbeats 1000000 in
set_option maxRecDepth 100000 in
theorem law_any (id at_ : Int) (w : World) : Calls Try.prog 7 #[.int .i64 id, .int .i64 at_] w fun e w' => TrueBelow w e w' := by
  have hnp : ∀ (W : World), (binOp .eql 25 (.pointer none) (.pointer none)).run Try.prog W = .ok (.bool true) W := fun _ => rfl
  go_enter Try.func7, Try.ntmps7
  go_wp2_with fail
  refine (next_nil _).mono ?_
  rintro e w1 ⟨rfl, rfl⟩
  go_wp2_with fail
  refine (awake19_any _).mono ?_
  rintro e w1 ⟨rfl, hl⟩
  have H1 := Lib.hid hl
  clear hl
  go_wp2_with fail
  refine (add_nil _ _ _).mono ?_
  rintro e w2 ⟨rfl, hl⟩
  have H2 := Lib.hid (H1.out.trans (hl.mono H1.out.size))
  clear hl H1
  go_wp2_with fail
  refine (drop_nil _ _).mono ?_
  rintro e w3 ⟨rfl, hl⟩
  have H3 := Lib.hid (H2.out.trans (hl.mono H2.out.size))
  clear hl H2
  go_wp2_with fail
  refine (due_nil _ _).mono ?_
  rintro e w4 ⟨rfl, rfl⟩
  go_wp2_with fail
  refine (waits_nil _).mono ?_
  rintro e w4 ⟨rfl, rfl⟩
  go_wp2_with fail
  refine (copy_nil _).mono ?_
  rintro e w4 ⟨rfl, rfl⟩
  go_wp2
  go_ret
  exact ⟨rfl, H3.out⟩
theorem walk {H : Type} {enc : TypeId × Value → H} {W : World} {base : Nat} {args : Array Value} {ds : List (DataW H)} {ps : List MemPlace}
    (h : Handed enc Try.prog W base Try.f7.params.toList args ds ps) : Calls Try.prog 7 args W fun e w' => TrueBelow W e w' := by
  rw [Try.params7] at h
  have hval := h.val
  obtain ⟨v0, vs0, d0, ds0, p0, q0, hargs, rfl, rfl, h0, r0⟩ := trodAll_cons h.trod
  obtain ⟨v1, vs1, d1, ds1, p1, q1, rfl, rfl, rfl, h1, r1⟩ := trodAll_cons r0
  obtain ⟨rfl, rfl, rfl⟩ := trodAll_nil r1
  obtain rfl : args = #[v0, v1] := by cases args; simp_all
  obtain ⟨a0, rfl, rfl, rfl, w0⟩ := open_int Try.underlying3 (hval 0 3 v0 rfl rfl) h0
  obtain ⟨a1, rfl, rfl, rfl, w1⟩ := open_int Try.underlying3 (hval 1 3 v1 rfl rfl) h1
  exact law_any a0 a1 W


set_option maxRecDepth 100000 in
theorem lifted (os : Os) (started : os.Started) (H : Type) (enc : TypeId × Value → H) :
    ReturnsInHanded {} Try.checked os 7 .any (Rows.timerNilSpec.pre6 enc Try.prog Try.f7 Rows.timerNilRow.domain false) (Rows.timerNilSpec.post enc Try.prog Try.f7 false true false false) := by
  refine returnsInHanded_of_change_sized (C := Try.checked) own started (by kernel_rfl) Try.func7
    (ChangeSpec.witness6 (enc := enc) (C := Try.checked) false ⟨#[], #[.int .i64 0, .int .i64 0], []⟩ 8 (by kernel_rfl) (by kernel_rfl) (by kernel_rfl) (by kernel_rfl)) ?_
  intro W base args ds gs before hval hW _ hsz _
  refine (walk (handed_of hval hW rfl rfl hsz)).mono fun e W' ⟨he, hb⟩ => ?_
  subst he
  exact ⟨_, rfl, law_post hW rfl laidOut (by kernel_rfl) rfl Try.underlying4 (fun ds' h => by match ds', h with | [_, _], _ => rfl) hb⟩

theorem over : Rows.timerNilRow.holds Try.pinned (OpenSpec.ofChange Rows.timerNilSpec) :=
  OpenClaim.holds_of_wide 7 Try.f7 rfl rfl rfl rfl rfl rfl rfl ⟨rfl, rfl, rfl, rfl, rfl⟩ rfl rfl rfl rfl rfl (by kernel_rfl) Try.func7 (by kernel_rfl)
    (of_decide_eq_true (by kernel_rfl)) (by unfold Func.isWrapper; first | (rw [if_pos (by decide +kernel)]; kernel_rfl) | (rw [if_neg (by decide +kernel)]; exact ⟨rfl, rfl⟩))
    (fun os started H enc _ => lifted os started H enc)

theorem proved : Rows.TimerNilSaid :=
  over
#print axioms proved
end Go.Proofs.Ytbngcepekaicjaa.timerNil
