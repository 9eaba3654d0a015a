/- Any payload has the frame that the reference says, or none, and any bytes the reference's sum. No conditions. -/
import Derived.Test.YtiemfdglejenpaaFrameAwake
import Derived.Test.YtiemfdglejenpaaFrameRef
namespace Go.Proofs.Ytiemfdglejenpaa.frameMakes
open Go.RowKit Go.ChangeShapes Go.WideShapes Go.Proofs.Ytiemfdglejenpaa.Crc
open Go.ChangeMaps (open_string shut_string)
set_option linter.unusedVariables false

theorem core (p : ByteArray) (w : World) (hp : p.size ≤ 9223372036854775807) : Calls Try.prog 5 #[.string p] w fun e w' => TrueBelow w e w' := by
  by_cases hbig : 5000 < (p.size : Int)
  · go_enter Try.func5, Try.ntmps5
    go_wp2_with fail
    refine (awake06_any _).mono ?_
    rintro e w1 ⟨rfl, hl1⟩
    go_wp2_with fail
    refine (awake06_any _).mono ?_
    rintro e w2 ⟨rfl, hl2⟩
    have hl := hl1.trans (hl2.mono hl1.size)
    go_wp2
    go_ret
    exact ⟨rfl, hl⟩
  · have hs : (p.size : Int) ≤ 5000 := by omega
    by_cases hm : 1 ≤ p.size ∧ p.size ≤ 2000
    · have hmay := Ref06.may_any p
      rw [decide_eq_true hm] at hmay
      have HM := Lib.hid hmay
      have H2 := Lib.hid hm
      clear hmay hm hbig
      go_enter Try.func5, Try.ntmps5
      go_wp2_with fail
      refine (awake06_any _).mono ?_
      rintro e w1 ⟨rfl, hl1⟩
      go_wp2_with fail
      refine (make_ok p _ H2.out.1 H2.out.2).mono ?_
      rintro e w2 ⟨rfl, hl2⟩
      have hl := hl1.trans (hl2.mono hl1.size)
      clear hl1 hl2
      go_wp2_with fail
      refine (sum_any p _ (by omega)).mono ?_
      rintro e w3 ⟨rfl, hl3⟩
      have hl' := hl.trans (hl3.mono hl.size)
      clear hl hl3
      go_wp2_with fail
      refine (Ref06.sum_any p _ (by omega)).mono ?_
      rintro e w' ⟨rfl, rfl⟩
      go_wp2_with fail
      refine (HM.out _ (by omega)).mono ?_
      rintro e w' ⟨rfl, rfl⟩
      go_wp2_with fail
      refine (Ref06.make_any p _ H2.out.2).mono ?_
      rintro e w4 ⟨rfl, hl4⟩
      have hl := hl'.trans (hl4.mono hl'.size)
      go_wp2
      go_ret
      exact ⟨rfl, hl⟩
    · have hmay := Ref06.may_any p
      rw [decide_eq_false hm] at hmay
      have HM := Lib.hid hmay
      have h2 : p.size = 0 ∨ 2000 < p.size := by omega
      have H2 := Lib.hid h2
      clear hmay hm hbig h2
      go_enter Try.func5, Try.ntmps5
      go_wp2_with fail
      refine (awake06_any _).mono ?_
      rintro e w1 ⟨rfl, hl1⟩
      go_wp2_with fail
      refine (make_bad p _ (by omega) H2.out).mono ?_
      rintro e w' ⟨rfl, rfl⟩
      go_wp2_with fail
      refine (sum_any p _ (by omega)).mono ?_
      rintro e w3 ⟨rfl, hl3⟩
      have hl' := hl1.trans (hl3.mono hl1.size)
      clear hl1 hl3
      go_wp2_with fail
      refine (Ref06.sum_any p _ (by omega)).mono ?_
      rintro e w' ⟨rfl, rfl⟩
      go_wp2_with fail
      refine (HM.out _ (by omega)).mono ?_
      rintro e w' ⟨rfl, rfl⟩
      go_wp2
      go_ret
      exact ⟨rfl, hl'⟩

theorem walk {H : Type} {enc : TypeId × Value → H} {W : World} {base : Nat} {args : Array Value} {ds : List (DataW H)} {ps : List MemPlace}
    (h : Handed enc Try.prog W base Try.f5.params.toList args ds ps) : Calls Try.prog 5 args W fun e w' => TrueBelow W e w' := by
  rw [Try.params5] at h
  have hval := h.val
  obtain ⟨v0, vs0, d0, ds0, p0, q0, hargs, rfl, rfl, h0, r0⟩ := trodAll_cons h.trod
  obtain ⟨rfl, rfl, rfl⟩ := trodAll_nil r0
  obtain rfl : args = #[v0] := by cases args; simp_all
  obtain ⟨a0, rfl, rfl, rfl, w0⟩ := open_string Try.underlying9 (hval 0 9 v0 rfl rfl) h0
  exact core a0 W (by unfold maxLen at w0; exact w0)


set_option maxRecDepth 100000 in
theorem lifted (os : Os) (started : os.Started) (H : Type) (enc : TypeId × Value → H) :
    ReturnsInHanded {} Try.checked os 5 .any (Rows.frameMakesSpec.pre6 enc Try.prog Try.f5 Rows.frameMakesRow.domain false) (Rows.frameMakesSpec.post enc Try.prog Try.f5 false true false false) := by
  refine returnsInHanded_of_change_sized (C := Try.checked) own started (by kernel_rfl) Try.func5
    (ChangeSpec.witness6 (enc := enc) (C := Try.checked) false ⟨#[], #[.string ByteArray.empty], []⟩ 8 (by kernel_rfl) (by kernel_rfl) (by kernel_rfl) (by kernel_rfl)) ?_
  intro W base args ds gs before hval hW _ hsz _
  refine (walk (handed_of hval hW rfl rfl hsz)).mono fun e W' ⟨he, hb⟩ => ?_
  subst he
  exact ⟨_, rfl, law_post hW rfl laidOut (by kernel_rfl) rfl Try.underlying4 (fun ds' h => by match ds', h with | [_], _ => rfl) hb⟩

theorem over : Rows.frameMakesRow.holds Try.pinned (OpenSpec.ofChange Rows.frameMakesSpec) :=
  OpenClaim.holds_of_wide 5 Try.f5 rfl rfl rfl rfl rfl rfl rfl ⟨rfl, rfl, rfl, rfl, rfl⟩ rfl rfl rfl rfl rfl (by kernel_rfl) Try.func5 (by kernel_rfl)
    (of_decide_eq_true (by kernel_rfl)) (by unfold Func.isWrapper; first | (rw [if_pos (by decide +kernel)]; kernel_rfl) | (rw [if_neg (by decide +kernel)]; exact ⟨rfl, rfl⟩))
    (fun os started H enc _ => lifted os started H enc)

theorem proved : Rows.FrameMakesSaid :=
  over
#print axioms proved
end Go.Proofs.Ytiemfdglejenpaa.frameMakes
