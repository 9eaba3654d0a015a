/- On a journal that is none nothing is held. No conditions. -/
import Derived.Test.YtaamihdibpioaaaGreatJnM52
import Derived.Test.YtaamihdibpioaaaGreatJnM53
namespace Go.Proofs.YtaamihdibpioaaaGreat.journalNil
set_option linter.unusedVariables false
open Go.RowKit Go.ChangeShapes Go.WideShapes Go.Proofs.YtaamihdibpioaaaGreat.Jr Go.Proofs.YtaamihdibpioaaaGreat.Pk

set_option maxHeartbeats 2000000 in
set_option maxRecDepth 100000 in
theorem law_any (label keep : Int) (w : World) : Calls Tryz.prog 6 #[.int .i64 label, .int .i64 keep] w fun e w' => TrueBelow w e w' := by
  have hnp : ∀ (W : World), (binOp .eql 24 (.pointer none) (.pointer none)).run Tryz.prog W = .ok (.bool true) W := fun _ => rfl
  go_enter Tryz.func6, Tryz.ntmps6
  try simp only [lapp_cons, lapp_nil]
  go_wp2_with fail
  refine (awake18_any _).mono ?_
  rintro e w1 ⟨rfl, hl⟩
  have H1 := Lib.hid hl
  clear hl
  go_wp2_with fail
  refine (tick_any _).mono ?_
  rintro e w2 ⟨rfl, hl⟩
  have H2 := Lib.hid (H1.out.trans (hl.mono H1.out.size))
  clear hl H1
  go_wp2_with fail
  refine (write_nil _ _ _ (tick_in _)).mono ?_
  rintro e w3 ⟨rfl, hl⟩
  have H3 := Lib.hid (H2.out.trans (hl.mono H2.out.size))
  clear hl H2
  go_wp2_with fail
  refine (tick_any _).mono ?_
  rintro e w4 ⟨rfl, hl⟩
  have H4 := Lib.hid (H3.out.trans (hl.mono H3.out.size))
  clear hl H3
  go_wp2_with fail
  refine (crash_nil _ _ _ _ (tick_in _)).mono ?_
  rintro e w5 ⟨rfl, hl⟩
  have H5 := Lib.hid (H4.out.trans (hl.mono H4.out.size))
  clear hl H4
  go_wp2_with fail
  refine (recover_nil _).mono ?_
  rintro e w6 ⟨rfl, rfl⟩
  go_wp2_with fail
  refine (records_nil _).mono ?_
  rintro e w6 ⟨rfl, rfl⟩
  go_wp2_with fail
  refine (size_nil _ _).mono ?_
  rintro e w6 ⟨rfl, rfl⟩
  go_wp2_with fail
  refine (copy_nil_j _).mono ?_
  rintro e w6 ⟨rfl, rfl⟩
  go_wp2
  go_ret
  exact ⟨rfl, H5.out⟩
set_option maxRecDepth 100000 in
theorem walk {H : Type} {enc : TypeId × Value → H} {W : World} {base : Nat} {args : Array Value} {ds : List (DataW H)} {ps : List MemPlace}
    (h : Handed enc Tryz.prog W base Tryz.f6.params.toList args ds ps) : Calls Tryz.prog 6 args W fun e w' => TrueBelow W e w' := by
  rw [Tryz.params6] at h
  have hval := h.val
  obtain ⟨v0, vs0, d0, ds0, p0, q0, hargs, rfl, rfl, h0, r0⟩ := trodAll_cons h.trod
  obtain ⟨v1, vs1, d1, ds1, p1, q1, rfl, rfl, rfl, h1, r1⟩ := trodAll_cons r0
  obtain ⟨rfl, rfl, rfl⟩ := trodAll_nil r1
  obtain rfl : args = #[v0, v1] := by cases args; simp_all
  obtain ⟨a0, rfl, rfl, rfl, w0⟩ := open_int Tryz.underlying3 (hval 0 3 v0 rfl rfl) h0
  obtain ⟨a1, rfl, rfl, rfl, w1⟩ := open_int Tryz.underlying3 (hval 1 3 v1 rfl rfl) h1
  exact law_any a0 a1 W


set_option maxRecDepth 100000 in
theorem lifted (os : Os) (started : os.Started) (H : Type) (enc : TypeId × Value → H) :
    ReturnsInHanded {} Tryz.checked os 6 .any (Rows.journalNilSpec.pre6 enc Tryz.prog Tryz.f6 Rows.journalNilRow.domain false) (Rows.journalNilSpec.post enc Tryz.prog Tryz.f6 false true false false) := by
  refine returnsInHanded_of_change_sized (C := Tryz.checked) own started (by kernel_rfl) Tryz.func6
    (ChangeSpec.witness6 (enc := enc) (C := Tryz.checked) false ⟨#[], #[.int .i64 0, .int .i64 0], []⟩ 8 (by kernel_rfl) (by kernel_rfl) (by kernel_rfl) (by kernel_rfl)) ?_
  intro W base args ds gs before hval hW _ hsz _
  refine (walk (handed_of hval hW rfl rfl hsz)).mono fun e W' ⟨he, hb⟩ => ?_
  subst he
  exact ⟨_, rfl, law_post hW rfl laidOut (by kernel_rfl) rfl Tryz.underlying4 (fun ds' h => by match ds', h with | [_, _], _ => rfl) hb⟩

theorem over : Rows.journalNilRow.holds Tryz.pinned (OpenSpec.ofChange Rows.journalNilSpec) :=
  OpenClaim.holds_of_wide 6 Tryz.f6 rfl rfl rfl rfl rfl rfl rfl ⟨rfl, rfl, rfl, rfl, rfl⟩ rfl rfl rfl rfl rfl (by kernel_rfl) Tryz.func6 (by kernel_rfl)
    (of_decide_eq_true (by kernel_rfl)) (by unfold Func.isWrapper; first | (rw [if_pos (by decide +kernel)]; kernel_rfl) | (rw [if_neg (by decide +kernel)]; exact ⟨rfl, rfl⟩))
    (fun os started H enc _ => lifted os started H enc)

theorem proved : Rows.JournalNilSaid :=
  over
#print axioms proved
end Go.Proofs.YtaamihdibpioaaaGreat.journalNil
