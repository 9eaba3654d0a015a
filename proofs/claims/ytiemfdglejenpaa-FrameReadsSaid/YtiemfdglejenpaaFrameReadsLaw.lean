/- At any place of any bytes stands the frame that the reference says, or none; all of them are told in order. No conditions. -/
import Derived.Test.YtiemfdglejenpaaFrameAwake
import Derived.Test.YtiemfdglejenpaaStrs
namespace Go.Proofs.Ytiemfdglejenpaa.frameReads
open Go.RowKit Go.ChangeShapes Go.WideShapes Go.Proofs.Ytiemfdglejenpaa.Crc
open Go.ChangeMaps (open_string shut_string)
set_option linter.unusedVariables false

theorem big (s : ByteArray) (i : Int) (w : World) (hs : s.size ≤ 9223372036854775807) (hbig : 5000 < (s.size : Int)) : Calls Try.prog 9 #[.string s, .int .i64 i] w fun e w' => TrueBelow w e w' := by
  go_enter Try.func9, Try.ntmps9
  go_wp2_with fail
  refine (awake06_any _).mono ?_
  rintro e w1 ⟨rfl, hl1⟩
  go_wp2_with fail
  refine (awake06_any _).mono ?_
  rintro e w2 ⟨rfl, hl2⟩
  have hl := hl1.trans (hl2.mono hl1.size)
  go_wp2
  go_ret
  exact ⟨rfl, hl⟩

set_option maxHeartbeats 1000000 in
theorem small (s : ByteArray) (i : Int) (w : World) (hs : (s.size : Int) ≤ 5000) : Calls Try.prog 9 #[.string s, .int .i64 i] w fun e w' => TrueBelow w e w' := by
  have hsame : sameB (allOf s).1 (allOf s).1 = true := decide_eq_true rfl
  have HS := Lib.hid hsame
  clear hsame
  go_enter Try.func9, Try.ntmps9
  go_wp2_with fail
  refine (awake06_any _).mono ?_
  rintro e w1 ⟨rfl, hl⟩
  go_wp2_with fail
  refine (next_any s i _ (by omega)).mono ?_
  rintro e w2 ⟨rfl, hl2⟩
  have hl' := hl.trans (hl2.mono hl.size)
  clear hl hl2
  go_wp2_with fail
  refine (Ref06.next_any s i _ (by omega)).mono ?_
  rintro e w3 ⟨rfl, hl3⟩
  have hl := hl'.trans (hl3.mono hl'.size)
  clear hl' hl3
  generalize nextP s i = x1
  generalize nextTo s i = x2
  generalize nextE s i = x3
  go_wp2_with fail
  refine (all_any s _ (by omega)).mono ?_
  rintro e w4 ⟨v4, rfl, hown4, hl4⟩
  have hl' := hl.trans (hl4.mono hl.size)
  clear hl
  obtain ⟨A4, cap4, hv4, hs4⟩ := strs_of_own hown4
  rw [hv4]
  clear hown4 hl4 hv4
  go_wp2_with fail
  refine (rall_any s _ (by omega)).mono ?_
  rintro e w5 ⟨v5, rfl, hown5, hl5⟩
  have hl := hl'.trans (hl5.mono hl'.size)
  obtain ⟨A5, cap5, hv5, hs5⟩ := strs_of_own hown5
  rw [hv5]
  have hs4' := (hs4.below hl5).more hl5.size
  have hsz := all_len s
  clear hown5 hl5 hv5 hl' hs4
  generalize (allOf s).2 = g at *
  generalize (allOf s).1 = L at *
  go_wp2_with fail
  refine (same_any A4 A5 L L cap4 cap5 _ (by omega) hs4' hs5).mono ?_
  rintro e w6 ⟨rfl, hl6⟩
  rw [HS.out]
  go_wp2
  go_ret
  exact ⟨rfl, hl.trans (hl6.mono hl.size)⟩

theorem walk {H : Type} {enc : TypeId × Value → H} {W : World} {base : Nat} {args : Array Value} {ds : List (DataW H)} {ps : List MemPlace}
    (h : Handed enc Try.prog W base Try.f9.params.toList args ds ps) : Calls Try.prog 9 args W fun e w' => TrueBelow W e w' := by
  rw [Try.params9] at h
  have hval := h.val
  obtain ⟨v0, vs0, d0, ds0, p0, q0, hargs, rfl, rfl, h0, r0⟩ := trodAll_cons h.trod
  obtain ⟨v1, vs1, d1, ds1, p1, q1, rfl, rfl, rfl, h1, r1⟩ := trodAll_cons r0
  obtain ⟨rfl, rfl, rfl⟩ := trodAll_nil r1
  obtain rfl : args = #[v0, v1] := by cases args; simp_all
  obtain ⟨a0, rfl, rfl, rfl, w0⟩ := open_string Try.underlying9 (hval 0 9 v0 rfl rfl) h0
  obtain ⟨a1, rfl, rfl, rfl, w1⟩ := open_int Try.underlying3 (hval 1 3 v1 rfl rfl) h1
  by_cases hb : 5000 < (a0.size : Int)
  · exact big a0 a1 W (by unfold maxLen at w0; exact w0) hb
  · exact small a0 a1 W (by omega)


set_option maxRecDepth 100000 in
theorem lifted (os : Os) (started : os.Started) (H : Type) (enc : TypeId × Value → H) :
    ReturnsInHanded {} Try.checked os 9 .any (Rows.frameReadsSpec.pre6 enc Try.prog Try.f9 Rows.frameReadsRow.domain false) (Rows.frameReadsSpec.post enc Try.prog Try.f9 false true false false) := by
  refine returnsInHanded_of_change_sized (C := Try.checked) own started (by kernel_rfl) Try.func9
    (ChangeSpec.witness6 (enc := enc) (C := Try.checked) false ⟨#[], #[.string ByteArray.empty, .int .i64 0], []⟩ 8 (by kernel_rfl) (by kernel_rfl) (by kernel_rfl) (by kernel_rfl)) ?_
  intro W base args ds gs before hval hW _ hsz _
  refine (walk (handed_of hval hW rfl rfl hsz)).mono fun e W' ⟨he, hb⟩ => ?_
  subst he
  exact ⟨_, rfl, law_post hW rfl laidOut (by kernel_rfl) rfl Try.underlying4 (fun ds' h => by match ds', h with | [_, _], _ => rfl) hb⟩

theorem over : Rows.frameReadsRow.holds Try.pinned (OpenSpec.ofChange Rows.frameReadsSpec) :=
  OpenClaim.holds_of_wide 9 Try.f9 rfl rfl rfl rfl rfl rfl rfl ⟨rfl, rfl, rfl, rfl, rfl⟩ rfl rfl rfl rfl rfl (by kernel_rfl) Try.func9 (by kernel_rfl)
    (of_decide_eq_true (by kernel_rfl)) (by unfold Func.isWrapper; first | (rw [if_pos (by decide +kernel)]; kernel_rfl) | (rw [if_neg (by decide +kernel)]; exact ⟨rfl, rfl⟩))
    (fun os started H enc _ => lifted os started H enc)

theorem proved : Rows.FrameReadsSaid :=
  over
#print axioms proved
end Go.Proofs.Ytiemfdglejenpaa.frameReads
