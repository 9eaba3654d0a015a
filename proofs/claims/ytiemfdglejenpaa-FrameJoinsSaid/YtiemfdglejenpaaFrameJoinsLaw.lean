/- Behind frames that go to their end others are read as by themselves. No conditions. -/
import Derived.Test.YtiemfdglejenpaaFrameAwake
import Derived.Test.YtiemfdglejenpaaStrs
import Derived.Test.YtiemfdglejenpaaFramePlain
import Derived.Test.YtiemfdglejenpaaAppendAny
import Derived.BigGuardPart
namespace Go.Proofs.Ytiemfdglejenpaa.frameJoins
open Go.RowKit Go.ChangeShapes Go.WideShapes Go.Proofs.Ytiemfdglejenpaa.Crc
open Go.ChangeMaps (open_string shut_string)
set_option linter.unusedVariables false

theorem reads_of {w : World} {B : Nat} {A : Option Addr} {l : List ByteArray} (h : StrsAt w B A l) : Reads w B 1 A l.length (l.map Value.string) := by
  refine ⟨by simp, fun h0 => ?_⟩
  obtain ⟨b, off, rfl, hB, _⟩ := h 0 h0
  refine ⟨⟨b, off, none⟩, rfl, hB, fun j u hu => ?_⟩
  have hj : j < l.length := by
    rcases Nat.lt_or_ge j l.length with hlt | hge
    · exact hlt
    · simp [List.getElem?_eq_none (show (l.map Value.string).length ≤ j by simpa using hge)] at hu
  obtain ⟨b', off', he, _, c⟩ := h j hj
  obtain ⟨rfl, rfl⟩ : b = b' ∧ off = off' := by simpa using he
  rw [Addr.add_lit, c]
  simpa [hj] using hu
theorem strs_one {l : List ByteArray} : ∀ u ∈ l.map Value.string, u.oneCell' = true := by
  intro u hu
  obtain ⟨x, _, rfl⟩ := List.mem_map.1 hu
  rfl
theorem good_nat (s : ByteArray) : ∃ g : Nat, (allOf s).2 = (g : Int) ∧ g ≤ s.size := by
  obtain ⟨ps, r, a1, _, _, a4⟩ := all_is s
  refine ⟨(cat ps).size, by rw [a4], ?_⟩
  have := congrArg ByteArray.size a1
  rw [ByteArray.size_append] at this
  omega

theorem big (s t : ByteArray) (w : World) (hs : s.size ≤ 9223372036854775807) (ht : t.size ≤ 9223372036854775807) (hbig : 3000 < (s.size : Int) ∨ 3000 < (t.size : Int)) : Calls Try.prog 11 #[.string s, .string t] w fun e w' => TrueBelow w e w' := by
  by_cases h1 : 3000 < (s.size : Int)
  all_goals
    try have h2 : 3000 < (t.size : Int) := by omega
    try have h3 : decide (3000 < (s.size : Int)) = false := by simp; omega
    clear hbig
    go_enter Try.func11, Try.ntmps11
    go_wp2_with fail
    refine (awake06_any _).mono ?_
    rintro e w1 ⟨rfl, hl1⟩
    go_wp2_with fail
    refine (awake06_any _).mono ?_
    rintro e w2 ⟨rfl, hl2⟩
    have hl := hl1.trans (hl2.mono hl1.size)
    go_wp2
    go_ret
    exact ⟨rfl, hl⟩

set_option maxHeartbeats 800000 in
theorem small (s t : ByteArray) (w : World) (hs : (s.size : Int) ≤ 3000) (ht : (t.size : Int) ≤ 3000) : Calls Try.prog 11 #[.string s, .string t] w fun e w' => TrueBelow w e w' := by
  obtain ⟨i0, hi0, hz0, hz1, hz2⟩ := info_parts str_info16
  obtain ⟨g, hg, hgs⟩ := good_nat s
  obtain ⟨f, hf, hft⟩ := good_nat t
  have hj := all_joins s t
  have hla := all_len s
  have hlb := all_len t
  obtain ⟨a, ha⟩ : ∃ a, a = (allOf s).1 := ⟨_, rfl⟩
  obtain ⟨b, hb⟩ : ∃ b, b = (allOf t).1 := ⟨_, rfl⟩
  rw [hg, hf, ← ha, ← hb, Int.toNat_natCast] at hj
  rw [← ha] at hla
  rw [← hb] at hlb
  have hj1 := congrArg Prod.fst hj
  have hj2 := congrArg Prod.snd hj
  simp only [] at hj1 hj2
  have HJ1 := Lib.hid hj1; have HJ2 := Lib.hid hj2; have HA := Lib.hid ha; have HB := Lib.hid hb; have HG := Lib.hid hg; have HF := Lib.hid hf
  clear hj hj1 hj2 ha hb hg hf
  have HLA := Lib.hid hla; have HLB := Lib.hid hlb; have HGS := Lib.hid hgs; have HFT := Lib.hid hft; have HI := Lib.hid hi0; have HZ0 := Lib.hid hz0; have HZ1 := Lib.hid hz1; have HZ2 := Lib.hid hz2
  clear hla hlb hgs hft hi0 hz0 hz1 hz2
  have hd1 : decide (3000 < (s.size : Int)) = false := by simp; omega
  have hd2 : decide (3000 < (t.size : Int)) = false := by simp; omega
  go_enter Try.func11, Try.ntmps11
  go_wp2_with fail
  refine (awake06_any _).mono ?_
  rintro e w1 ⟨rfl, hl⟩
  go_wp2_with fail
  refine (all_any s _ (by omega)).mono ?_
  rintro e w2 ⟨v2, rfl, hown2, hl2⟩
  rw [HG.out]
  rw [← HA.out] at hown2
  obtain ⟨A2, cap2, hv2, hs2⟩ := strs_of_own hown2
  rw [hv2]
  have hl' := hl.trans (hl2.mono hl.size)
  clear hl hl2 hown2 hv2
  go_wp2_with fail
  refine (all_any t _ (by omega)).mono ?_
  rintro e w3 ⟨v3, rfl, hown3, hl3⟩
  rw [HF.out]
  rw [← HB.out] at hown3
  obtain ⟨A3, cap3, hv3, hs3⟩ := strs_of_own hown3
  have hgs := HGS.out
  have hgi : (g : Int) ≤ s.size := by omega
  rw [hv3]
  have hl := hl'.trans (hl3.mono hl'.size)
  have hs2' := (hs2.below hl3).more hl3.size
  clear hl' hl3 hown3 hv3 hs2
  go_wp2_with fail
  refine (all_any (s.extract 0 g ++ t) _ (by rw [ByteArray.size_append, ByteArray.size_extract]; omega)).mono ?_
  rintro e w4 ⟨v4, rfl, hown4, hl4⟩
  rw [HJ1.out] at hown4
  rw [HJ2.out]
  obtain ⟨A4, cap4, hv4, hs4⟩ := strs_of_own hown4
  rw [hv4]
  have hl' := hl.trans (hl4.mono hl.size)
  have hsa := (hs2'.below hl4).more hl4.size
  have hsb := (hs3.below hl4).more hl4.size
  clear hl hl4 hown4 hv4 hs2' hs3
  have hla := HLA.out
  have hlb := HLB.out
  have hi0 := HI.out; have hz0 := HZ0.out; have hz1 := HZ1.out; have hz2 := HZ2.out
  have hB4 := hl'.size
  have hnew : (w4.alloc (.cells #[] 9)).ownsRow w4.heap.size 9 1 (.slice (some ⟨w4.heap.size, 0, none⟩) 0 0) 0 [] := ⟨rfl, .inr ⟨w4.heap.size, 0, #[], rfl, Nat.le_refl _, heap_alloc_new w4 _, Nat.le_refl _, by unfold maxLen; omega, rfl, rfl⟩⟩
  have HNEW := Lib.hid hnew
  have HSA := Lib.hid hsa; have HSB := Lib.hid hsb; have HS4 := Lib.hid hs4; have HL := Lib.hid hl'
  clear hnew hsa hsb hs4 hl'
  have hwr : IntKind.i64.wrap ((g : Int) + f) = (g : Int) + f := by
    have h1 := HGS.out; have h2 := HFT.out
    exact IntWalk.i64_in _ (by omega)
  go_wp2_with (at_builtin; first
    | (have hsa := HSA.out; have hnew := HNEW.out
       have hba : Below w4.heap.size w4 (w4.alloc (.cells #[] 9)) := (Below.refl _ _).alloc (Nat.le_refl _) _
       have hza : w4.heap.size ≤ (w4.alloc (.cells #[] 9)).heap.size := hba.size
       refine wpList_append_any_g _ rfl (.tmp 50) (.tmp 51) 51 rfl w4.heap.size 9 i0 (.string ByteArray.empty) 1 16 Try.underlying51 hi0 hz0 hz1 hz2 rfl (by decide) (.slice (some ⟨w4.heap.size, 0, none⟩) 0 0) 0 [] rfl hnew w4.heap.size A2 a.length cap2 _ rfl (reads_of (hsa.below hba)) strs_one (by unfold maxLen; omega) (by omega) hza ?_
       intro v5 w5 hown5 hg5 _
       have hb5 := Go.Proofs.Ytiemfdglejenpaa.Below.own hba hnew hg5 hza
       have hz5 := hb5.size
       have HB5 := Lib.hid hb5
       have HO := Lib.hid hown5
       clear hsa hnew hba hza hb5 hown5 hg5 HSA HNEW)
    | (have hsb := HSB.out; have hb5 := HB5.out; have hown5 := HO.out
       refine wpList_append_any_g _ rfl (.tmp 52) (.tmp 53) 51 rfl w4.heap.size 9 i0 (.string ByteArray.empty) 1 16 Try.underlying51 hi0 hz0 hz1 hz2 rfl (by decide) v5 _ _ rfl hown5 w4.heap.size A3 b.length cap3 _ rfl (reads_of (hsb.below hb5)) strs_one (by unfold maxLen; omega) (by omega) hz5 ?_
       intro v6 w6 hown6 hg6 _
       have hb6 := Go.Proofs.Ytiemfdglejenpaa.Below.own hb5 hown5 hg6 hz5
       have hown6' : w6.ownsRow w4.heap.size 9 1 v6 (a ++ b).length ((a ++ b).map Value.string) := by simpa using hown6
       obtain ⟨A6, cap6, hv6, hs6⟩ := strs_of_own hown6'
       have hs4' := (HS4.out.below hb6).more hb6.size
       have hL6 := Lib.hid (HL.out.trans (hb6.mono hB4))
       rw [hv6, List.length_append]
       have hcall := Lib.hid (same_any A4 A6 (a ++ b) (a ++ b) cap4 cap6 w6 (by rw [List.length_append]; omega) hs4' hs6)
       clear hown6' hown6 hs6 hs4' hown5 hg6 hb5 hb6 hsb hv6 hz5 HSB HS4 HL HB5 HO))
  have hc := hcall.out
  have hL6 := hL6.out
  rw [List.length_append] at hc
  refine hc.mono ?_
  rintro e w7 ⟨rfl, hl7⟩
  have hT : sameB (a ++ b) (a ++ b) = true := decide_eq_true rfl
  rw [hT]
  have hL7 := hL6.trans (hl7.mono hL6.size)
  clear hL6 hl7 hc hcall
  go_wp2
  go_ret
  exact ⟨rfl, hL7⟩

theorem walk {H : Type} {enc : TypeId × Value → H} {W : World} {base : Nat} {args : Array Value} {ds : List (DataW H)} {ps : List MemPlace}
    (h : Handed enc Try.prog W base Try.f11.params.toList args ds ps) : Calls Try.prog 11 args W fun e w' => TrueBelow W e w' := by
  rw [Try.params11] at h
  have hval := h.val
  obtain ⟨v0, vs0, d0, ds0, p0, q0, hargs, rfl, rfl, h0, r0⟩ := trodAll_cons h.trod
  obtain ⟨v1, vs1, d1, ds1, p1, q1, rfl, rfl, rfl, h1, r1⟩ := trodAll_cons r0
  obtain ⟨rfl, rfl, rfl⟩ := trodAll_nil r1
  obtain rfl : args = #[v0, v1] := by cases args; simp_all
  obtain ⟨a0, rfl, rfl, rfl, w0⟩ := open_string Try.underlying9 (hval 0 9 v0 rfl rfl) h0
  obtain ⟨a1, rfl, rfl, rfl, w1⟩ := open_string Try.underlying9 (hval 1 9 v1 rfl rfl) h1
  by_cases hb : 3000 < (a0.size : Int) ∨ 3000 < (a1.size : Int)
  · exact big a0 a1 W (by unfold maxLen at w0; exact w0) (by unfold maxLen at w1; exact w1) hb
  · exact small a0 a1 W (by omega) (by omega)


set_option maxRecDepth 100000 in
theorem lifted (os : Os) (started : os.Started) (H : Type) (enc : TypeId × Value → H) :
    ReturnsInHanded {} Try.checked os 11 .any (Rows.frameJoinsSpec.pre6 enc Try.prog Try.f11 Rows.frameJoinsRow.domain false) (Rows.frameJoinsSpec.post enc Try.prog Try.f11 false true false false) := by
  refine returnsInHanded_of_change_sized (C := Try.checked) own started (by kernel_rfl) Try.func11
    (ChangeSpec.witness6 (enc := enc) (C := Try.checked) false ⟨#[], #[.string ByteArray.empty, .string ByteArray.empty], []⟩ 8 (by kernel_rfl) (by kernel_rfl) (by kernel_rfl) (by kernel_rfl)) ?_
  intro W base args ds gs before hval hW _ hsz _
  refine (walk (handed_of hval hW rfl rfl hsz)).mono fun e W' ⟨he, hb⟩ => ?_
  subst he
  exact ⟨_, rfl, law_post hW rfl laidOut (by kernel_rfl) rfl Try.underlying4 (fun ds' h => by match ds', h with | [_, _], _ => rfl) hb⟩

theorem over : Rows.frameJoinsRow.holds Try.pinned (OpenSpec.ofChange Rows.frameJoinsSpec) :=
  OpenClaim.holds_of_wide 11 Try.f11 rfl rfl rfl rfl rfl rfl rfl ⟨rfl, rfl, rfl, rfl, rfl⟩ rfl rfl rfl rfl rfl (by kernel_rfl) Try.func11 (by kernel_rfl)
    (of_decide_eq_true (by kernel_rfl)) (by unfold Func.isWrapper; first | (rw [if_pos (by decide +kernel)]; kernel_rfl) | (rw [if_neg (by decide +kernel)]; exact ⟨rfl, rfl⟩))
    (fun os started H enc _ => lifted os started H enc)

theorem proved : Rows.FrameJoinsSaid :=
  over
#print axioms proved
end Go.Proofs.Ytiemfdglejenpaa.frameJoins
