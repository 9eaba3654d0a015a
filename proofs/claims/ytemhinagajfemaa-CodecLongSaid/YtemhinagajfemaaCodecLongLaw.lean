/- A number has as many bytes as it has groups of seven bits, one at least; greater ones never have fewer. No conditions. -/
import Derived.Test.YtemhinagajfemaaCodecAwake
namespace Go.Proofs.Ytemhinagajfemaa.codecLong
open Go.RowKit Go.ChangeShapes Go.WideShapes
set_option linter.unusedVariables false

def rest (x : Nat) : Nat := if x = 0 then 0 else (ub x).length
theorem len_rest (a : Nat) : (ub a).length = 1 + rest (a / 128) := by
  unfold rest
  by_cases h : a < 128
  · rw [ub_small h, if_pos (by omega)]; rfl
  · rw [ub_great (by omega), if_neg (by omega)]; simp; omega
theorem rest_pos {x : Nat} (h : x ≠ 0) : rest x = 1 + rest (x / 128) := by
  rw [← len_rest]
  unfold rest
  rw [if_neg h]
theorem len_mono (a b : Nat) (h : a ≤ b) : (ub a).length ≤ (ub b).length := by
  by_cases ha : a < 128
  · rw [ub_small ha, len_rest b]; simp
  · rw [ub_great (n := a) (by omega), ub_great (n := b) (by omega)]
    have := len_mono (a / 128) (b / 128) (by omega)
    simp; exact this
termination_by a
decreasing_by omega
theorem uintS_size (n : Nat) : (uintS n).size = (ub n).length := by simp [uintS, ByteArray.size]

set_option maxHeartbeats 1000000 in
theorem core (a b : Nat) (w : World) (ha : a < 18446744073709551616) (hb : b < 18446744073709551616) : Calls Try.prog 3 #[.int .u64 a, .int .u64 b] w fun e w' => TrueBelow w e w' := by
  obtain ⟨L, hL⟩ : ∃ L, L = (ub a).length := ⟨_, rfl⟩
  obtain ⟨M, hM⟩ : ∃ M, M = (ub b).length := ⟨_, rfl⟩
  have h10 : L ≤ 10 := by rw [hL]; exact ub_len64 ha
  have hmono : a ≤ b → L ≤ M := fun h => by rw [hL, hM]; exact len_mono a b h
  have hr0 := len_rest a
  rw [← hL] at hr0
  have hsa := uintS_size a
  have hsb := uintS_size b
  rw [← hL] at hsa
  rw [← hM] at hsb
  have HR0 := Lib.hid hr0; have HM := Lib.hid hmono; have HSA := Lib.hid hsa; have HSB := Lib.hid hsb
  clear hL hM hr0 hmono hsa hsb
  go_enter Try.func3, Try.ntmps3
  go_wp2_with fail
  go_loopw [5, 6] (fun nv xv wr => ∃ n x : Nat, nv = .int .i64 n ∧ xv = .int .u64 x ∧ Hid (L = n + rest x) ∧ wr = w) (fun _ xv _ => (intOf xv).toNat)
  case atStart => exact ⟨1, a / 128, rfl, by simp, HR0, rfl⟩
  case round =>
    obtain ⟨n, x, rfl, rfl, HN, rfl⟩ := hrel
    by_cases hx : x = 0
    · subst hx
      have hn : L = n := by rw [HN.out]; rfl
      subst hn
      have hm := HM.out
      have hsa := HSA.out; have hsb := HSB.out
      go_wp2_with fail
      refine (awake05_any _).mono ?_
      rintro e w1 ⟨rfl, hl⟩
      go_wp2_with fail
      refine (uint_any a _ ha).mono ?_
      rintro e w2 ⟨rfl, h⟩
      have hl2 := hl.trans (h.mono hl.size)
      clear hl h
      by_cases hab : b < a
      · have i1 : (b : Int) < (a : Int) := by omega
        go_wp2
        go_ret
        exact ⟨rfl, hl2⟩
      · have i1 : decide ((b : Int) < (a : Int)) = false := by simp; omega
        have i2 := hm (by omega)
        have i3 : (L : Int) ≤ (M : Int) := by omega
        go_wp2_with fail
        refine (uint_any a _ ha).mono ?_
        rintro e w3 ⟨rfl, h⟩
        have hl := hl2.trans (h.mono hl2.size)
        clear hl2 h
        go_wp2_with fail
        refine (uint_any b _ hb).mono ?_
        rintro e w4 ⟨rfl, h⟩
        have hl2 := hl.trans (h.mono hl.size)
        clear hl h
        go_wp2
        go_ret
        exact ⟨rfl, hl2⟩
    · have i1 : (0 : Int) < (x : Int) := by omega
      have hn : L = (n + 1) + rest (x / 128) := by rw [HN.out, rest_pos hx]; omega
      have HN2 := Lib.hid hn
      have hn10 : (n : Int) ≤ 10 := by omega
      clear hn
      go_wp2
      go_roundw
      case rel => exact ⟨n + 1, x / 128, by go_num, by simp, HN2, trivial⟩
      case measure => simp [intOf]; omega

theorem u64_range {a : Int} (h : (Lit.int IntKind.u64 a).wf = true) : 0 ≤ a ∧ a < 18446744073709551616 := by
  simp only [Lit.wf, Bool.and_eq_true, decide_eq_true_eq] at h
  have e1 : IntKind.u64.min = 0 := by decide
  have e2 : IntKind.u64.max = 18446744073709551615 := by decide
  rw [e1, e2] at h
  omega

set_option maxRecDepth 100000 in
theorem walk {H : Type} {enc : TypeId × Value → H} {W : World} {base : Nat} {args : Array Value} {ds : List (DataW H)} {ps : List MemPlace}
    (h : Handed enc Try.prog W base Try.f3.params.toList args ds ps) : Calls Try.prog 3 args W fun e w' => TrueBelow W e w' := by
  rw [Try.params3] at h
  have hval := h.val
  obtain ⟨v0, vs0, d0, ds0, p0, q0, hargs, rfl, rfl, h0, r0⟩ := trodAll_cons h.trod
  obtain ⟨v1, vs1, d1, ds1, p1, q1, rfl, rfl, rfl, h1, r1⟩ := trodAll_cons r0
  obtain ⟨rfl, rfl, rfl⟩ := trodAll_nil r1
  obtain rfl : args = #[v0, v1] := by cases args; simp_all
  obtain ⟨a, rfl, rfl, rfl, w0⟩ := open_int Try.underlying22 (hval 0 22 v0 rfl rfl) h0
  obtain ⟨b, rfl, rfl, rfl, w1⟩ := open_int Try.underlying22 (hval 1 22 v1 rfl rfl) h1
  have a1 : 0 ≤ a ∧ a < 18446744073709551616 := u64_range w0
  have b1 : 0 ≤ b ∧ b < 18446744073709551616 := u64_range w1
  obtain ⟨x, rfl⟩ := Int.eq_ofNat_of_zero_le a1.1
  obtain ⟨y, rfl⟩ := Int.eq_ofNat_of_zero_le b1.1
  exact core x y W (by omega) (by omega)


set_option maxRecDepth 100000 in
theorem lifted (os : Os) (started : os.Started) (H : Type) (enc : TypeId × Value → H) :
    ReturnsInHanded {} Try.checked os 3 .any (Rows.codecLongSpec.pre6 enc Try.prog Try.f3 Rows.codecLongRow.domain false) (Rows.codecLongSpec.post enc Try.prog Try.f3 false true false false) := by
  refine returnsInHanded_of_change_sized (C := Try.checked) own started (by kernel_rfl) Try.func3
    (ChangeSpec.witness6 (enc := enc) (C := Try.checked) false ⟨#[], #[.int .u64 0, .int .u64 0], []⟩ 8 (by kernel_rfl) (by kernel_rfl) (by kernel_rfl) (by kernel_rfl)) ?_
  intro W base args ds gs before hval hW _ hsz _
  refine (walk (handed_of hval hW rfl rfl hsz)).mono fun e W' ⟨he, hb⟩ => ?_
  subst he
  exact ⟨_, rfl, law_post hW rfl laidOut (by kernel_rfl) rfl Try.underlying4 (fun ds' h => by match ds', h with | [_, _], _ => rfl) hb⟩

theorem over : Rows.codecLongRow.holds Try.pinned (OpenSpec.ofChange Rows.codecLongSpec) :=
  OpenClaim.holds_of_wide 3 Try.f3 rfl rfl rfl rfl rfl rfl rfl ⟨rfl, rfl, rfl, rfl, rfl⟩ rfl rfl rfl rfl rfl (by kernel_rfl) Try.func3 (by kernel_rfl)
    (of_decide_eq_true (by kernel_rfl)) (by unfold Func.isWrapper; first | (rw [if_pos (by decide +kernel)]; kernel_rfl) | (rw [if_neg (by decide +kernel)]; exact ⟨rfl, rfl⟩))
    (fun os started H enc _ => lifted os started H enc)

theorem proved : Rows.CodecLongSaid :=
  over
#print axioms proved
end Go.Proofs.Ytemhinagajfemaa.codecLong
