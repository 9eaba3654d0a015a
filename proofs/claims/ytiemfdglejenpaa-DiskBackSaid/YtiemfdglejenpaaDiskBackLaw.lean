/- A write of which a part was kept, and cut away, leaves the segment as it was; written in two parts it is as written at once. No conditions. -/
import Derived.Test.YtiemfdglejenpaaRow
import Derived.Test.YtiemfdglejenpaaDiskAwake
namespace Go.Proofs.Ytiemfdglejenpaa.diskBack
open Go.RowKit Go.ChangeShapes Go.WideShapes
open Go.ChangeMaps (open_string shut_string)
set_option linter.unusedVariables false

/-- A disk's rows of which only the first one holds bytes. -/
def one (r : ByteArray) : List ByteArray := noRows.set 0 r
theorem one_empty : one ByteArray.empty = noRows := by decide +kernel
theorem dk_one {r : ByteArray} (h : r.size ≤ 4000) : Dk 1 (one r) := (dk_no (by omega) (by omega)).set_ _ h
theorem row_one (r : ByteArray) : rowOf (one r) 0 = r := by simp [rowOf, one, noRows]
theorem set_one (r r' : ByteArray) : (one r).set 0 r' = one r' := by simp [one]
theorem seg_one : isSeg 1 0 = true := by decide
theorem tearE_ok {r s : ByteArray} (h : r.size + s.size ≤ 4000) : tearE 1 (one r) 0 s = 0 := by simp [tearE, seg_one, fits, row_one, h]
theorem tearR_ok {r s : ByteArray} {keep : Int} (h : r.size + s.size ≤ 4000) : tearR 1 (one r) 0 s keep = one (r ++ kept s keep) := by simp [tearR, seg_one, fits, row_one, h, set_one]
theorem tearE_full {r s : ByteArray} (h : ¬ r.size + s.size ≤ 4000) : tearE 1 (one r) 0 s = 4 := by simp [tearE, seg_one, fits, row_one, h]
theorem tearR_full {r s : ByteArray} {keep : Int} (h : ¬ r.size + s.size ≤ 4000) : tearR 1 (one r) 0 s keep = one r := by simp [tearR, fits, row_one, h]
theorem read_one (r : ByteArray) : readR 1 (one r) 0 = r := by simp [readR, seg_one, row_one]
theorem cutE_ok {r : ByteArray} {m : Nat} (h : m ≤ r.size) : cutE 1 (one r) 0 m = 0 := by simp [cutE, seg_one, within, row_one, h]
theorem cutR_ok {r : ByteArray} {m : Nat} (h : m ≤ r.size) : cutR 1 (one r) 0 m = one (r.extract 0 m) := by simp [cutR, seg_one, within, row_one, h, set_one]

section
variable {b : Nat} {r s R : ByteArray} {keep : Int} {w : World} (hb : Blk w b 70 (diskCells (1 : Nat) (one r))) (hr : r.size ≤ 4000)
include hb hr
theorem one_tear (h : r.size + s.size ≤ 4000) (hR : r ++ kept s keep = R) :
    Calls Try.prog 17 #[.pointer (some ⟨b, 0, none⟩), .int .i64 0, .string s, .int .i64 keep] w fun e w' => e = .returned (.int .i64 0) ∧ Disked b (1 : Nat) (one R) w w' :=
  tear_to hb (dk_one hr) (by omega) (tearE_ok h) (by rw [tearR_ok h, hR])
theorem one_tear_full (hs : s.size ≤ 9223372036854775807) (h : ¬ r.size + s.size ≤ 4000) :
    Calls Try.prog 17 #[.pointer (some ⟨b, 0, none⟩), .int .i64 0, .string s, .int .i64 keep] w fun e w' => e = .returned (.int .i64 4) ∧ Disked b (1 : Nat) (one r) w w' :=
  tear_to hb (dk_one hr) hs (tearE_full h) (tearR_full h)
theorem one_append (h : r.size + s.size ≤ 4000) (hR : r ++ s = R) :
    Calls Try.prog 16 #[.pointer (some ⟨b, 0, none⟩), .int .i64 0, .string s] w fun e w' => e = .returned (.int .i64 0) ∧ Disked b (1 : Nat) (one R) w w' :=
  append_to hb (dk_one hr) (by omega) (tearE_ok h) (by rw [tearR_ok h, kept_all (by omega), hR])
theorem one_read : Calls Try.prog 19 #[.pointer (some ⟨b, 0, none⟩), .int .i64 0] w fun e w' => e = .returned (.string r) ∧ w = w' :=
  read_to hb (dk_one hr) (read_one r)
theorem one_cut {m : Nat} (h : m ≤ r.size) (hR : r.extract 0 m = R) :
    Calls Try.prog 18 #[.pointer (some ⟨b, 0, none⟩), .int .i64 0, .int .i64 m] w fun e w' => e = .returned (.int .i64 0) ∧ Disked b (1 : Nat) (one R) w w' :=
  cut_to hb (dk_one hr) (cutE_ok h) (by rw [cutR_ok h, hR])
end
theorem kept_again (s : ByteArray) (keep : Int) : s.extract 0 (kept s keep).size = kept s keep := by
  have e : (kept s keep).size = min keep.toNat s.size := by unfold kept; simp
  rw [e]; rfl
theorem rest_again (s : ByteArray) (keep : Int) : kept s keep ++ s.extract (kept s keep).size s.size = s := by
  conv => lhs; arg 1; rw [← kept_again]
  have := kept_size s keep
  simp
theorem new_one (w : World) : Calls Try.prog 14 #[.int .i64 1] w fun e w' => Newed 1 w e w' := new_ok 1 w (by omega) (by omega)

/-- The law's start: the disk, and that 'awake' is true. -/
theorem start (a s : ByteArray) (keep : Int) (w : World) (ha : a.size ≤ 9223372036854775807) (hs : s.size ≤ 9223372036854775807) (hbig : 4000 < (a.size : Int) ∨ 4000 < (s.size : Int)) :
    Calls Try.prog 4 #[.string a, .string s, .int .i64 keep] w fun e w' => TrueBelow w e w' := by
  by_cases h1 : 4000 < (a.size : Int)
  all_goals
    try have h2 : 4000 < (s.size : Int) := by omega
    try have h3 : decide (4000 < (a.size : Int)) = false := by simp; omega
    clear hbig
    go_enter Try.func4, Try.ntmps4
    go_wp2_with fail
    refine (new_one _).mono ?_
    rintro e w1 ⟨rfl, hl1, hb1⟩
    go_wp2_with fail
    refine (awake17_any _).mono ?_
    rintro e w2 ⟨rfl, hl2⟩
    have hl := hl1.trans (hl2.mono hl1.size)
    clear hl1 hl2 hb1
    go_wp2_with fail
    refine (awake17_any _).mono ?_
    rintro e w3 ⟨rfl, hl3⟩
    have hl' := hl.trans (hl3.mono hl.size)
    clear hl hl3
    go_wp2
    go_ret
    exact ⟨rfl, hl'⟩

set_option maxHeartbeats 1000000 in
theorem full (a s : ByteArray) (keep : Int) (w : World) (ha : a.size ≤ 4000) (hs : s.size ≤ 4000) (hf : ¬ a.size + s.size ≤ 4000) :
    Calls Try.prog 4 #[.string a, .string s, .int .i64 keep] w fun e w' => TrueBelow w e w' := by
  have h1 : (a.size : Int) ≤ 4000 := by omega
  have h2 : (s.size : Int) ≤ 4000 := by omega
  go_enter Try.func4, Try.ntmps4
  go_wp2_with fail
  refine (new_one _).mono ?_
  rintro e w1 ⟨rfl, hl1, hb1⟩
  rw [← one_empty] at hb1
  go_wp2_with fail
  refine (awake17_any _).mono ?_
  rintro e w2 ⟨rfl, hl2⟩
  have hb2 := hb1.below hl2 hb1.lt
  have hl := hl1.trans (hl2.mono hl1.size)
  clear hl1 hl2 hb1
  go_wp2_with fail
  refine (one_append hb2 (by decide) (R := a) (by simp; omega) (by simp)).mono ?_
  rintro e w3 ⟨rfl, hd⟩
  have hl' := hl.trans (hd.below (Nat.le_refl _) hl.size)
  have hb3 := hd.2
  clear hd hl hb2
  go_wp2_with fail
  refine (one_tear_full hb3 ha (by omega) hf).mono ?_
  rintro e w4 ⟨rfl, hd⟩
  have hl := hl'.trans (hd.below (Nat.le_refl _) hl'.size)
  have hb4 := hd.2
  clear hd hl' hb3
  go_wp2_with fail
  refine (one_read hb4 ha).mono ?_
  rintro e w' ⟨rfl, rfl⟩
  go_wp2
  go_ret
  exact ⟨rfl, hl⟩

set_option maxHeartbeats 1000000 in
theorem room (a s : ByteArray) (keep : Int) (w : World) (hf : a.size + s.size ≤ 4000) :
    Calls Try.prog 4 #[.string a, .string s, .int .i64 keep] w fun e w' => TrueBelow w e w' := by
  have h1 : (a.size : Int) ≤ 4000 := by omega
  have h2 : (s.size : Int) ≤ 4000 := by omega
  have hk := kept_size s keep
  obtain ⟨R, hR⟩ : ∃ R, R = a ++ kept s keep := ⟨_, rfl⟩
  have hz : R.size = a.size + (kept s keep).size := by rw [hR]; simp
  have hz1 : (a.size : Int) ≤ R.size := by omega
  have hz2 : (R.size : Int) ≤ a.size + s.size := by omega
  have hz3 : (R.size : Int) ≤ 4000 := by omega
  have hq : a ++ s.extract 0 (R.size - a.size) = R := by
    rw [show R.size - a.size = (kept s keep).size by omega, kept_again, hR]
  have hq2 : R ++ s.extract (R.size - a.size) s.size = a ++ s := by
    rw [show R.size - a.size = (kept s keep).size by omega, hR, ByteArray.append_assoc, rest_again]
  have hq3 : (a ++ s).extract 0 a.size = a := ByteArray.extract_append_eq_left rfl
  have HR := Lib.hid hR; have HZ := Lib.hid hz; have HQ2 := Lib.hid hq2; have HQ3 := Lib.hid hq3; have HQ := Lib.hid hq
  clear hq2 hq3 hq
  clear hR hz
  go_enter Try.func4, Try.ntmps4
  go_wp2_with fail
  refine (new_one _).mono ?_
  rintro e w1 ⟨rfl, hl1, hb1⟩
  rw [← one_empty] at hb1
  go_wp2_with fail
  refine (awake17_any _).mono ?_
  rintro e w2 ⟨rfl, hl2⟩
  have hb2 := hb1.below hl2 hb1.lt
  have hl := hl1.trans (hl2.mono hl1.size)
  clear hl1 hl2 hb1
  go_wp2_with fail
  refine (one_append hb2 (by decide) (R := a) (by simp; omega) (by simp)).mono ?_
  rintro e w3 ⟨rfl, hd⟩
  have hl' := hl.trans (hd.below (Nat.le_refl _) hl.size)
  have hb3 := hd.2
  clear hd hl hb2
  go_wp2_with fail
  refine (one_tear hb3 (by omega) hf HR.out.symm).mono ?_
  rintro e w4 ⟨rfl, hd⟩
  have hl := hl'.trans (hd.below (Nat.le_refl _) hl'.size)
  have hb4 := hd.2
  clear hd hl' hb3
  go_wp2_with fail
  refine (one_read hb4 (by omega)).mono ?_
  rintro e w' ⟨rfl, rfl⟩
  go_wp2_with fail
  have hq := HQ.out
  have hd1 : decide ((R.size : Int) - a.size < 0) = false := by simp; omega
  have hd2 : decide ((s.size : Int) < R.size - a.size) = false := by simp; omega
  go_quiet ((go_at_call 19; exact quiet_left (one_read (hb4.drewN _) (by omega))))
  clear hq hd1 hd2
  go_wp2_with fail
  refine (one_append (hb4.drewN _) (by omega) (R := a ++ s) (s := s.extract (R.size - a.size) s.size) (by simp; omega) HQ2.out).mono ?_
  rintro e w5 ⟨rfl, hd⟩
  have hl' := (below_drewN hl _).trans (hd.below (Nat.le_refl _) hl.size)
  have hb5 := hd.2
  clear hd hl hb4
  go_wp2_with fail
  refine (one_read hb5 (by simp; omega)).mono ?_
  rintro e w' ⟨rfl, rfl⟩
  go_wp2_with fail
  refine (one_cut hb5 (by simp; omega) (m := a.size) (R := a) (by simp) HQ3.out).mono ?_
  rintro e w6 ⟨rfl, hd⟩
  have hl := hl'.trans (hd.below (Nat.le_refl _) hl'.size)
  have hb6 := hd.2
  clear hd hl' hb5
  go_wp2_with fail
  refine (one_read hb6 (by omega)).mono ?_
  rintro e w' ⟨rfl, rfl⟩
  go_wp2
  go_ret
  exact ⟨rfl, hl⟩

theorem core (a s : ByteArray) (keep : Int) (w : World) (ha : a.size ≤ 9223372036854775807) (hs : s.size ≤ 9223372036854775807) :
    Calls Try.prog 4 #[.string a, .string s, .int .i64 keep] w fun e w' => TrueBelow w e w' := by
  by_cases h : 4000 < (a.size : Int) ∨ 4000 < (s.size : Int)
  · exact start a s keep w ha hs h
  · by_cases hf : a.size + s.size ≤ 4000
    · exact room a s keep w hf
    · exact full a s keep w (by omega) (by omega) hf

theorem walk {H : Type} {enc : TypeId × Value → H} {W : World} {base : Nat} {args : Array Value} {ds : List (DataW H)} {ps : List MemPlace}
    (h : Handed enc Try.prog W base Try.f4.params.toList args ds ps) : Calls Try.prog 4 args W fun e w' => TrueBelow W e w' := by
  rw [Try.params4] at h
  have hval := h.val
  obtain ⟨v0, vs0, d0, ds0, p0, q0, hargs, rfl, rfl, h0, r0⟩ := trodAll_cons h.trod
  obtain ⟨v1, vs1, d1, ds1, p1, q1, rfl, rfl, rfl, h1, r1⟩ := trodAll_cons r0
  obtain ⟨v2, vs2, d2, ds2, p2, q2, rfl, rfl, rfl, h2, r2⟩ := trodAll_cons r1
  obtain ⟨rfl, rfl, rfl⟩ := trodAll_nil r2
  obtain rfl : args = #[v0, v1, v2] := by cases args; simp_all
  obtain ⟨a0, rfl, rfl, rfl, w0⟩ := open_string Try.underlying9 (hval 0 9 v0 rfl rfl) h0
  obtain ⟨a1, rfl, rfl, rfl, w1⟩ := open_string Try.underlying9 (hval 1 9 v1 rfl rfl) h1
  obtain ⟨a2, rfl, rfl, rfl, w2⟩ := open_int Try.underlying3 (hval 2 3 v2 rfl rfl) h2
  exact core a0 a1 a2 W (by unfold maxLen at w0; exact w0) (by unfold maxLen at w1; exact w1)


set_option maxRecDepth 100000 in
theorem lifted (os : Os) (started : os.Started) (H : Type) (enc : TypeId × Value → H) :
    ReturnsInHanded {} Try.checked os 4 .any (Rows.diskBackSpec.pre6 enc Try.prog Try.f4 Rows.diskBackRow.domain false) (Rows.diskBackSpec.post enc Try.prog Try.f4 false true false false) := by
  refine returnsInHanded_of_change_sized (C := Try.checked) own started (by kernel_rfl) Try.func4
    (ChangeSpec.witness6 (enc := enc) (C := Try.checked) false ⟨#[], #[.string ByteArray.empty, .string ByteArray.empty, .int .i64 0], []⟩ 8 (by kernel_rfl) (by kernel_rfl) (by kernel_rfl) (by kernel_rfl)) ?_
  intro W base args ds gs before hval hW _ hsz _
  refine (walk (handed_of hval hW rfl rfl hsz)).mono fun e W' ⟨he, hb⟩ => ?_
  subst he
  exact ⟨_, rfl, law_post hW rfl laidOut (by kernel_rfl) rfl Try.underlying4 (fun ds' h => by match ds', h with | [_, _, _], _ => rfl) hb⟩

theorem over : Rows.diskBackRow.holds Try.pinned (OpenSpec.ofChange Rows.diskBackSpec) :=
  OpenClaim.holds_of_wide 4 Try.f4 rfl rfl rfl rfl rfl rfl rfl ⟨rfl, rfl, rfl, rfl, rfl⟩ rfl rfl rfl rfl rfl (by kernel_rfl) Try.func4 (by kernel_rfl)
    (of_decide_eq_true (by kernel_rfl)) (by unfold Func.isWrapper; first | (rw [if_pos (by decide +kernel)]; kernel_rfl) | (rw [if_neg (by decide +kernel)]; exact ⟨rfl, rfl⟩))
    (fun os started H enc _ => lifted os started H enc)

theorem proved : Rows.DiskBackSaid :=
  over
#print axioms proved
end Go.Proofs.Ytiemfdglejenpaa.diskBack
