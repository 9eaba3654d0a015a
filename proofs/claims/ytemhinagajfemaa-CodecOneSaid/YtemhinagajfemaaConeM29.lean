/- What is written for a bool, and for a float. -/
import Derived.Test.YtemhinagajfemaaConeM6
import Derived.Test.YtemhinagajfemaaConeM28
import Derived.StillTailTactics
import Derived.Laws.Externs
namespace Go.Proofs.Ytemhinagajfemaa
set_option linter.unusedVariables false
open Go.RowKit

set_option maxHeartbeats 1000000 in
theorem canon_num (w : World) (f : Nat) (h : FloatKind.f64.format.order f f = some .eq) : Calls Try.prog 97 #[.float .f64 f] w fun e w' => e = .returned (.float .f64 f) ∧ w = w' := by
  go_enter Try.func97, Try.ntmps97
  go_wp2
  go_ret
  exact ⟨rfl, rfl⟩

set_option maxHeartbeats 1000000 in
set_option maxRecDepth 100000 in
theorem wvalue_bool (B b g : Nat) (l : List UInt8) (w : World) (h : WB w B b l) (hv : Blk w g 46 #[.int .i64 1, .int .i64 1, .float .f64 0, .string ByteArray.empty, .slice none 0 0, .slice none 0 0]) (hg : g < B) (hlen : l.length + 2 ≤ 140737488355328) (hBw : B ≤ w.heap.size) :
    Calls Try.prog 70 #[.pointer (some ⟨b, 0, none⟩), .pointer (some ⟨g, 0, none⟩)] w fun e w' => NumWrote B b (l ++ [1] ++ [1]) w e w' := by
  have c0 := hv.cell 0
  simp at c0
  have h1 := Lib.hid (wbyte_any B b l 1 w.drew h (by omega) hBw)
  have HV := Lib.hid hv
  clear h hv
  go_enter Try.func70, Try.ntmps70
  go_wp2
  go_still_tail 8, (by kernel_rfl)
  change wpList _ _ _ _ _ w.drew
  go_wp2_with fail
  refine h1.out.mono ?_
  rintro e w2 ⟨rfl, hw2, hb2⟩
  have hv2 := (HV.out.drew).below hb2 hg
  have d0 := hv2.cell 0
  have d1 := hv2.cell 1
  simp at d0 d1
  have hbA := ((Below.refl B w).drew).trans hb2
  have hzA : w.heap.size ≤ w2.drew.heap.size := hbA.size
  have h2 := Lib.hid (wbyte_any B b (l ++ [1]) 1 w2.drew hw2 (by simp; omega) (by omega))
  have HB2 := Lib.hid hbA
  clear hv2 hw2 hb2 h1 HV c0 hbA hzA
  go_wp2
  go_still_tail 8, (by kernel_rfl)
  change wpList _ _ _ _ _ w2.drew
  go_wp2_with fail
  refine h2.out.mono ?_
  rintro e w3 ⟨rfl, hw3, hb3⟩
  go_wp2
  first | go_end0 | refine bodyPost_ret (results_none rfl _ _ _) rfl ?_
  exact ⟨rfl, hw3, (HB2.out.drew).trans hb3⟩

theorem bits_run0 (f : Nat) (w : World) : (callFunc 74 #[.float .f64 f]).run Try.prog w = .ok (.value (.int .u64 f)) w := by
  rw [run_callFunc_extern Try.func74 (by kernel_rfl) (by kernel_rfl) (by kernel_rfl) (e := Extern.MathFloatBits.float64bits) (by kernel_rfl)]
  rfl

/-- The eight bytes of a float's bits, the highest ones first. -/
def fbyte (x k : Nat) : UInt8 := UInt8.ofNat (x / 2 ^ (56 - 8 * k) % 256)
theorem fbyte_nat (x k : Nat) : ((x : Int) / 2 ^ (56 - 8 * k) % 256) = ((fbyte x k).toNat : Int) := by
  have e : ((x : Int) / 2 ^ (56 - 8 * k) % 256) = ((x / 2 ^ (56 - 8 * k) % 256 : Nat) : Int) := by simp
  have h : (fbyte x k).toNat = x / 2 ^ (56 - 8 * k) % 256 := by unfold fbyte; simp
  rw [e, h]
def fbytes (x k : Nat) : List UInt8 := (List.range k).map (fbyte x)
theorem fbytes_succ (x k : Nat) : fbytes x (k + 1) = fbytes x k ++ [fbyte x k] := by simp [fbytes, List.range_succ]

set_option maxHeartbeats 2000000 in
set_option maxRecDepth 100000 in
theorem wvalue_float (B b g f : Nat) (l : List UInt8) (w : World) (h : WB w B b l) (hv : Blk w g 46 #[.int .i64 3, .int .i64 0, .float .f64 f, .string ByteArray.empty, .slice none 0 0, .slice none 0 0]) (hg : g < B) (hlen : l.length + 12 ≤ 140737488355328) (hBw : B ≤ w.heap.size)
    (hnum : FloatKind.f64.format.order f f = some .eq) :
    Calls Try.prog 70 #[.pointer (some ⟨b, 0, none⟩), .pointer (some ⟨g, 0, none⟩)] w fun e w' => NumWrote B b (l ++ [3] ++ fbytes f 8) w e w' := by
  have hbits := bits_run0 f
  have c0 := hv.cell 0
  simp at c0
  have h1 := Lib.hid (wbyte_any B b l 3 w.drew h (by omega) hBw)
  have HV := Lib.hid hv; have HNUM := Lib.hid hnum
  clear h hv hnum
  go_enter Try.func70, Try.ntmps70
  go_wp2
  go_still_tail 8, (by kernel_rfl)
  change wpList _ _ _ _ _ w.drew
  go_wp2_with fail
  refine h1.out.mono ?_
  rintro e w2 ⟨rfl, hw2, hb2⟩
  have hv2 := (HV.out.drew).below hb2 hg
  have d0 := hv2.cell 0
  have d2 := hv2.cell 2
  simp at d0 d2
  have hbA := ((Below.refl B w).drew).trans hb2
  have hzA : w.heap.size ≤ w2.heap.size := hbA.size
  have HW2 := Lib.hid hw2
  have HB2 := Lib.hid hbA
  clear hv2 hw2 hb2 h1 HV c0 hbA
  go_wp2_with (go_at_call 97; refine (canon_num _ f HNUM.out).mono ?_; rintro e w' ⟨rfl, rfl⟩)
  go_loopw [5] (fun sv wr => ∃ k : Nat, k ≤ 8 ∧ sv = .int .i64 (56 - 8 * (k : Int)) ∧ Hid (WB wr B b (l ++ [3] ++ fbytes f k)) ∧ Hid (Below B w wr)) (fun sv _ => (intOf sv + 8).toNat)
  case atStart => exact ⟨0, by omega, rfl, by simpa [fbytes] using HW2, HB2⟩
  case round =>
    obtain ⟨k, hk, rfl, HWB, HBL⟩ := hrel
    by_cases hlt : k < 8
    · have hc := wbyte_any B b (l ++ [3] ++ fbytes f k) (fbyte f k) wr.drew HWB.out (by simp [fbytes]; omega) (by have := HBL.out.size; show B ≤ wr.heap.size; omega)
      have HC := Lib.hid hc
      clear hc
      have hge : decide ((0 : Int) ≤ 56 - 8 * (k : Int)) = true := by simp; omega
      have hng : decide ((56 - 8 * (k : Int)) < 0) = false := by simp; omega
      go_wp2_with fail
      go_still_tail 7, (by kernel_rfl)
      change wpList _ _ _ _ _ wr.drew
      go_wp2_with fail
      rw [fbyte_nat f k]
      refine HC.out.mono ?_
      rintro e w3 ⟨rfl, hw3, hb3⟩
      have HW3 := Lib.hid hw3
      have HB3 := Lib.hid ((HBL.out.drew).trans hb3)
      clear hw3 hb3 HC HWB HBL
      go_wp2
      go_roundw
      case rel => exact ⟨k + 1, by omega, by go_num, by rw [fbytes_succ, ← List.append_assoc]; exact HW3, HB3⟩
      case measure => simp [intOf]; omega
    · obtain rfl : k = 8 := by omega
      have hge : decide ((0 : Int) ≤ 56 - 8 * ((8 : Nat) : Int)) = false := by simp
      go_wp2_with fail
      first | go_end0 | refine bodyPost_ret (results_none rfl _ _ _) rfl ?_
      exact ⟨rfl, HWB.out, HBL.out⟩

def Valued (s : ByteArray) (w : World) (e : Ending) (w' : World) : Prop := e = .returned (.tuple #[.string s, .int .i64 0]) ∧ Below w.heap.size w w'

set_option maxHeartbeats 1000000 in
theorem value_leaf (k n : Int) (f : Nat) (bs : List UInt8) (w : World) (hne : bs ≠ [])
    (hr : ∀ w, Calls Try.prog 65 #[.agg #[.int .i64 k, .int .i64 n, .float .f64 f, .string ByteArray.empty, .slice none 0 0, .slice none 0 0]] w fun e w' => e = .returned (.bool true) ∧ Below w.heap.size w w')
    (hw : ∀ (B b g : Nat) (w : World), WB w B b [] → Blk w g 46 #[.int .i64 k, .int .i64 n, .float .f64 f, .string ByteArray.empty, .slice none 0 0, .slice none 0 0] → g < B → B ≤ w.heap.size →
      Calls Try.prog 70 #[.pointer (some ⟨b, 0, none⟩), .pointer (some ⟨g, 0, none⟩)] w fun e w' => NumWrote B b bs w e w') :
    Calls Try.prog 33 #[.agg #[.int .i64 k, .int .i64 n, .float .f64 f, .string ByteArray.empty, .slice none 0 0, .slice none 0 0]] w fun e w' => Valued ⟨bs.toArray⟩ w e w' := by
  obtain ⟨W, hW⟩ : ∃ W, W = w.alloc (.cells #[.int .i64 k, .int .i64 n, .float .f64 f, .string ByteArray.empty, .slice none 0 0, .slice none 0 0] 46) := ⟨_, rfl⟩
  have hb : Blk W w.heap.size 46 #[.int .i64 k, .int .i64 n, .float .f64 f, .string ByteArray.empty, .slice none 0 0, .slice none 0 0] := by rw [hW]; exact Blk.new w 46 _
  have hB : Below w.heap.size w W := by rw [hW]; exact (Below.refl _ _).alloc (Nat.le_refl _) _
  have hlt := hb.lt
  have HR := Lib.hid (hr W)
  have HWV := Lib.hid hw; have HW := Lib.hid hW; have HB := Lib.hid hb; have HBL := Lib.hid hB
  clear hr hw hW hb hB
  go_enter Try.func33, Try.ntmps33
  go_wp2_with fail
  rw [← HW.out]
  refine HR.out.mono ?_
  rintro e w2 ⟨rfl, hl⟩
  have hb2 := HB.out.below hl hlt
  have hL2 := HBL.out.trans (hl.mono HBL.out.size)
  have hz2 : w.heap.size < w2.heap.size := hb2.lt
  have hwv := HWV.out w2.heap.size w2.heap.size w.heap.size (w2.alloc (.cells #[.pointer none, .slice none 0 0] 89)) (wb_new w2 _ (Nat.le_refl _)) (hb2.alloc _) hz2 (by simp)
  have HV := Lib.hid hwv
  have HL := Lib.hid (hL2.alloc hL2.size (.cells #[.pointer none, .slice none 0 0] 89))
  clear hwv hb2 hL2 HWV HR HB HBL HW hl
  go_wp2_with fail
  refine HV.out.mono ?_
  rintro e w3 ⟨rfl, hw3, hb3⟩
  have hs := Lib.hid (string_some w2.heap.size w2.heap.size w3 bs hw3 hne)
  have hz3 : w.heap.size ≤ w2.heap.size := by omega
  have HL3 := Lib.hid (HL.out.trans (hb3.mono hz3))
  clear hw3 hb3 HV HL
  go_wp2_with fail
  refine hs.out.mono ?_
  rintro e w4 ⟨rfl, hb4⟩
  have hL4 := HL3.out.trans (hb4.mono hz3)
  clear hb4 HL3 hs
  go_wp2
  go_ret2
  exact ⟨rfl, hL4⟩

theorem value_bool1 (w : World) : Calls Try.prog 33 #[.agg #[.int .i64 1, .int .i64 1, .float .f64 0, .string ByteArray.empty, .slice none 0 0, .slice none 0 0]] w fun e w' => Valued ⟨#[1, 1]⟩ w e w' :=
  value_leaf 1 1 0 [1, 1] w (by simp) right_bool1 (fun B b g w h hv hg hB => wvalue_bool B b g [] w h hv hg (by simp) hB)
theorem value_float15 (w : World) : Calls Try.prog 33 #[.agg #[.int .i64 3, .int .i64 0, .float .f64 4609434218613702656, .string ByteArray.empty, .slice none 0 0, .slice none 0 0]] w fun e w' => Valued ⟨#[3, 63, 248, 0, 0, 0, 0, 0, 0]⟩ w e w' :=
  value_leaf 3 0 4609434218613702656 [3, 63, 248, 0, 0, 0, 0, 0, 0] w (by simp) (fun w => right_float1 w _) (fun B b g w h hv hg hB => by
    have := wvalue_float B b g 4609434218613702656 [] w h hv hg (by simp) hB (by decide +kernel)
    have e : [] ++ [3] ++ fbytes 4609434218613702656 8 = [3, 63, 248, 0, 0, 0, 0, 0, 0] := by decide +kernel
    rw [e] at this
    exact this)
end Go.Proofs.Ytemhinagajfemaa
