/- Contracts of the reference of layer 6: Sum, Make, May. -/
import Derived.Test.YtiemfdglejenpaaFrameSpec
import Derived.Laws.BytesArg
namespace Go.Proofs.Ytiemfdglejenpaa.Ref06
set_option linter.unusedVariables false
open Go.RowKit Go.Proofs.Ytiemfdglejenpaa Go.Proofs.Ytiemfdglejenpaa.Crc

theorem st_odd {x : Nat} (h : x < 4294967296) (h1 : x % 2 = 1) : bits .xor .u32 ((x : Int) / 2) 3988292384 = ((st x : Nat) : Int) := by
  rw [show ((x : Int) / 2) = ((x / 2 : Nat) : Int) by omega, show (3988292384 : Int) = ((3988292384 : Nat) : Int) from rfl, u32_xor_nat _ _ (by omega) (by omega)]
  simp [st, h1, P]
theorem st_ev {x : Nat} (h1 : x % 2 = 0) : ((x : Int) / 2) = ((st x : Nat) : Int) := by
  simp [st, h1]
theorem byte_it {r b : Nat} : it 8 (r ^^^ b) = byte r b := rfl

set_option maxHeartbeats 1000000 in
theorem sum_any (s : ByteArray) (w : World) (hs : s.size ≤ 9223372036854775806) : Calls Try.prog 24 #[.string s] w fun e w' => e = .returned (.int .u32 (sum s.data.toList : Nat)) ∧ w = w' := by
  go_enter Try.func24, Try.ntmps24
  go_wp2
  go_loop [3, 4] (fun c v => ∃ k : Nat, k ≤ s.size ∧ v = .int .i64 k ∧ c = .int .u32 (run (s.data.toList.take k) : Nat)) (fun _ v => s.size - (intOf v).toNat)
  case atStart => exact ⟨0, Nat.zero_le _, rfl, rfl⟩
  case round =>
    obtain ⟨k, hk, rfl, rfl⟩ := hrel
    by_cases hlt : k < s.size
    · have hr := run_lt (s.data.toList.take k)
      obtain ⟨r, hrr⟩ : ∃ r, r = run (s.data.toList.take k) := ⟨_, rfl⟩
      rw [← hrr] at hr ⊢
      have hsn := run_snoc (s.data.toList.take k) s[k]
      rw [← take_snoc s k hlt, ← hrr] at hsn
      have HS := Lib.hid hsn
      clear hsn hrr
      have hb8 := s[k].toNat_lt
      have hx := u32_xor_nat r s[k].toNat hr (by omega)
      have hy : r ^^^ s[k].toNat < 4294967296 := Nat.xor_lt_two_pow (n := 32) (by omega) (by omega)
      go_wp2
      go_loop [3, 5] (fun c v => ∃ j : Nat, j ≤ 8 ∧ v = .int .i64 j ∧ c = .int .u32 (it j (r ^^^ s[k].toNat) : Nat)) (fun _ v => 8 - (intOf v).toNat)
      case atStart => exact ⟨0, by omega, rfl, rfl⟩
      case round =>
        obtain ⟨j, hj, rfl, rfl⟩ := hrel
        by_cases hj8 : j < 8
        · have hlt' := it_lt hy j
          obtain ⟨x, hxx⟩ : ∃ x, x = it j (r ^^^ s[k].toNat) := ⟨_, rfl⟩
          have HX := Lib.hid hxx
          rw [← hxx] at hlt' ⊢
          clear hxx hx hy
          by_cases hp : x % 2 = 1
          · have hb : (((x : Int) % 2) == 1) = true := by simp; omega
            have hst := st_odd hlt' hp
            clear hp
            go_wp2
            go_round
            case rel => exact ⟨j + 1, by omega, by go_num, by rw [HX.out]; rfl⟩
            case measure => simp [intOf]; omega
          · have hb : (((x : Int) % 2) == 1) = false := by simp; omega
            have hst := st_ev (x := x) (by omega)
            clear hp
            go_wp2
            go_round
            case rel => exact ⟨j + 1, by omega, by go_num, by rw [HX.out]; rfl⟩
            case measure => simp [intOf]; omega
        · obtain rfl : j = 8 := by omega
          go_wp2
          go_round
          case rel => exact ⟨k + 1, by omega, by go_num, by rw [HS.out]; rfl⟩
          case measure => simp [intOf]; omega
    · obtain rfl : k = s.size := by omega
      go_wp2
      go_ret
      exact ⟨congrArg Ending.returned (sum_end s), rfl⟩

set_option maxHeartbeats 400000 in
theorem may_any (s : ByteArray) (w : World) (hs : s.size ≤ 9223372036854775806) : Calls Try.prog 25 #[.string s] w fun e w' => e = .returned (.bool (decide (1 ≤ s.size ∧ s.size ≤ 2000))) ∧ w = w' := by
  by_cases h1 : 1 ≤ s.size
  · have hd : decide (1 ≤ (s.size : Int)) = true := by simp; omega
    have he : decide ((s.size : Int) ≤ 2000) = decide (1 ≤ s.size ∧ s.size ≤ 2000) := by
      by_cases h2 : s.size ≤ 2000 <;> simp [h1, h2] <;> omega
    rw [← he]
    clear he
    go_enter Try.func25, Try.ntmps25
    go_wp2
    go_ret
    exact ⟨rfl, rfl⟩
  · have hd : decide (1 ≤ (s.size : Int)) = false := by simp; omega
    have he : decide (1 ≤ s.size ∧ s.size ≤ 2000) = false := by simp [h1]
    rw [he]
    clear he
    go_enter Try.func25, Try.ntmps25
    go_wp2
    go_ret
    exact ⟨rfl, rfl⟩

theorem conv2 (W : World) (a b : Int) (c : Nat) : (convert 46 9 (.slice (some ⟨W.heap.size, 0, none⟩) 2 c)).run Try.prog (W.alloc (.cells #[.int .u8 a, .int .u8 b] 5)) = .ok (.string (strOfNums [a, b])) (W.alloc (.cells #[.int .u8 a, .int .u8 b] 5)) :=
  run_convert_bytes_arg (P := Try.prog) _ 46 5 Try.underlying46 Try.underlying5 W.heap.size 0 2 c [a, b] rfl (fun i hi => by
    have hb := Blk.new W 5 #[.int .u8 a, .int .u8 b]
    rw [hb.cell]
    match i, hi with
    | 0, _ => rfl
    | 1, _ => rfl) _ Try.underlying9
theorem conv4 (W : World) (g : Nat) (a b d f : Int) (c : Nat) (hg : g = W.heap.size) : (convert 46 9 (.slice (some ⟨g, 0, none⟩) 4 c)).run Try.prog (W.alloc (.cells #[.int .u8 a, .int .u8 b, .int .u8 d, .int .u8 f] 5)) = .ok (.string (strOfNums [a, b, d, f])) (W.alloc (.cells #[.int .u8 a, .int .u8 b, .int .u8 d, .int .u8 f] 5)) :=
  run_convert_bytes_arg (P := Try.prog) _ 46 5 Try.underlying46 Try.underlying5 g 0 4 c [a, b, d, f] rfl (fun i hi => by
    subst hg
    have hb := Blk.new W 5 #[.int .u8 a, .int .u8 b, .int .u8 d, .int .u8 f]
    rw [hb.cell]
    match i, hi with
    | 0, _ => rfl
    | 1, _ => rfl
    | 2, _ => rfl
    | 3, _ => rfl) _ Try.underlying9

set_option maxHeartbeats 1000000 in
theorem make_any (s : ByteArray) (w : World) (hs : s.size ≤ 2000) : Calls Try.prog 26 #[.string s] w fun e w' => Framed s w e w' := by
  have h2 := conv2
  have h4 := conv4
  have hz2 : ∀ a b : Int, (strOfNums [a, b]).size = 2 := fun a b => strOfNums_size _
  have hz4 : ∀ a b c d : Int, (strOfNums [a, b, c, d]).size = 4 := fun a b c d => strOfNums_size _
  go_enter Try.func26, Try.ntmps26
  go_wp2_with fail
  refine (sum_any (strOfNums [(s.size : Int) / 256, (s.size : Int) % 256] ++ s) _ (by rw [ByteArray.size_append, strOfNums_size]; simp; omega)).mono ?_
  rintro e w' ⟨rfl, rfl⟩
  obtain ⟨c, hc⟩ : ∃ c, c = sum ((strOfNums [(s.size : Int) / 256, (s.size : Int) % 256] ++ s).data.toList) := ⟨_, rfl⟩
  have hlt := sum_lt ((strOfNums [(s.size : Int) / 256, (s.size : Int) % 256] ++ s).data.toList)
  rw [← hc] at hlt ⊢
  have HC := Lib.hid hc
  clear hc
  go_wp2_with fail
  go_ret
  refine ⟨?_, ?_⟩
  · rw [framed_eq HC.out]
    rfl
  · exact ((Below.refl _ _).alloc (Nat.le_refl _) _).alloc (by simp) _
end Go.Proofs.Ytiemfdglejenpaa.Ref06
