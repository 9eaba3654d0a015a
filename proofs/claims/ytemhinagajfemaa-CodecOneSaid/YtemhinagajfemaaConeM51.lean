/- The law package's 'awake' of layer 5 answers true. -/
import Derived.Test.YtemhinagajfemaaConeM25
import Derived.Test.YtemhinagajfemaaConeM29
import Derived.Test.YtemhinagajfemaaConeM50
namespace Go.Proofs.Ytemhinagajfemaa
set_option linter.unusedVariables false
open Go.RowKit

theorem torn_1 : readU ⟨#[128, 0]⟩ 0 0 0 = .error 5 := by
  rw [readU_on (by decide) (by decide) (by decide)]
  exact readU_bad (by decide) (by decide)
theorem read_300 : readU ⟨#[172, 2]⟩ 0 0 0 = .ok (300, 2) := by
  rw [readU_on (by decide) (by decide) (by decide), readU_end (by decide) (by decide) (by decide)]
  rfl
theorem uint_300 : uintS 300 = ⟨#[172, 2]⟩ := by
  unfold uintS
  rw [ub_great (by omega), ub_small (by omega)]
  rfl
theorem int_m3 : intS (-3) = ⟨#[5]⟩ := by
  unfold intS uintS
  rw [show zig (-3) = 5 from by decide, ub_small (by omega)]
  rfl
theorem str_ab : strS ⟨#[97, 98]⟩ = ⟨#[2, 97, 98]⟩ := by
  unfold strS
  rw [show (⟨#[97, 98]⟩ : ByteArray).size = 2 from rfl, ub_small (by omega)]
  rfl
theorem ru_bad (w : World) : Calls Try.prog 14 #[.string ⟨#[128, 0]⟩, .int .i64 0] w fun e w' => Below w.heap.size w w' ∧ e = .returned (.tuple #[.int .u64 0, .int .i64 0, .int .i64 5]) := by
  have := readuint_any ⟨#[128, 0]⟩ 0 w (by decide) (by decide)
  unfold UintRead at this
  rw [torn_1] at this
  exact this
theorem ru_300 (w : World) : Calls Try.prog 14 #[.string ⟨#[172, 2]⟩, .int .i64 0] w fun e w' => Below w.heap.size w w' ∧ e = .returned (.tuple #[.int .u64 300, .int .i64 2, .int .i64 0]) := by
  have := readuint_any ⟨#[172, 2]⟩ 0 w (by decide) (by decide)
  unfold UintRead at this
  rw [read_300] at this
  exact this
theorem u_300 (w : World) : Calls Try.prog 13 #[.int .u64 300] w fun e w' => Told ⟨#[172, 2]⟩ w.heap.size w e w' := by
  have := uint_any 300 w (by omega)
  rw [uint_300] at this
  exact this
theorem i_m3 (w : World) : Calls Try.prog 39 #[.int .i64 (-3)] w fun e w' => Told ⟨#[5]⟩ w.heap.size w e w' := by
  have := int_any (-3) w (by omega) (by omega)
  rw [int_m3] at this
  exact this
theorem s_ab (w : World) : Calls Try.prog 41 #[.string ⟨#[97, 98]⟩] w fun e w' => Told ⟨#[2, 97, 98]⟩ w.heap.size w e w' := by
  have := str_any ⟨#[97, 98]⟩ w (by decide)
  rw [str_ab] at this
  exact this

set_option maxHeartbeats 2000000 in
theorem awake05_any (w : World) : Calls Try.prog 12 #[] w fun e w' => TrueBelow w e w' := by
  go_enter Try.func12, Try.ntmps12
  go_wp2_with fail
  refine (value_bool1 _).mono ?_
  rintro e w1 ⟨rfl, hl⟩
  go_wp2_with fail
  refine (value_float15 _).mono ?_
  rintro e w2 ⟨rfl, h⟩
  have hl2 := hl.trans (h.mono hl.size)
  clear hl h
  go_wp2_with fail
  refine (ru_bad _).mono ?_
  rintro e w3 ⟨h, rfl⟩
  have hl := hl2.trans (h.mono hl2.size)
  clear hl2 h
  go_wp2_with fail
  refine (ru_300 _).mono ?_
  rintro e w4 ⟨h, rfl⟩
  have hl2 := hl.trans (h.mono hl.size)
  clear hl h
  go_wp2_with fail
  refine (u_300 _).mono ?_
  rintro e w5 ⟨rfl, h⟩
  have hl := hl2.trans (h.mono hl2.size)
  clear hl2 h
  go_wp2_with fail
  refine (i_m3 _).mono ?_
  rintro e w6 ⟨rfl, h⟩
  have hl2 := hl.trans (h.mono hl.size)
  clear hl h
  go_wp2_with fail
  refine (s_ab _).mono ?_
  rintro e w7 ⟨rfl, h⟩
  have hl := hl2.trans (h.mono hl2.size)
  clear hl2 h
  go_wp2
  go_ret
  exact ⟨rfl, hl⟩
end Go.Proofs.Ytemhinagajfemaa
