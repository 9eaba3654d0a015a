/- The contract of frame.Make. -/
import Derived.Test.YtiemfdglejenpaaFrameSpec
import Derived.Lib.AppendStr
import Derived.Lib.Strings
import Derived.Deep.AppendLies
namespace Go.Proofs.Ytiemfdglejenpaa
set_option linter.unusedVariables false
open Go.RowKit Go.Proofs.Ytiemfdglejenpaa.Crc

theorem byte_info : (Try.prog.info? 5).map (fun i => (i.zero, i.size, i.bytes)) = some (some (.int .u8 0), 1, 1) := by kernel_rfl

/-- v is a slice of the call's own that holds just these bytes. -/
def OwnI (w : World) (base : Nat) (v : Value) (xs : List Int) : Prop := w.ownsRow base 5 1 v xs.length (xs.map (Value.int .u8))

theorem conv_own {w : World} {base g n cap : Nat} {xs : List Int} (h : w.ownsRow base 5 1 (.slice (some ⟨g, 0, none⟩) n cap) n (xs.map (Value.int .u8))) :
    (convert (46 : Nat) (9 : Nat) (.slice (some ⟨g, 0, none⟩) n cap)).run Try.prog w = .ok (.string (strOfNums xs)) w := by
  have hl : xs.length = n := by have := h.1; simpa using this
  refine run_convert_bytes_arg (P := Try.prog) w 46 5 Try.underlying46 Try.underlying5 g 0 n cap xs hl (fun i hi => ?_) _ Try.underlying9
  have := h.cells (g := g) rfl i (.int .u8 (xs.getD i 0)) (by simp [List.getD, show i < xs.length by omega])
  rwa [Addr.add_lit] at this

theorem strOfNums_append (xs ys : List Int) : strOfNums (xs ++ ys) = strOfNums xs ++ strOfNums ys := by
  unfold strOfNums
  apply ByteArray.ext
  simp
theorem strOfNums_cells (s : ByteArray) : strOfNums (s.data.toList.map fun b => (b.toNat : Int)) = s := by
  unfold strOfNums
  apply ByteArray.ext
  have e : ((fun n : Int => UInt8.ofNat n.toNat) ∘ fun b : UInt8 => (b.toNat : Int)) = id := by
    funext b; simp
  simp [e]
theorem str_nonempty {s : ByteArray} (h : 1 ≤ s.size) : s.toList.isEmpty = false := by
  cases h0 : s.toList with
  | nil =>
    exfalso
    have e : s = ByteArray.empty := by
      have := Lib.toList_data s
      rw [h0] at this
      apply ByteArray.ext
      simpa using this.symm
    subst e
    simp at h
  | cons a l => rfl

set_option maxHeartbeats 400000 in
theorem make_bad (s : ByteArray) (w : World) (hs : s.size ≤ 9223372036854775807) (hb : s.size = 0 ∨ 2000 < s.size) :
    Calls Try.prog 22 #[.string s] w fun e w' => e = .returned (.tuple #[.string ByteArray.empty, .int .i64 2]) ∧ w = w' := by
  by_cases h0 : s.size = 0
  · obtain rfl : s = ByteArray.empty := ByteArray.size_eq_zero_iff.1 h0
    clear hb hs h0
    go_enter Try.func22, Try.ntmps22
    go_wp2
    go_ret2
    exact ⟨rfl, rfl⟩
  · have h1 : (2000 : Int) < s.size := by omega
    clear hb h0
    go_enter Try.func22, Try.ntmps22
    go_wp2
    all_goals go_ret2
    all_goals exact ⟨rfl, rfl⟩

/-- The first k bytes of a sum. -/
def tails (c k : Nat) : List Int := [(c : Int) % 256, (c : Int) / 256 % 256, (c : Int) / 65536 % 256, (c : Int) / 16777216].take k

def tailCell (c k : Nat) : Array Value := #[.int .u8 ((tails c 4).getD k 0)]
/-- The frame is handed back without an error; what was there is as it was. -/
def Made (s : ByteArray) (w : World) (e : Ending) (w' : World) : Prop := e = .returned (.tuple #[.string (frameOf s), .int .i64 0]) ∧ Below w.heap.size w w'

set_option maxHeartbeats 1000000 in
theorem make_ok (s : ByteArray) (w : World) (h1 : 1 ≤ s.size) (h2 : s.size ≤ 2000) : Calls Try.prog 22 #[.string s] w fun e w' => Made s w e w' := by
  obtain ⟨i0, hi0, hz0, hz1, hz2⟩ := info_parts byte_info
  have hne := str_nonempty h1
  have h2' : (s.size : Int) ≤ 2000 := by omega
  go_enter Try.func22, Try.ntmps22
  go_wp2_with (first
    | (at_make; refine wpList_make_own _ rfl (.const (.int .i64 0)) (.tmp 17) 46 rfl w.heap.size 5 i0 (.int .u8 0) 1 Try.underlying46 hi0 hz0 hz1 .i64 .i64 _ (s.size + 6) rfl rfl (by omega) (by rw [hz2]; omega) (by unfold maxLen; omega) (Nat.le_refl _) ?_; intro w1 hown1 hg1; have hb1 : Below w.heap.size w w1 := (Below.refl _ _).grown hg1 (Nat.le_refl _) (by simp))
    | (at_builtin; refine wpList_append_own _ rfl (.tmp 19) (.tmp 27) 46 rfl w.heap.size 5 i0 (.int .u8 0) 1 1 Try.underlying46 hi0 hz0 hz1 hz2 rfl (by decide) _ 0 [] rfl (hown1.alloc _) ⟨w1.heap.size, 0, none⟩ 2 2 [_, _] rfl rfl (cells_new w1 _ _) ?h1 (by unfold maxLen; omega) (by omega) (by have := hb1.size; simp; omega) ?_))
  case h1 => intro u hu; simp at hu; rcases hu with rfl | rfl <;> rfl
  intro v2 w2 hown2 hg2 _
  have hb1' : Below w.heap.size w (w1.alloc (.cells #[.int .u8 ((s.size : Int) / 256), .int .u8 ((s.size : Int) % 256)] 5)) := hb1.alloc hb1.size _
  have hb2 := Below.own hb1' (hown1.alloc _) hg2 hb1'.size
  clear hb1' hg2 hown1 hb1
  go_wp2_with (at_builtin; refine Lib.wpList_append_own_string _ rfl (.tmp 29) (.tmp 30) 46 9 rfl w.heap.size 5 i0 Try.underlying46 Try.underlying9 hi0 hz0 hz1 hz2 v2 2 _ rfl hown2 s rfl (by unfold maxLen; omega) (by omega) hb2.size ?_; intro v3 w3 hown3 hg3 _)
  have hb3 := Below.own hb2 hown2 hg3 hb2.size
  clear hg3 hown2 hb2
  have hxs : ([Value.int .u8 ((s.size : Int) / 256), .int .u8 ((s.size : Int) % 256)] ++ Lib.strCells s) = ([(s.size : Int) / 256, (s.size : Int) % 256] ++ s.data.toList.map fun b => (b.toNat : Int)).map (Value.int .u8) := by
    simp [Lib.strCells, Function.comp_def]
  have hsx : strOfNums ([(s.size : Int) / 256, (s.size : Int) % 256] ++ s.data.toList.map fun b => (b.toNat : Int)) = headOf s ++ s := by
    rw [strOfNums_append, strOfNums_cells]; rfl
  rw [hxs] at hown3
  obtain ⟨g3, cap3, hv3, _, _⟩ := hown3.form (by omega)
  rw [hv3] at hown3 ⊢
  have hcv := conv_own hown3
  rw [hsx] at hcv
  clear hxs hv3
  have HSX := Lib.hid hsx
  clear hsx
  rw [hcv]
  go_wp2_with fail
  have hcv' := Lib.hid hcv
  clear hcv
  have hz : (headOf s).size = 2 := strOfNums_size _
  refine (sum_any (headOf s ++ s) _ (by rw [ByteArray.size_append, hz]; omega)).mono ?_
  rintro e w4 ⟨rfl, hl4⟩
  have hown4 := hown3.kept (World.grownBy.mk hl4.os hl4.tape hl4.output hl4.size (fun k hk _ => hl4.block k hk) : w3.grownBy w4 none) (.inr (by simp [Value.ownBlock]))
  have hb4 := hb3.trans (hl4.mono hb3.size)
  clear hown3 hb3 hl4 hcv'
  obtain ⟨c, hc⟩ : ∃ c, c = sum (headOf s ++ s).data.toList := ⟨_, rfl⟩
  have hlt := sum_lt (headOf s ++ s).data.toList
  rw [← hc] at hlt ⊢
  have HC := Lib.hid hc
  clear hc
  obtain ⟨hs, hhs⟩ : ∃ hs, hs = ([(s.size : Int) / 256, (s.size : Int) % 256] ++ s.data.toList.map fun b => (b.toNat : Int)) := ⟨_, rfl⟩
  rw [← hhs] at hown4 HSX
  have hlen : hs.length = 2 + s.size := by rw [hhs]; simp; omega
  have HLEN := Lib.hid hlen
  clear hhs hlen
  go_wp2_with fail
  go_loopw [4, 6] (fun v sh wr => ∃ k : Nat, k ≤ 4 ∧ sh = .int .i64 ((8 * k : Nat) : Int) ∧ wr.ownsRow w.heap.size 5 1 v (2 + s.size + k) ((hs ++ tails c k).map (Value.int .u8)) ∧ Below w.heap.size w wr) (fun _ sh _ => (32 - intOf sh).toNat)
  case atStart => exact ⟨0, by omega, rfl, by simpa [tails] using hown4, hb4⟩
  case round =>
    obtain ⟨k, hk, rfl, hown, hb⟩ := hrel
    by_cases hk4 : k < 4
    · obtain rfl | rfl | rfl | rfl : k = 0 ∨ k = 1 ∨ k = 2 ∨ k = 3 := by omega
      · go_wp2_with (at_builtin; refine wpList_append_own _ rfl (.tmp 39) (.tmp 44) 46 rfl w.heap.size 5 i0 (.int .u8 0) 1 1 Try.underlying46 hi0 hz0 hz1 hz2 rfl (by decide) _ _ _ rfl (hown.alloc _) ⟨wr.heap.size, 0, none⟩ 1 1 [_] rfl rfl (cells_new wr _ _) (by intro u hu; simp at hu; subst hu; rfl) (by unfold maxLen; omega) (by omega) (by have := hb.size; simp; omega) ?_; intro v' w' hown' hg' _)
        have hba := hb.alloc hb.size (.cells (tailCell c 0) 5)
        have hb' := Below.own hba (hown.alloc _) hg' hba.size
        go_roundw
        case rel => exact ⟨0 + 1, by omega, rfl, by simpa [tails] using hown', hb'⟩
        case measure => simp [intOf]
      · go_wp2_with (at_builtin; refine wpList_append_own _ rfl (.tmp 39) (.tmp 44) 46 rfl w.heap.size 5 i0 (.int .u8 0) 1 1 Try.underlying46 hi0 hz0 hz1 hz2 rfl (by decide) _ _ _ rfl (hown.alloc _) ⟨wr.heap.size, 0, none⟩ 1 1 [_] rfl rfl (cells_new wr _ _) (by intro u hu; simp at hu; subst hu; rfl) (by unfold maxLen; omega) (by omega) (by have := hb.size; simp; omega) ?_; intro v' w' hown' hg' _)
        have hba := hb.alloc hb.size (.cells (tailCell c 1) 5)
        have hb' := Below.own hba (hown.alloc _) hg' hba.size
        go_roundw
        case rel => exact ⟨1 + 1, by omega, rfl, by simpa [tails] using hown', hb'⟩
        case measure => simp [intOf]
      · go_wp2_with (at_builtin; refine wpList_append_own _ rfl (.tmp 39) (.tmp 44) 46 rfl w.heap.size 5 i0 (.int .u8 0) 1 1 Try.underlying46 hi0 hz0 hz1 hz2 rfl (by decide) _ _ _ rfl (hown.alloc _) ⟨wr.heap.size, 0, none⟩ 1 1 [_] rfl rfl (cells_new wr _ _) (by intro u hu; simp at hu; subst hu; rfl) (by unfold maxLen; omega) (by omega) (by have := hb.size; simp; omega) ?_; intro v' w' hown' hg' _)
        have hba := hb.alloc hb.size (.cells (tailCell c 2) 5)
        have hb' := Below.own hba (hown.alloc _) hg' hba.size
        go_roundw
        case rel => exact ⟨2 + 1, by omega, rfl, by simpa [tails] using hown', hb'⟩
        case measure => simp [intOf]
      · go_wp2_with (at_builtin; refine wpList_append_own _ rfl (.tmp 39) (.tmp 44) 46 rfl w.heap.size 5 i0 (.int .u8 0) 1 1 Try.underlying46 hi0 hz0 hz1 hz2 rfl (by decide) _ _ _ rfl (hown.alloc _) ⟨wr.heap.size, 0, none⟩ 1 1 [_] rfl rfl (cells_new wr _ _) (by intro u hu; simp at hu; subst hu; rfl) (by unfold maxLen; omega) (by omega) (by have := hb.size; simp; omega) ?_; intro v' w' hown' hg' _)
        have hba := hb.alloc hb.size (.cells (tailCell c 3) 5)
        have hb' := Below.own hba (hown.alloc _) hg' hba.size
        go_roundw
        case rel => exact ⟨3 + 1, by omega, rfl, by simpa [tails] using hown', hb'⟩
        case measure => simp [intOf]
    · obtain rfl : k = 4 := by omega
      obtain ⟨g, cap, hv, _, _⟩ := hown.form (by omega)
      subst hv
      have hcv := conv_own hown
      rw [strOfNums_append, HSX.out] at hcv
      go_wp2
      go_ret2
      refine ⟨?_, hb⟩
      rw [framed_eq HC.out]
      rfl

end Go.Proofs.Ytiemfdglejenpaa
