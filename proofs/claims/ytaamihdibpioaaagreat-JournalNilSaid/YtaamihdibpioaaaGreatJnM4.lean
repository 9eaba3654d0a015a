/- Contracts of package frame. -/
import Derived.Test.YtaamihdibpioaaaGreatJnM1
import Derived.Test.YtaamihdibpioaaaGreatJnM3
import Derived.Test.YtaamihdibpioaaaGreatProg
import Derived.RegionTactic
import Derived.KernelRfl
import Derived.Deep.QuietTactic
import Derived.BigQuiet
import Derived.Laws.BytesArg
namespace Go.Proofs.YtaamihdibpioaaaGreat
set_option linter.unusedVariables false
open Go.RowKit

namespace Crc
def it : Nat → Nat → Nat
  | 0, i => i
  | k + 1, i => st (it k i)
theorem it4 (i : Nat) : it 4 i = st4 i := rfl
theorem it_lt {i : Nat} (h : i < 4294967296) : ∀ k, it k i < 4294967296
  | 0 => h
  | k + 1 => st_lt (it_lt h k)
end Crc
open Crc

/-- One bit, as the program says it. -/
theorem st_go {x : Nat} (h : x < 4294967296) : bits .xor .u32 ((x : Int) / 2) (bits .and .u32 3988292384 (-bits .and .u32 (x : Int) 1 % 4294967296)) = (st x : Nat) := by
  have e1 : bits .and .u32 (x : Int) 1 = ((x % 2 : Nat) : Int) := by
    have := u32_and_nat x 1 h (by omega)
    rw [nat_mask1] at this
    exact this
  rw [e1]
  have h2 : x % 2 = 0 ∨ x % 2 = 1 := by omega
  have hd : ((x : Int) / 2) = ((x / 2 : Nat) : Int) := by omega
  rcases h2 with h2 | h2
  · rw [h2, hd]
    rw [show (-((0 : Nat) : Int) % 4294967296) = ((0 : Nat) : Int) by decide, show (3988292384 : Int) = ((3988292384 : Nat) : Int) from rfl, u32_and_nat _ _ (by omega) (by omega), u32_xor_nat _ _ (by omega) (by simp)]
    simp [st, h2]
  · rw [h2, hd]
    rw [show (-((1 : Nat) : Int) % 4294967296) = ((4294967295 : Nat) : Int) by decide, show (3988292384 : Int) = ((3988292384 : Nat) : Int) from rfl, u32_and_nat _ _ (by omega) (by omega), show 3988292384 &&& 4294967295 = P from by decide, u32_xor_nat _ _ (by omega) (by decide)]
    simp [st, h2]

/-- One byte, as the program says it: each step's result has a name. -/
theorem byte_go {r b : Nat} (hr : r < 4294967296) (hb : b < 256) : ∃ y1 m1 y2 m2 y3 : Nat, bits .xor .u32 (r : Int) (b : Int) = (y1 : Int) ∧ bits .and .u32 (y1 : Int) 15 = (m1 : Int) ∧
    bits .xor .u32 ((y1 : Int) / 16) ((st4 m1 : Nat) : Int) = (y2 : Int) ∧ bits .and .u32 (y2 : Int) 15 = (m2 : Int) ∧ bits .xor .u32 ((y2 : Int) / 16) ((st4 m2 : Nat) : Int) = (y3 : Int) ∧
    m1 < 16 ∧ m2 < 16 ∧ st4 m1 = st4 m1 ∧ st4 m2 = st4 m2 ∧ byte r b = y3 := by
  have h1 : r ^^^ b < 4294967296 := Nat.xor_lt_two_pow (n := 32) (by omega) (by omega)
  have key : ∀ y : Nat, y < 4294967296 → bits .and .u32 (y : Int) 15 = ((y % 16 : Nat) : Int) ∧ bits .xor .u32 ((y : Int) / 16) ((st4 (y % 16) : Nat) : Int) = ((st4 y : Nat) : Int) := by
    intro y hy
    refine ⟨?_, ?_⟩
    · have := u32_and_nat y 15 hy (by omega)
      rw [nat_mask4] at this
      exact this
    · rw [show ((y : Int) / 16) = ((y / 16 : Nat) : Int) by omega, u32_xor_nat _ _ (by omega) (st4_lt (by omega)), st4_half]
  obtain ⟨a1, x1⟩ := key _ h1
  obtain ⟨a2, x2⟩ := key _ (st4_lt h1)
  exact ⟨r ^^^ b, (r ^^^ b) % 16, st4 (r ^^^ b), st4 (r ^^^ b) % 16, st4 (st4 (r ^^^ b)), u32_xor_nat _ _ hr (by omega), a1, x1, a2, x2, by omega, by omega, rfl, rfl, rfl⟩

/-- The table's cells when i of its entries are laid. -/
def tabC (i : Nat) : Array Value := ((List.range 16).map fun j => Value.int .u32 (if j < i then (st4 j : Int) else 0)).toArray
theorem tabC_at {i j : Nat} (h : j < 16) : (tabC i)[j]? = some (.int .u32 (if j < i then (st4 j : Int) else 0)) := by simp [tabC, h]
theorem tabC_set {i : Nat} (h : i < 16) : (tabC i).setIfInBounds i (.int .u32 (st4 i)) = tabC (i + 1) := by
  apply Array.ext
  · simp [tabC]
  · intro j h1 h2
    by_cases e : i = j
    · subst e; simp [tabC]
    · have : (j < i) ↔ (j < i + 1) := by omega
      rw [Array.getElem_setIfInBounds_ne (by simpa using h1) e]
      simp [tabC, this]
def tabV : Array Value := tabC 16

theorem Blk.same {w : World} {g i : Nat} {t : TypeId} {cs : Array Value} {u : Value} (h : Blk w g t cs) (hi : cs[i]? = some u) : Blk (w.setCell ⟨g, i, none⟩ u) g t cs := by
  have h1 := h.set_ i u
  have e : cs.setIfInBounds i u = cs := by
    apply Array.ext
    · simp
    · intro j h1 h2
      by_cases e : i = j
      · subst e
        have := (Array.getElem?_eq_some_iff.1 hi).2
        simp [this]
      · rw [Array.getElem_setIfInBounds_ne (by simpa using h1) e]
  rw [e] at h1
  exact h1

theorem below_set0 {g o : Nat} {a w : World} {u : Value} (h : Below g a w) : Below g a (w.setCell ⟨g, o, none⟩ u) := h.setCell (p := ⟨g, o, none⟩) (Nat.le_refl _) u

def Tabled (w : World) (e : Ending) (w' : World) : Prop := e = .returned (.agg tabV) ∧ Below w.heap.size w w'

set_option maxHeartbeats 1000000 in
theorem table_any (w : World) : Calls Tryz.prog 103 #[] w fun e w' => Tabled w e w' := by
  go_enter Tryz.func103, Tryz.ntmps103
  go_wp2
  go_loopw [3] (fun v wr => ∃ i : Nat, i ≤ 16 ∧ v = .int .i64 i ∧ Blk wr w.heap.size 173 (tabC i) ∧ Below w.heap.size w wr) (fun v _ => 16 - (intOf v).toNat)
  case atStart => exact ⟨0, by omega, rfl, by rw [show tabC 0 = #[Value.int .u32 0, .int .u32 0, .int .u32 0, .int .u32 0, .int .u32 0, .int .u32 0, .int .u32 0, .int .u32 0, .int .u32 0, .int .u32 0, .int .u32 0, .int .u32 0, .int .u32 0, .int .u32 0, .int .u32 0, .int .u32 0] from rfl]; exact Blk.new _ _ _, (Below.refl _ _).alloc (Nat.le_refl _) _⟩
  case round =>
    obtain ⟨i, hi, rfl, hb, hl⟩ := hrel
    have hlt0 := hb.lt
    by_cases hlt : i < 16
    · have h32 : i < 4294967296 := by omega
      have hc := hb.cell i
      rw [tabC_at hlt] at hc
      have hf := hb.frozen i
      go_wp2
      go_loop [2, 8] (fun c v => ∃ k : Nat, k ≤ 4 ∧ v = .int .i64 k ∧ c = .int .u32 (it k i : Nat)) (fun _ v => 4 - (intOf v).toNat)
      case atStart => exact ⟨0, by omega, rfl, rfl⟩
      case round =>
        obtain ⟨k, hk, rfl, rfl⟩ := hrel
        have hx := it_lt h32 k
        by_cases hk4 : k < 4
        · obtain ⟨x, hxx⟩ : ∃ x, x = it k i := ⟨_, rfl⟩
          have HX := Lib.hid hxx
          rw [← hxx] at hx ⊢
          clear hxx
          have hst := st_go hx
          go_wp2
          go_round
          case rel => exact ⟨k + 1, by omega, by go_num, by rw [HX.out]; rfl⟩
          case measure => simp [intOf]; omega
        · obtain rfl : k = 4 := by omega
          go_wp2
          go_roundw
          case rel => exact ⟨i + 1, by omega, by go_num, by rw [it4, ← tabC_set hlt]; exact hb.set_ i _, hl.setCell (Nat.le_refl _) _⟩
          case measure => simp [intOf]; omega
    · obtain rfl : i = 16 := by omega
      have c0 : wr.cell? ⟨w.heap.size, 0, none⟩ = some (.int .u32 (st4 0 : Nat)) := by rw [hb.cell, tabC_at (by omega)]; rfl
      have f0 := hb.frozen 0
      have c1 : wr.cell? ⟨w.heap.size, 1, none⟩ = some (.int .u32 (st4 1 : Nat)) := by rw [hb.cell, tabC_at (by omega)]; rfl
      have f1 := hb.frozen 1
      have c2 : wr.cell? ⟨w.heap.size, 2, none⟩ = some (.int .u32 (st4 2 : Nat)) := by rw [hb.cell, tabC_at (by omega)]; rfl
      have f2 := hb.frozen 2
      have c3 : wr.cell? ⟨w.heap.size, 3, none⟩ = some (.int .u32 (st4 3 : Nat)) := by rw [hb.cell, tabC_at (by omega)]; rfl
      have f3 := hb.frozen 3
      have c4 : wr.cell? ⟨w.heap.size, 4, none⟩ = some (.int .u32 (st4 4 : Nat)) := by rw [hb.cell, tabC_at (by omega)]; rfl
      have f4 := hb.frozen 4
      have c5 : wr.cell? ⟨w.heap.size, 5, none⟩ = some (.int .u32 (st4 5 : Nat)) := by rw [hb.cell, tabC_at (by omega)]; rfl
      have f5 := hb.frozen 5
      have c6 : wr.cell? ⟨w.heap.size, 6, none⟩ = some (.int .u32 (st4 6 : Nat)) := by rw [hb.cell, tabC_at (by omega)]; rfl
      have f6 := hb.frozen 6
      have c7 : wr.cell? ⟨w.heap.size, 7, none⟩ = some (.int .u32 (st4 7 : Nat)) := by rw [hb.cell, tabC_at (by omega)]; rfl
      have f7 := hb.frozen 7
      have c8 : wr.cell? ⟨w.heap.size, 8, none⟩ = some (.int .u32 (st4 8 : Nat)) := by rw [hb.cell, tabC_at (by omega)]; rfl
      have f8 := hb.frozen 8
      have c9 : wr.cell? ⟨w.heap.size, 9, none⟩ = some (.int .u32 (st4 9 : Nat)) := by rw [hb.cell, tabC_at (by omega)]; rfl
      have f9 := hb.frozen 9
      have c10 : wr.cell? ⟨w.heap.size, 10, none⟩ = some (.int .u32 (st4 10 : Nat)) := by rw [hb.cell, tabC_at (by omega)]; rfl
      have f10 := hb.frozen 10
      have c11 : wr.cell? ⟨w.heap.size, 11, none⟩ = some (.int .u32 (st4 11 : Nat)) := by rw [hb.cell, tabC_at (by omega)]; rfl
      have f11 := hb.frozen 11
      have c12 : wr.cell? ⟨w.heap.size, 12, none⟩ = some (.int .u32 (st4 12 : Nat)) := by rw [hb.cell, tabC_at (by omega)]; rfl
      have f12 := hb.frozen 12
      have c13 : wr.cell? ⟨w.heap.size, 13, none⟩ = some (.int .u32 (st4 13 : Nat)) := by rw [hb.cell, tabC_at (by omega)]; rfl
      have f13 := hb.frozen 13
      have c14 : wr.cell? ⟨w.heap.size, 14, none⟩ = some (.int .u32 (st4 14 : Nat)) := by rw [hb.cell, tabC_at (by omega)]; rfl
      have f14 := hb.frozen 14
      have c15 : wr.cell? ⟨w.heap.size, 15, none⟩ = some (.int .u32 (st4 15 : Nat)) := by rw [hb.cell, tabC_at (by omega)]; rfl
      have f15 := hb.frozen 15
      go_wp2
      refine bodyPost_ret (results_cell_row rfl _ _ w.heap.size 173 (tabC 16) (0, 0) _ rfl ?_ Tryz.underlying173 rfl (by kernel_rfl)) rfl ⟨rfl, ?_⟩
      · refine Blk.same (i := 15) ?_ (by rw [tabC_at (by omega)]; rfl)
        refine Blk.same (i := 14) ?_ (by rw [tabC_at (by omega)]; rfl)
        refine Blk.same (i := 13) ?_ (by rw [tabC_at (by omega)]; rfl)
        refine Blk.same (i := 12) ?_ (by rw [tabC_at (by omega)]; rfl)
        refine Blk.same (i := 11) ?_ (by rw [tabC_at (by omega)]; rfl)
        refine Blk.same (i := 10) ?_ (by rw [tabC_at (by omega)]; rfl)
        refine Blk.same (i := 9) ?_ (by rw [tabC_at (by omega)]; rfl)
        refine Blk.same (i := 8) ?_ (by rw [tabC_at (by omega)]; rfl)
        refine Blk.same (i := 7) ?_ (by rw [tabC_at (by omega)]; rfl)
        refine Blk.same (i := 6) ?_ (by rw [tabC_at (by omega)]; rfl)
        refine Blk.same (i := 5) ?_ (by rw [tabC_at (by omega)]; rfl)
        refine Blk.same (i := 4) ?_ (by rw [tabC_at (by omega)]; rfl)
        refine Blk.same (i := 3) ?_ (by rw [tabC_at (by omega)]; rfl)
        refine Blk.same (i := 2) ?_ (by rw [tabC_at (by omega)]; rfl)
        refine Blk.same (i := 1) ?_ (by rw [tabC_at (by omega)]; rfl)
        refine Blk.same (i := 0) ?_ (by rw [tabC_at (by omega)]; rfl)
        exact hb
      · iterate 16 (refine below_set0 ?_)
        exact hl

theorem tabV_lit : tabV = #[.int .u32 (st4 0 : Nat), .int .u32 (st4 1 : Nat), .int .u32 (st4 2 : Nat), .int .u32 (st4 3 : Nat), .int .u32 (st4 4 : Nat), .int .u32 (st4 5 : Nat), .int .u32 (st4 6 : Nat), .int .u32 (st4 7 : Nat), .int .u32 (st4 8 : Nat), .int .u32 (st4 9 : Nat), .int .u32 (st4 10 : Nat), .int .u32 (st4 11 : Nat), .int .u32 (st4 12 : Nat), .int .u32 (st4 13 : Nat), .int .u32 (st4 14 : Nat), .int .u32 (st4 15 : Nat)] := rfl
theorem tabV_at {j : Nat} (h : j < 16) : tabV[j]? = some (.int .u32 (st4 j : Nat)) := by
  have := tabC_at (i := 16) h
  rw [if_pos h] at this
  exact this

def Summed (s : ByteArray) (w : World) (e : Ending) (w' : World) : Prop := e = .returned (.int .u32 (sum s.data.toList : Nat)) ∧ Below w.heap.size w w'

theorem take_snoc (s : ByteArray) (k : Nat) (h : k < s.size) : s.data.toList.take (k + 1) = s.data.toList.take k ++ [s[k]] := by
  rw [List.take_succ_eq_append_getElem (by simpa using h)]; rfl
theorem ones_xor {x : Nat} (h : x < 4294967296) : 4294967295 ^^^ x = 4294967295 - x := by
  have e : (BitVec.allOnes 32 ^^^ BitVec.ofNat 32 x) = ~~~(BitVec.ofNat 32 x) := BitVec.allOnes_xor
  have e2 := congrArg BitVec.toNat e
  rw [BitVec.toNat_xor, BitVec.toNat_not, BitVec.toNat_ofNat, Nat.mod_eq_of_lt h] at e2
  exact e2
theorem sum_end (s : ByteArray) : Value.int .u32 (bits .xor .u32 IntKind.u32.max (run (s.data.toList.take s.size) : Nat)) = .int .u32 (sum s.data.toList : Nat) := by
  have h := run_lt s.data.toList
  rw [List.take_of_length_le (by simp), show IntKind.u32.max = ((4294967295 : Nat) : Int) from by decide, u32_xor_nat _ _ (by omega) h, ones_xor h]
  rfl

set_option maxHeartbeats 1000000 in
theorem sum_any (s : ByteArray) (w : World) (hs : s.size ≤ 9223372036854775807) : Calls Tryz.prog 67 #[.string s] w fun e w' => Summed s w e w' := by
  go_enter Tryz.func67, Tryz.ntmps67
  go_wp2_with fail
  refine (table_any _).mono ?_
  rintro e w1 ⟨rfl, hl1⟩
  have hB := Blk.new w1 173 tabV
  have hl2 := hl1.alloc hl1.size (.cells tabV 173)
  have HT := Lib.hid tabV_lit
  rw [tabV_lit]
  go_wp2_with fail
  rw [← HT.out]
  generalize w1.alloc (.cells tabV 173) = w2 at hB hl2
  generalize w1.heap.size = g at hB
  clear hl1
  go_loop [4, 9] (fun c v => ∃ k : Nat, k ≤ s.size ∧ v = .int .i64 k ∧ c = .int .u32 (run (s.data.toList.take k) : Nat)) (fun _ v => s.size - (intOf v).toNat)
  case atStart => exact ⟨0, Nat.zero_le _, rfl, rfl⟩
  case round =>
    obtain ⟨k, hk, rfl, rfl⟩ := hrel
    by_cases hlt : k < s.size
    · have hr := run_lt (s.data.toList.take k)
      obtain ⟨r, hrr⟩ : ∃ r, r = run (s.data.toList.take k) := ⟨_, rfl⟩
      rw [← hrr] at hr ⊢
      have hsn := run_snoc (s.data.toList.take k) s[k]
      rw [← take_snoc s k hlt, ← hrr] at hsn
      have HS := Lib.hid hsn
      clear hsn hrr
      have hb8 := s[k].toNat_lt
      obtain ⟨y1, m1, y2, m2, y3, e1, e2, e3, e4, e5, l1, l2, t1, t2, e6⟩ := byte_go hr (b := s[k].toNat) (by omega)
      have c1 := hB.cell m1
      rw [tabV_at l1, t1] at c1
      have c2 := hB.cell m2
      rw [tabV_at l2, t2] at c2
      have E6 := Lib.hid e6
      clear e6 t1 t2
      go_wp2
      go_round
      case rel => exact ⟨k + 1, by omega, by go_num, by rw [HS.out, E6.out]⟩
      case measure => simp [intOf]; omega
    · obtain rfl : k = s.size := by omega
      go_wp2
      go_ret
      exact ⟨congrArg Ending.returned (sum_end s), hl2⟩
end Go.Proofs.YtaamihdibpioaaaGreat

/- What a frame is, in plain terms. -/
namespace Go.Proofs.YtaamihdibpioaaaGreat
open Go.RowKit Go.Proofs.YtaamihdibpioaaaGreat.Crc

/-- The length ahead of a payload. -/
def headOf (s : ByteArray) : ByteArray := strOfNums [(s.size : Int) / 256, (s.size : Int) % 256]
/-- Four bytes of a sum, the lowest first. -/
def tailOf (c : Nat) : ByteArray := strOfNums [(c : Int) % 256, (c : Int) / 256 % 256, (c : Int) / 65536 % 256, (c : Int) / 16777216]
/-- The frame of a payload. -/
def frameOf (s : ByteArray) : ByteArray := headOf s ++ s ++ tailOf (sum (headOf s ++ s).data.toList)
/-- The frame is handed back; what was there is as it was. -/
def Framed (s : ByteArray) (w : World) (e : Ending) (w' : World) : Prop := e = .returned (.string (frameOf s)) ∧ Below w.heap.size w w'
theorem framed_eq {s : ByteArray} {c : Nat} (h : c = sum (strOfNums [(s.size : Int) / 256, (s.size : Int) % 256] ++ s).data.toList) : frameOf s = headOf s ++ s ++ tailOf c := by
  subst h; rfl
end Go.Proofs.YtaamihdibpioaaaGreat

/- Contracts of the reference of layer 6: Sum, Make, May. -/
namespace Go.Proofs.YtaamihdibpioaaaGreat.Ref06
set_option linter.unusedVariables false
open Go.RowKit Go.Proofs.YtaamihdibpioaaaGreat Go.Proofs.YtaamihdibpioaaaGreat.Crc

theorem st_odd {x : Nat} (h : x < 4294967296) (h1 : x % 2 = 1) : bits .xor .u32 ((x : Int) / 2) 3988292384 = ((st x : Nat) : Int) := by
  rw [show ((x : Int) / 2) = ((x / 2 : Nat) : Int) by omega, show (3988292384 : Int) = ((3988292384 : Nat) : Int) from rfl, u32_xor_nat _ _ (by omega) (by omega)]
  simp [st, h1, P]
theorem st_ev {x : Nat} (h1 : x % 2 = 0) : ((x : Int) / 2) = ((st x : Nat) : Int) := by
  simp [st, h1]
set_option maxHeartbeats 1000000 in
theorem sum_any (s : ByteArray) (w : World) (hs : s.size ≤ 9223372036854775806) : Calls Tryz.prog 88 #[.string s] w fun e w' => e = .returned (.int .u32 (sum s.data.toList : Nat)) ∧ w = w' := by
  go_enter Tryz.func88, Tryz.ntmps88
  go_wp2
  go_loop [3, 4] (fun c v => ∃ k : Nat, k ≤ s.size ∧ v = .int .i64 k ∧ c = .int .u32 (run (s.data.toList.take k) : Nat)) (fun _ v => s.size - (intOf v).toNat)
  case atStart => exact ⟨0, Nat.zero_le _, rfl, rfl⟩
  case round =>
    obtain ⟨k, hk, rfl, rfl⟩ := hrel
    by_cases hlt : k < s.size
    · have hr := run_lt (s.data.toList.take k)
      obtain ⟨r, hrr⟩ : ∃ r, r = run (s.data.toList.take k) := ⟨_, rfl⟩
      rw [← hrr] at hr ⊢
      have hsn := run_snoc (s.data.toList.take k) s[k]
      rw [← take_snoc s k hlt, ← hrr] at hsn
      have HS := Lib.hid hsn
      clear hsn hrr
      have hb8 := s[k].toNat_lt
      have hx := u32_xor_nat r s[k].toNat hr (by omega)
      have hy : r ^^^ s[k].toNat < 4294967296 := Nat.xor_lt_two_pow (n := 32) (by omega) (by omega)
      go_wp2
      go_loop [3, 5] (fun c v => ∃ j : Nat, j ≤ 8 ∧ v = .int .i64 j ∧ c = .int .u32 (it j (r ^^^ s[k].toNat) : Nat)) (fun _ v => 8 - (intOf v).toNat)
      case atStart => exact ⟨0, by omega, rfl, rfl⟩
      case round =>
        obtain ⟨j, hj, rfl, rfl⟩ := hrel
        by_cases hj8 : j < 8
        · have hlt' := it_lt hy j
          obtain ⟨x, hxx⟩ : ∃ x, x = it j (r ^^^ s[k].toNat) := ⟨_, rfl⟩
          have HX := Lib.hid hxx
          rw [← hxx] at hlt' ⊢
          clear hxx hx hy
          by_cases hp : x % 2 = 1
          · have hb : (((x : Int) % 2) == 1) = true := by simp; omega
            have hst := st_odd hlt' hp
            clear hp
            go_wp2
            go_round
            case rel => exact ⟨j + 1, by omega, by go_num, by rw [HX.out]; rfl⟩
            case measure => simp [intOf]; omega
          · have hb : (((x : Int) % 2) == 1) = false := by simp; omega
            have hst := st_ev (x := x) (by omega)
            clear hp
            go_wp2
            go_round
            case rel => exact ⟨j + 1, by omega, by go_num, by rw [HX.out]; rfl⟩
            case measure => simp [intOf]; omega
        · obtain rfl : j = 8 := by omega
          go_wp2
          go_round
          case rel => exact ⟨k + 1, by omega, by go_num, by rw [HS.out]; rfl⟩
          case measure => simp [intOf]; omega
    · obtain rfl : k = s.size := by omega
      go_wp2
      go_ret
      exact ⟨congrArg Ending.returned (sum_end s), rfl⟩

theorem conv2 (W : World) (a b : Int) (c : Nat) : (convert 105 9 (.slice (some ⟨W.heap.size, 0, none⟩) 2 c)).run Tryz.prog (W.alloc (.cells #[.int .u8 a, .int .u8 b] 5)) = .ok (.string (strOfNums [a, b])) (W.alloc (.cells #[.int .u8 a, .int .u8 b] 5)) :=
  run_convert_bytes_arg (P := Tryz.prog) _ 105 5 Tryz.underlying105 Tryz.underlying5 W.heap.size 0 2 c [a, b] rfl (fun i hi => by
    have hb := Blk.new W 5 #[.int .u8 a, .int .u8 b]
    rw [hb.cell]
    match i, hi with
    | 0, _ => rfl
    | 1, _ => rfl) _ Tryz.underlying9
theorem conv4 (W : World) (g : Nat) (a b d f : Int) (c : Nat) (hg : g = W.heap.size) : (convert 105 9 (.slice (some ⟨g, 0, none⟩) 4 c)).run Tryz.prog (W.alloc (.cells #[.int .u8 a, .int .u8 b, .int .u8 d, .int .u8 f] 5)) = .ok (.string (strOfNums [a, b, d, f])) (W.alloc (.cells #[.int .u8 a, .int .u8 b, .int .u8 d, .int .u8 f] 5)) :=
  run_convert_bytes_arg (P := Tryz.prog) _ 105 5 Tryz.underlying105 Tryz.underlying5 g 0 4 c [a, b, d, f] rfl (fun i hi => by
    subst hg
    have hb := Blk.new W 5 #[.int .u8 a, .int .u8 b, .int .u8 d, .int .u8 f]
    rw [hb.cell]
    match i, hi with
    | 0, _ => rfl
    | 1, _ => rfl
    | 2, _ => rfl
    | 3, _ => rfl) _ Tryz.underlying9

set_option maxHeartbeats 1000000 in
theorem make_any (s : ByteArray) (w : World) (hs : s.size ≤ 2000) : Calls Tryz.prog 54 #[.string s] w fun e w' => Framed s w e w' := by
  have h2 := conv2
  have h4 := conv4
  have hz2 : ∀ a b : Int, (strOfNums [a, b]).size = 2 := fun a b => strOfNums_size _
  have hz4 : ∀ a b c d : Int, (strOfNums [a, b, c, d]).size = 4 := fun a b c d => strOfNums_size _
  go_enter Tryz.func54, Tryz.ntmps54
  go_wp2_with fail
  refine (sum_any (strOfNums [(s.size : Int) / 256, (s.size : Int) % 256] ++ s) _ (by rw [ByteArray.size_append, strOfNums_size]; simp; omega)).mono ?_
  rintro e w' ⟨rfl, rfl⟩
  obtain ⟨c, hc⟩ : ∃ c, c = sum ((strOfNums [(s.size : Int) / 256, (s.size : Int) % 256] ++ s).data.toList) := ⟨_, rfl⟩
  have hlt := sum_lt ((strOfNums [(s.size : Int) / 256, (s.size : Int) % 256] ++ s).data.toList)
  rw [← hc] at hlt ⊢
  have HC := Lib.hid hc
  clear hc
  go_wp2_with fail
  go_ret
  refine ⟨?_, ?_⟩
  · rw [framed_eq HC.out]
    rfl
  · exact ((Below.refl _ _).alloc (Nat.le_refl _) _).alloc (by simp) _
end Go.Proofs.YtaamihdibpioaaaGreat.Ref06
