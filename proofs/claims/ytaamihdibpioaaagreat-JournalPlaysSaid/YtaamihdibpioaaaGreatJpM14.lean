/- What a writer writes for a number, and for a string. -/
import Derived.Test.YtaamihdibpioaaaGreatJpM12
import Derived.BigGuardPart
set_option maxRecDepth 100000
set_option maxHeartbeats 40000000
namespace Go.Proofs.YtaamihdibpioaaaGreat
open Go.RowKit
def ub (n : Nat) : List UInt8 := if n < 128 then [UInt8.ofNat n] else UInt8.ofNat (n % 128 + 128) :: ub (n / 128)
termination_by n
decreasing_by omega
theorem ub_small {n : Nat} (h : n < 128) : ub n = [UInt8.ofNat n] := by rw [ub,if_pos h]
theorem ub_great {n : Nat} (h : 128 <= n) : ub n = UInt8.ofNat (n % 128 + 128) :: ub (n / 128) := by rw [ub,if_neg (by omega)]
theorem ub_len : ∀ (k n : Nat), n < 128 ^ (k + 1) -> (ub n).length <= k + 1
 | k, n, h => by
  by_cases hs : n < 128
  ·rw [ub_small hs]; simp
  ·rw [ub_great (by omega)]
   match k with
   | 0 => simp at h; omega
   | k + 1 =>
    have := ub_len k (n / 128) (by rw [Nat.pow_succ] at h; omega)
    simp only [List.length_cons]; omega
theorem pow128_10 : (128 : Nat) ^ (9 + 1) = 1180591620717411303424 := by decide
theorem ub_len64 {n : Nat} (h : n < 18446744073709551616) : (ub n).length <= 10 := ub_len 9 n (by rw [pow128_10]; omega)
theorem byte_of {k : Nat} (h : k < 256) : (UInt8.ofNat k).toNat = k := by simp; omega
theorem u8_or128 (x : Nat) (h : x < 256) : bits .or .u8 (x : Int) 128 = ((x % 128 + 128 : Nat) : Int) := by
 have key : ∀ x : Fin 256,bits .or .u8 ((x.val : Nat) : Int) 128 = ((x.val % 128 + 128 : Nat) : Int) := by decide +kernel
 exact key ⟨x,h⟩
theorem u8_or_nat (m : Nat) : bits .or .u8 ((m : Int) % 256) 128 = ((m % 128 + 128 : Nat) : Int) := by
 have e1 : ((m : Int) % 256) = ((m % 256 : Nat) : Int) := by omega
 have e2 : m % 128 = (m % 256) % 128 := by omega
 rw [e1,e2]; exact u8_or128 (m % 256) (by omega)
def NumWrote (B b : Nat) (l : List UInt8) (w : World) (e : Ending) (w' : World) : Prop := e = .returned (.tuple #[]) /\ Wrote B b l w w'
theorem Wrote.size {B b : Nat} {l : List UInt8} {w w' : World} (h : Wrote B b l w w') : w.heap.size <= w'.heap.size := h.2.size
theorem wuint_any (B b : Nat) (l : List UInt8) (n : Nat) (w : World) (hn : n < 18446744073709551616) (h : WB w B b l) (hlen : l.length + 10 <= 140737488355328) (hBw : B <= w.heap.size) :
  Calls Tryz.prog 118 #[.pointer (some ⟨b, 0,none⟩), .int .u64 n] w fun e w' => NumWrote B b (l ++ ub n) w e w' := by
 have HUL := gh (ub_len64 hn); have HW := gh h; clear h
 go_enter Tryz.func118,Tryz.ntmps118
 go_wp2_with fail
 go_loopw [1] (fun v wr => ∃ (m : Nat) (l' : List UInt8),v = .int .u64 m /\ m < 18446744073709551616 /\ l' ++ ub m = l ++ ub n /\ WB wr B b l' /\ Below B w wr) (fun v _ => (intOf v).toNat)
 case atStart => exact ⟨n,l,rfl,hn,rfl,HW.o,Below.refl _ _⟩
 case round =>
  obtain ⟨m,l',rfl,hm,heq,hwb,hbl⟩ := hrel; have HE := gh heq; have HWB := gh hwb; have HBL := gh hbl; clear heq hwb hbl
  have hlm : l'.length + (ub m).length = l.length + (ub n).length := by
   have := congrArg List.length HE.o
   simpa using this
  have hu := HUL.o
  by_cases hs : m < 128
  ·have hd : decide (128 <= (m : Int)) = false := by simp; omega
   have hm1 : (ub m).length = 1 := by rw [ub_small hs]; rfl
   have hc := wbyte_any B b l' (UInt8.ofNat m) wr HWB.o (by omega) (by have := HBL.o.size; omega)
   rw [byte_of (by omega)] at hc
   have HC := gh hc; have heq := HE.o; rw [ub_small hs] at heq; have HE2 := gh heq; clear hc hlm hu heq
   go_wp2_with fail
   refine HC.o.mono ?_; rintro e w2 ⟨rfl,hw2,hb2⟩
   go_wp2
   go_end0
   rw [HE2.o] at hw2; exact ⟨rfl,hw2,HBL.o.trans hb2⟩
  ·have hd : decide (128 <= (m : Int)) = true := by simp; omega
   have hm1 : (ub m).length = (ub (m / 128)).length + 1 := by rw [ub_great (by omega)]; rfl
   have hc := wbyte_any B b l' (UInt8.ofNat (m % 128 + 128)) wr HWB.o (by omega) (by have := HBL.o.size; omega)
   rw [byte_of (by omega)] at hc
   have HC := gh hc; have hor := u8_or_nat m
   have heq : (l' ++ [UInt8.ofNat (m % 128 + 128)]) ++ ub (m / 128) = l ++ ub n := by
    rw [<- HE.o,ub_great (n := m) (by omega)]; simp
   have HE2 := gh heq; clear hc hlm hu heq hm1
   go_wp2_with fail
   refine HC.o.mono ?_; rintro e w2 ⟨rfl,hw2,hb2⟩; have HW2 := gh hw2; have HB2 := gh hb2; clear hw2 hb2 HC
   go_wp2
   go_roundw
   case rel => exact ⟨m / 128,l' ++ [UInt8.ofNat (m % 128 + 128)],rfl,by omega,HE2.o,HW2.o,HBL.o.trans HB2.o⟩
   case measure => simp [intOf]; omega
def uintS (n : Nat) : ByteArray := ⟨(ub n).toArray⟩
theorem ub_ne (n : Nat) : ub n ≠ [] := by
 by_cases h : n < 128
 ·rw [ub_small h]; simp
 ·rw [ub_great (by omega)]; simp
theorem wb_new (w : World) (B : Nat) (hB : B <= w.heap.size) : WB (w.alloc (.cells #[.pointer none, .slice none 0 0] 188)) B w.heap.size [] :=
 .inl ⟨hB, .slice none 0 0,Blk.new w 188 _,⟨rfl, .inl ⟨rfl,rfl⟩⟩,by simp [Value.ownBlock]⟩
theorem uint_any (n : Nat) (w : World) (hn : n < 18446744073709551616) : Calls Tryz.prog 97 #[.int .u64 n] w fun e w' => Told (uintS n) w.heap.size w e w' := by
 go_enter Tryz.func97,Tryz.ntmps97
 have hw := wuint_any w.heap.size w.heap.size [] n (w.alloc (.cells #[.pointer none, .slice none 0 0] 188)) hn (wb_new w _ (Nat.le_refl _)) (by simp) (by simp)
 have HW := gh hw; clear hw
 go_wp2_with fail
 refine HW.o.mono ?_; rintro e w2 ⟨rfl,hw2,hb2⟩; have hs := string_some w.heap.size w.heap.size w2 (ub n) (by simpa using hw2) (ub_ne n)
 have HS := gh hs; have HB := gh (((Below.refl w.heap.size w).alloc (Nat.le_refl _) (.cells #[.pointer none, .slice none 0 0] 188)).trans hb2); clear hw2 hb2 HW hs
 go_wp2_with fail
 refine HS.o.mono ?_; rintro e w3 ⟨rfl,hb3⟩; have hb := HB.o.trans hb3; clear HS HB hb3
 go_wp2
 go_ret
 exact ⟨rfl,hb⟩
theorem wstrw_any (B b : Nat) (l : List UInt8) (s : ByteArray) (w : World) (hs : s.size <= 140737488355328) (h : WB w B b l) (hlen : l.length + 10 + s.size <= 140737488355328) (hBw : B <= w.heap.size) :
  Calls Tryz.prog 148 #[.pointer (some ⟨b, 0,none⟩), .string s] w fun e w' => NumWrote B b (l ++ ub s.size ++ s.data.toList) w e w' := by
 have hl := ub_len64 (n := s.size) (by omega)
 have h1 := gh (wuint_any B b l s.size w (by omega) h (by omega) hBw)
 have hcv : IntKind.u64.wrap (s.size : Int) = s.size := by rw [IntKind.wrap_u64]; omega
 clear h
 go_enter Tryz.func148,Tryz.ntmps148
 go_wp2_with fail
 refine h1.out.mono ?_; rintro e w2 ⟨rfl,hw2,hb2⟩; have h2 := gh (wstr_any B b (l ++ ub s.size) s w2 hw2 (by simp; omega) (by have := hb2.size; omega))
 have hB2 := gh hb2; clear hw2 hb2 h1
 go_wp2_with fail
 refine h2.out.mono ?_; rintro e w3 ⟨rfl,hw3,hb3⟩
 go_wp2
 go_end0
 exact ⟨rfl,hw3,hB2.o.trans hb3⟩
def zig (n : Int) : Nat := if n < 0 then ((-1 - n) * 2 + 1).toNat else (n * 2).toNat
theorem zig_lt {n : Int} (h1 : -9223372036854775808 <= n) (h2 : n <= 9223372036854775807) : zig n < 18446744073709551616 := by
 unfold zig
 split <;> omega
theorem u64_xor_nat (a b : Nat) (ha : a < 18446744073709551616) (hb : b < 18446744073709551616) : bits .xor .u64 (a : Int) (b : Int) = ((BitVec.ofNat 64 a ^^^ BitVec.ofNat 64 b).toNat : Int) := by
 show IntKind.u64.wrap ((BitVec.ofInt 64 (a : Int) ^^^ BitVec.ofInt 64 (b : Int)).toNat : Int) = _
 rw [BitVec.ofInt_natCast,BitVec.ofInt_natCast,IntKind.wrap_u64]; have := (BitVec.ofNat 64 a ^^^ BitVec.ofNat 64 b).isLt
 omega
theorem u64_xor_zero (a : Nat) (ha : a < 18446744073709551616) : bits .xor .u64 (a : Int) ((0 : Nat) : Int) = a := by
 rw [u64_xor_nat a 0 ha (by omega)]
 simp
 omega
theorem u64_xor_ones (a : Nat) (ha : a < 18446744073709551616) : bits .xor .u64 (a : Int) ((18446744073709551615 : Nat) : Int) = ((18446744073709551615 - a : Nat) : Int) := by
 rw [u64_xor_nat a _ ha (by omega)]
 have e : BitVec.ofNat 64 18446744073709551615 = BitVec.allOnes 64 := rfl; rw [e,BitVec.xor_allOnes,BitVec.toNat_not,BitVec.toNat_ofNat,Nat.mod_eq_of_lt (by omega)]
theorem zig_go (n : Int) (h1 : -9223372036854775808 <= n) (h2 : n <= 9223372036854775807) :
  bits .xor .u64 (IntKind.u64.wrap (IntKind.u64.wrap n * 2)) (IntKind.u64.wrap (n / 9223372036854775808)) = (zig n : Int) := by
 rw [IntKind.wrap_u64,IntKind.wrap_u64,IntKind.wrap_u64]
 by_cases hn : n < 0
 ·have e1 : n % 18446744073709551616 * 2 % 18446744073709551616 = ((18446744073709551616 + 2 * n).toNat : Int) := by omega
  have e2 : n / 9223372036854775808 % 18446744073709551616 = ((18446744073709551615 : Nat) : Int) := by omega
  rw [e1,e2,u64_xor_ones _ (by omega)]
  unfold zig; rw [if_pos hn]
  omega
 ·have e1 : n % 18446744073709551616 * 2 % 18446744073709551616 = ((n * 2).toNat : Int) := by omega
  have e2 : n / 9223372036854775808 % 18446744073709551616 = ((0 : Nat) : Int) := by omega
  rw [e1,e2,u64_xor_zero _ (by omega)]
  unfold zig; rw [if_neg hn]
theorem wint_any (B b : Nat) (l : List UInt8) (n : Int) (w : World) (h1 : -9223372036854775808 <= n) (h2 : n <= 9223372036854775807) (h : WB w B b l) (hlen : l.length + 10 <= 140737488355328) (hBw : B <= w.heap.size) :
  Calls Tryz.prog 146 #[.pointer (some ⟨b, 0,none⟩), .int .i64 n] w fun e w' => NumWrote B b (l ++ ub (zig n)) w e w' := by
 have hz := zig_go n h1 h2; have hu := gh (wuint_any B b l (zig n) w (zig_lt h1 h2) h hlen hBw); clear h
 go_enter Tryz.func146,Tryz.ntmps146
 go_wp2_with fail
 refine hu.out.mono ?_; rintro e w2 ⟨rfl,hw2⟩
 go_wp2
 go_end0
 exact ⟨rfl,hw2⟩
def intS (n : Int) : ByteArray := uintS (zig n)
def strS (s : ByteArray) : ByteArray := ⟨(ub s.size ++ s.data.toList).toArray⟩
end Go.Proofs.YtaamihdibpioaaaGreat
