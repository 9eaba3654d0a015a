/- What float.rank, float.Order and float.Canon answer. -/
import Derived.Test.YtaamihdibpioaaaGreatJpM1
import Derived.Test.YtaamihdibpioaaaGreatProg
import Derived.BigGuardPart
import Derived.Laws.Externs
set_option maxRecDepth 100000
set_option maxHeartbeats 40000000
namespace Go.Proofs.YtaamihdibpioaaaGreat
open Go.RowKit
theorem ford_none {x y : Nat} (h : fnan x = true \/ fnan y = true) : FloatKind.f64.format.order x y = none := order_none h
theorem ford_some {x y : Nat} (hx : fnan x = false) (hy : fnan y = false) : FloatKind.f64.format.order x y = some (compare (fsv x) (fsv y)) := order_some hx hy
def frank (x : Nat) : Int × Int := if fnan x then (1, 0) else if x = 9223372036854775808 then (0, -1) else (0, 0)
def mz : Nat := 9223372036854775808
theorem fsv_zero {x : Nat} (hx : x < 18446744073709551616) (h : fsv x = 0) : x = 0 \/ x = 9223372036854775808 := by
 unfold fsv at h; have h0 : rungv 0 = 0 := by decide
 have hr : rungv (x % 9223372036854775808) = 0 := by split at h <;> omega
 have := rungv_inj (hr.trans h0.symm)
 omega
theorem rank_nan (f : Nat) (w : World) (h : fnan f = true) : Calls Tryz.prog 190 #[.float .f64 f] w fun e w' => e = .returned (.tuple #[.int .i64 1, .int .i64 0]) /\ w = w' := by
 have ho := ford_none (x := f) (y := f) (.inl h); clear h
 go_enter Tryz.func190,Tryz.ntmps190
 go_wp2
 go_ret2
 exact ⟨rfl,rfl⟩
theorem rank_0 (w : World) : Calls Tryz.prog 190 #[.float .f64 0] w fun e w' => e = .returned (.tuple #[.int .i64 0, .int .i64 0]) /\ w = w' := by
 have ho : FloatKind.f64.format.order 0 0 = some .eq := by decide +kernel
 have hq : ∀ W : World, (binOp .quo 33 (.float .f64 4607182418800017408) (.float .f64 0)).run Tryz.prog W = .ok (.float .f64 9218868437227405312) W := fun W => by kernel_rfl
 have hi : FloatKind.f64.format.order 9218868437227405312 0 = some .gt := by decide +kernel
 go_enter Tryz.func190,Tryz.ntmps190
 go_wp2
 go_ret2
 exact ⟨rfl,rfl⟩
theorem rank_m0 (w : World) : Calls Tryz.prog 190 #[.float .f64 mz] w fun e w' => e = .returned (.tuple #[.int .i64 0, .int .i64 (-1)]) /\ w = w' := by
 have ho : FloatKind.f64.format.order mz mz = some .eq := by decide +kernel
 have ho2 : FloatKind.f64.format.order mz 0 = some .eq := by decide +kernel
 have hq : ∀ W : World, (binOp .quo 33 (.float .f64 4607182418800017408) (.float .f64 mz)).run Tryz.prog W = .ok (.float .f64 18442240474082181120) W := fun W => by kernel_rfl
 have hi : FloatKind.f64.format.order 18442240474082181120 0 = some .lt := by decide +kernel
 go_enter Tryz.func190,Tryz.ntmps190
 go_wp2
 go_ret2
 exact ⟨rfl,rfl⟩
theorem rank_num (f : Nat) (w : World) (h : fnan f = false) (hf : f < 18446744073709551616) (h0 : f ≠ 0) (h1 : f ≠ 9223372036854775808) : Calls Tryz.prog 190 #[.float .f64 f] w fun e w' => e = .returned (.tuple #[.int .i64 0, .int .i64 0]) /\ w = w' := by
 have ho : FloatKind.f64.format.order f f = some .eq := by rw [ford_some h h]; simp
 have hz : fsv f ≠ 0 := fun e => by rcases fsv_zero hf e with h' | h' <;> omega
 have hs : fsv 0 = 0 := by decide
 rcases Int.lt_or_gt_of_ne hz with hl | hg
 ·have ho2 : FloatKind.f64.format.order f 0 = some .lt := by rw [ford_some h (by decide), hs, Int.compare_eq_lt.2 hl]
  clear h hf h0 h1 hz hs hl
  go_enter Tryz.func190,Tryz.ntmps190
  go_wp2
  go_ret2
  exact ⟨rfl,rfl⟩
 ·have ho2 : FloatKind.f64.format.order f 0 = some .gt := by rw [ford_some h (by decide), hs, Int.compare_eq_gt.2 hg]
  clear h hf h0 h1 hz hs hg
  go_enter Tryz.func190,Tryz.ntmps190
  go_wp2
  go_ret2
  exact ⟨rfl,rfl⟩
theorem rank_any (f : Nat) (w : World) (hf : f < 18446744073709551616) : Calls Tryz.prog 190 #[.float .f64 f] w fun e w' => e = .returned (.tuple #[.int .i64 (frank f).1, .int .i64 (frank f).2]) /\ w = w' := by
 unfold frank
 by_cases h : fnan f = true
 ·rw [if_pos h]; exact rank_nan f w h
 ·rw [if_neg h]
  by_cases h1 : f = 9223372036854775808
  ·rw [if_pos h1,h1]; exact rank_m0 w
  ·rw [if_neg h1]
   by_cases h0 : f = 0
   ·subst h0; exact rank_0 w
   ·exact rank_num f w (by simpa using h) hf h0 h1
def fkey (x : Nat) : Int := if fnan x then 9223372036854775807 else if fneg x then -1 - ((x % 9223372036854775808 : Nat) : Int) else ((x % 9223372036854775808 : Nat) : Int)
def ford (x y : Nat) : Int := if fkey x < fkey y then -1 else if fkey y < fkey x then 1 else 0
def fcan (x : Nat) : Nat := if fnan x then 9221120237041090560 else x
theorem fkey_lt_nan {x : Nat} (h : fnan x = false) : fkey x < 9223372036854775807 := by
 unfold fkey; rw [h]; unfold fnan at h; have h' : x % 9223372036854775808 <= 9218868437227405312 := by simpa using h
 simp only [Bool.false_eq_true,if_false]
 split <;> omega
theorem fkey_of_lt {x y : Nat} (hx : fnan x = false) (hy : fnan y = false) (h : fsv x < fsv y) : fkey x < fkey y := by
 unfold fkey; rw [hx,hy]; simp only [Bool.false_eq_true,if_false]; unfold fsv at h
 cases h1 : fneg x <;> cases h2 : fneg y <;> simp only [h1,h2,if_true,if_false,Bool.false_eq_true] at h ⊢
 ·rcases Nat.lt_or_ge (x % 9223372036854775808) (y % 9223372036854775808) with h' | h'
  ·omega
  ·rcases Nat.lt_or_eq_of_le h' with h'' | h''
   ·have := rungv_lt h''; omega
   ·rw [h''] at h; omega
 ·omega
 ·omega
 ·rcases Nat.lt_or_ge (y % 9223372036854775808) (x % 9223372036854775808) with h' | h'
  ·omega
  ·rcases Nat.lt_or_eq_of_le h' with h'' | h''
   ·have := rungv_lt h''; omega
   ·rw [h''] at h; omega
theorem ford_lt {x y : Nat} (h : fkey x < fkey y) : ford x y = -1 := by unfold ford; rw [if_pos h]
theorem ford_gt {x y : Nat} (h : fkey y < fkey x) : ford x y = 1 := by unfold ford; rw [if_neg (by omega),if_pos h]
theorem ford_eq {x y : Nat} (h : fkey x = fkey y) : ford x y = 0 := by unfold ford; rw [if_neg (by omega),if_neg (by omega)]
theorem fsv_eq {x y : Nat} (hx : x < 18446744073709551616) (hy : y < 18446744073709551616) (h : fsv x = fsv y) : x = y \/ ((x = 0 \/ x = 9223372036854775808) /\ (y = 0 \/ y = 9223372036854775808)) := by
 have h0 : rungv 0 = 0 := by decide
 have hs : fneg x = (x / 9223372036854775808 % 2 == 1) := rfl; have ht : fneg y = (y / 9223372036854775808 % 2 == 1) := rfl
 by_cases hz : fsv x = 0
 ·exact .inr ⟨fsv_zero hx hz,fsv_zero hy (by omega)⟩
 ·left
  unfold fsv at h hz
  cases h1 : fneg x <;> cases h2 : fneg y <;> rw [h1] at hs <;> rw [h2] at ht <;> simp only [h1,h2,if_true,if_false,Bool.false_eq_true] at h hz
  ·have e := rungv_inj (Int.ofNat.inj h)
   have h1' : ¬ x / 9223372036854775808 % 2 = 1 := fun e => by rw [e] at hs; simp at hs
   have h2' : ¬ y / 9223372036854775808 % 2 = 1 := fun e => by rw [e] at ht; simp at ht
   omega
  ·omega
  ·omega
  ·have e := rungv_inj (a := x % 9223372036854775808) (b := y % 9223372036854775808) (by omega)
   have h1' : x / 9223372036854775808 % 2 = 1 := by simpa using hs.symm
   have h2' : y / 9223372036854775808 % 2 = 1 := by simpa using ht.symm
   omega
theorem order_walk (a b : Nat) (n z m y c : Int) (w : World) (ha : a < 18446744073709551616) (hb : b < 18446744073709551616)
  (hra : (frank a).1 = n /\ (frank a).2 = z) (hrb : (frank b).1 = m /\ (frank b).2 = y) (hn : n = 0 \/ n = 1) (hm : m = 0 \/ m = 1)
  (hc : (n ≠ m /\ c = n - m) \/ (n = 1 /\ m = 1 /\ c = 0) \/ (n = 0 /\ m = 0 /\ FloatKind.f64.format.order a b = some .lt /\ c = -1) \/ (n = 0 /\ m = 0 /\ FloatKind.f64.format.order a b = some .gt /\ c = 1) \/
   (n = 0 /\ m = 0 /\ FloatKind.f64.format.order a b = some .eq /\ ((z < y /\ c = -1) \/ (y < z /\ c = 1) \/ (y = z /\ c = 0)))) :
  Calls Tryz.prog 166 #[.float .f64 a, .float .f64 b] w fun e w' => e = .returned (.int .i64 c) /\ w = w' := by
 have h1 := rank_any a w ha; have h2 := rank_any b w hb; rw [hra.1,hra.2] at h1; rw [hrb.1,hrb.2] at h2; have H1 := gh h1; have H2 := gh h2; clear h1 h2 hra hrb ha hb
 rcases hc with ⟨h,rfl⟩ | ⟨rfl,rfl,rfl⟩ | ⟨rfl,rfl,ho,rfl⟩ | ⟨rfl,rfl,ho,rfl⟩ | ⟨rfl,rfl,ho,h⟩
 ·rcases hn with rfl | rfl <;> rcases hm with rfl | rfl <;> first | (exfalso; omega) | skip
  all_goals
   clear h
   go_enter Tryz.func166,Tryz.ntmps166
   go_wp2_with fail
   refine H1.o.mono ?_; rintro e w' ⟨rfl,rfl⟩
   go_wp2_with fail
   refine H2.o.mono ?_; rintro e w' ⟨rfl,rfl⟩
   go_wp2
   go_ret
   exact ⟨rfl,rfl⟩
 ·clear hn hm
  go_enter Tryz.func166,Tryz.ntmps166
  go_wp2_with fail
  refine H1.o.mono ?_; rintro e w' ⟨rfl,rfl⟩
  go_wp2_with fail
  refine H2.o.mono ?_; rintro e w' ⟨rfl,rfl⟩
  go_wp2
  go_ret
  exact ⟨rfl,rfl⟩
 ·clear hn hm
  go_enter Tryz.func166,Tryz.ntmps166
  go_wp2_with fail
  refine H1.o.mono ?_; rintro e w' ⟨rfl,rfl⟩
  go_wp2_with fail
  refine H2.o.mono ?_; rintro e w' ⟨rfl,rfl⟩
  go_wp2
  go_ret
  exact ⟨rfl,rfl⟩
 ·clear hn hm
  go_enter Tryz.func166,Tryz.ntmps166
  go_wp2_with fail
  refine H1.o.mono ?_; rintro e w' ⟨rfl,rfl⟩
  go_wp2_with fail
  refine H2.o.mono ?_; rintro e w' ⟨rfl,rfl⟩
  go_wp2
  go_ret
  exact ⟨rfl,rfl⟩
 ·clear hn hm
  rcases h with ⟨h,rfl⟩ | ⟨h,rfl⟩ | ⟨rfl,rfl⟩
  ·have i1 : decide (z < y) = true := by simpa using h
   go_enter Tryz.func166,Tryz.ntmps166
   go_wp2_with fail
   refine H1.o.mono ?_; rintro e w' ⟨rfl,rfl⟩
   go_wp2_with fail
   refine H2.o.mono ?_; rintro e w' ⟨rfl,rfl⟩
   go_wp2
   go_ret
   exact ⟨rfl,rfl⟩
  ·have i1 : decide (z < y) = false := by simp; omega
   have i2 : decide (y < z) = true := by simpa using h
   go_enter Tryz.func166,Tryz.ntmps166
   go_wp2_with fail
   refine H1.o.mono ?_; rintro e w' ⟨rfl,rfl⟩
   go_wp2_with fail
   refine H2.o.mono ?_; rintro e w' ⟨rfl,rfl⟩
   go_wp2
   go_ret
   exact ⟨rfl,rfl⟩
  ·have i1 : decide (y < y) = false := by simp
   go_enter Tryz.func166,Tryz.ntmps166
   go_wp2_with fail
   refine H1.o.mono ?_; rintro e w' ⟨rfl,rfl⟩
   go_wp2_with fail
   refine H2.o.mono ?_; rintro e w' ⟨rfl,rfl⟩
   go_wp2
   go_ret
   exact ⟨rfl,rfl⟩
theorem frank_nan {x : Nat} (h : fnan x = true) : (frank x).1 = 1 /\ (frank x).2 = 0 := by unfold frank; rw [if_pos h]; exact ⟨rfl,rfl⟩
theorem frank_num {x : Nat} (h : fnan x = false) : (frank x).1 = 0 := by unfold frank; rw [h]; simp; split <;> rfl
theorem forder_any (a b : Nat) (w : World) (ha : a < 18446744073709551616) (hb : b < 18446744073709551616) :
  Calls Tryz.prog 166 #[.float .f64 a, .float .f64 b] w fun e w' => e = .returned (.int .i64 (ford a b)) /\ w = w' := by
 cases h1 : fnan a <;> cases h2 : fnan b
 ·refine order_walk a b 0 (frank a).2 0 (frank b).2 (ford a b) w ha hb ⟨frank_num h1, rfl⟩ ⟨frank_num h2, rfl⟩ (.inl rfl) (.inl rfl) ?_
  have ho := ford_some h1 h2
  rcases Int.lt_trichotomy (fsv a) (fsv b) with h | h | h
  ·exact .inr (.inr (.inl ⟨rfl,rfl,by rw [ho,Int.compare_eq_lt.2 h],ford_lt (fkey_of_lt h1 h2 h)⟩))
  ·refine .inr (.inr (.inr (.inr ⟨rfl, rfl, by rw [ho, h]; simp, ?_⟩)))
   rcases fsv_eq ha hb h with rfl | ⟨rfl | rfl,rfl | rfl⟩
   ·exact .inr (.inr ⟨rfl,ford_eq rfl⟩)
   ·exact .inr (.inr ⟨rfl,ford_eq rfl⟩)
   ·exact .inr (.inl ⟨by decide,by decide⟩)
   ·exact .inl ⟨by decide,by decide⟩
   ·exact .inr (.inr ⟨rfl,ford_eq rfl⟩)
  ·exact .inr (.inr (.inr (.inl ⟨rfl,rfl,by rw [ho,Int.compare_eq_gt.2 h],ford_gt (fkey_of_lt h2 h1 h)⟩)))
 ·refine order_walk a b 0 (frank a).2 1 0 (ford a b) w ha hb ⟨frank_num h1, rfl⟩ (frank_nan h2) (.inl rfl) (.inr rfl) (.inl ⟨by omega, ?_⟩)
  rw [ford_lt]
  ·rfl
  ·have := fkey_lt_nan h1
   unfold fkey at this ⊢; rw [h2]
   simpa using this
 ·refine order_walk a b 1 0 0 (frank b).2 (ford a b) w ha hb (frank_nan h1) ⟨frank_num h2, rfl⟩ (.inr rfl) (.inl rfl) (.inl ⟨by omega, ?_⟩)
  rw [ford_gt]
  ·rfl
  ·have := fkey_lt_nan h2
   unfold fkey at this ⊢; rw [h1]
   simpa using this
 ·exact order_walk a b 1 0 1 0 (ford a b) w ha hb (frank_nan h1) (frank_nan h2) (.inr rfl) (.inr rfl) (.inr (.inl ⟨rfl,rfl,ford_eq (by unfold fkey; rw [h1,h2]; simp)⟩))
theorem frombits_run (n : Nat) (w : World) : (callFunc 162 #[.int .u64 n]).run Tryz.prog w = .ok (.value (.float .f64 n)) w := by
 rw [run_callFunc_extern Tryz.func162 (by kernel_rfl) (by kernel_rfl) (by kernel_rfl) (e := Extern.MathFloatBits.float64frombits) (by kernel_rfl)]
 rfl
theorem frombits_can (w : World) : (callFunc 162 #[.int .u64 9221120237041090560]).run Tryz.prog w = .ok (.value (.float .f64 9221120237041090560)) w := frombits_run 9221120237041090560 w
theorem bits_run' (f : Nat) (w : World) : (callFunc 129 #[.float .f64 f]).run Tryz.prog w = .ok (.value (.int .u64 f)) w := by
 rw [run_callFunc_extern Tryz.func129 (by kernel_rfl) (by kernel_rfl) (by kernel_rfl) (e := Extern.MathFloatBits.float64bits) (by kernel_rfl)]
 rfl
theorem canon_any (f : Nat) (w : World) : Calls Tryz.prog 147 #[.float .f64 f] w fun e w' => e = .returned (.float .f64 (fcan f)) /\ w = w' := by
 cases h : fnan f with
 | true =>
  have ho := ford_none (x := f) (y := f) (.inl h); have e : fcan f = 9221120237041090560 := by unfold fcan; rw [h]; rfl
  have HE := gh e; clear h e
  go_enter Tryz.func147,Tryz.ntmps147
  go_wp2_with fail
  rw [frombits_can,Oper.upon_value]
  go_wp2_with fail
  go_ret
  exact ⟨by rw [HE.o]; rfl,rfl⟩
 | false =>
  have ho : FloatKind.f64.format.order f f = some .eq := by rw [ford_some h h]; simp
  have e : fcan f = f := by unfold fcan; rw [h]; rfl
  rw [e]; clear h e
  go_enter Tryz.func147,Tryz.ntmps147
  go_wp2
  go_ret
  exact ⟨rfl,rfl⟩
theorem fcan_lt {f : Nat} (h : f < 18446744073709551616) : fcan f < 18446744073709551616 := by unfold fcan; split <;> omega
theorem fnan_fcan (f : Nat) : fnan (fcan f) = fnan f := by
 unfold fcan
 cases h : fnan f <;> simp [h]
 decide
theorem fkey_fcan (f : Nat) : fkey (fcan f) = fkey f := by
 cases h : fnan f
 ·have e : fcan f = f := by unfold fcan; rw [h]; rfl
  rw [e]
 ·unfold fkey
  rw [fnan_fcan,h]
  simp
theorem ford_zero {a b : Nat} (ha : a < 18446744073709551616) (hb : b < 18446744073709551616) : ford a b = 0 ↔ fcan a = fcan b := by
 have key : fkey a = fkey b ↔ fcan a = fcan b := by
  unfold fkey fcan; have hs : fneg a = (a / 9223372036854775808 % 2 == 1) := rfl; have ht : fneg b = (b / 9223372036854775808 % 2 == 1) := rfl; have hx : fnan a = decide (9218868437227405312 < a % 9223372036854775808) := rfl; have hy : fnan b = decide (9218868437227405312 < b % 9223372036854775808) := rfl
  cases h1 : fnan a <;> cases h2 : fnan b <;> rw [h1] at hx <;> rw [h2] at hy
  ·have hx' : a % 9223372036854775808 <= 9218868437227405312 := by simpa using hx.symm
   have hy' : b % 9223372036854775808 <= 9218868437227405312 := by simpa using hy.symm
   cases h3 : fneg a <;> cases h4 : fneg b <;> rw [h3] at hs <;> rw [h4] at ht <;> simp only [Bool.false_eq_true,if_false,if_true]
   ·have : ¬ a / 9223372036854775808 % 2 = 1 := fun e => by rw [e] at hs; simp at hs
    have : ¬ b / 9223372036854775808 % 2 = 1 := fun e => by rw [e] at ht; simp at ht
    omega
   ·have : ¬ a / 9223372036854775808 % 2 = 1 := fun e => by rw [e] at hs; simp at hs
    have : b / 9223372036854775808 % 2 = 1 := by simpa using ht.symm
    omega
   ·have : a / 9223372036854775808 % 2 = 1 := by simpa using hs.symm
    have : ¬ b / 9223372036854775808 % 2 = 1 := fun e => by rw [e] at ht; simp at ht
    omega
   ·have : a / 9223372036854775808 % 2 = 1 := by simpa using hs.symm
    have : b / 9223372036854775808 % 2 = 1 := by simpa using ht.symm
    omega
  ·have hx' : a % 9223372036854775808 <= 9218868437227405312 := by simpa using hx.symm
   simp only [Bool.false_eq_true,if_false,if_true]
   constructor
   ·intro h; split at h <;> omega
   ·intro h; subst h; exact absurd hx' (by omega)
  ·have hy' : b % 9223372036854775808 <= 9218868437227405312 := by simpa using hy.symm
   simp only [Bool.false_eq_true,if_false,if_true]
   constructor
   ·intro h; split at h <;> omega
   ·intro h; subst h; exact absurd hy' (by omega)
  ·simp
 rw [<- key]; unfold ford
 constructor
 ·intro h
  split at h
  ·omega
  ·split at h <;> omega
 ·intro h
  rw [h]
  simp
end Go.Proofs.YtaamihdibpioaaaGreat
namespace Go.Proofs.YtaamihdibpioaaaGreat
open Go.RowKit
theorem bits_run (f : Nat) (w : World) : (callFunc 129 #[.float .f64 f]).run Tryz.prog w = .ok (.value (.int .u64 (f : Nat))) w := by
 rw [run_callFunc_extern Tryz.func129 (by kernel_rfl) (by kernel_rfl) (by kernel_rfl) (e := Extern.MathFloatBits.float64bits) (by kernel_rfl)]
 rfl
theorem nan_word (f : Nat) : fnan f = decide ((18437736874454810624 : Int) < IntKind.u64.wrap ((f : Int) * 2)) := by
 unfold fnan; rw [IntKind.wrap_u64]
 apply decide_eq_decide.2
 omega
theorem canon_word (x : Nat) : fcan x = bif fnan x then 9221120237041090560 else x := by
 unfold fcan
 cases fnan x <;> rfl
theorem key_neg (f : Nat) (hn : fnan f = false) (h : 9223372036854775808 <= f) (hf : f < 18446744073709551616) : fkey f = wrap64 (-1 - wrap64 (IntKind.u64.wrap ((f : Int) - 9223372036854775808))) := by
 unfold fkey wrap64; rw [hn]
 have h2 : fneg f = true := by unfold fneg; have : f / 9223372036854775808 % 2 = 1 := by omega
                               simp [this]
 rw [h2,IntKind.wrap_u64]; simp only [Bool.false_eq_true,if_false,if_true]
 omega
theorem key_pos (f : Nat) (hn : fnan f = false) (h : f < 9223372036854775808) : fkey f = wrap64 (f : Int) := by
 unfold fkey wrap64; rw [hn]
 have h2 : fneg f = false := by unfold fneg; have : f / 9223372036854775808 % 2 = 0 := by omega
                                simp [this]
 rw [h2]; simp only [Bool.false_eq_true,if_false]
 omega
theorem fkey_i64 (f : Nat) : -9223372036854775808 <= fkey f /\ fkey f <= 9223372036854775807 := by
 unfold fkey
 split
 ·omega
 ·split <;> omega
theorem rnan_any (f : Nat) (w : World) : Calls Tryz.prog 128 #[.float .f64 f] w fun e w' => e = .returned (.bool (fnan f)) /\ w = w' := by
 rw [nan_word]
 go_enter Tryz.func128,Tryz.ntmps128
 go_wp2_with fail
 rw [bits_run,Oper.upon_value]
 go_wp2_with fail
 go_ret
 exact ⟨rfl,rfl⟩
theorem rcanon_any (f : Nat) (w : World) : Calls Tryz.prog 158 #[.float .f64 f] w fun e w' => e = .returned (.float .f64 (fcan f)) /\ w = w' := by
 rw [canon_word]; have HN := gh (rnan_any f w)
 cases h : fnan f with
 | true =>
  rw [h] at HN; clear h
  go_enter Tryz.func158,Tryz.ntmps158
  go_wp2_with fail
  refine HN.o.mono ?_; rintro e w' ⟨rfl,rfl⟩
  go_wp2_with fail
  rw [frombits_can,Oper.upon_value]
  go_wp2_with fail
  go_ret
  exact ⟨rfl,rfl⟩
 | false =>
  rw [h] at HN; clear h
  go_enter Tryz.func158,Tryz.ntmps158
  go_wp2_with fail
  refine HN.o.mono ?_; rintro e w' ⟨rfl,rfl⟩
  go_wp2
  go_ret
  exact ⟨rfl,rfl⟩
def fsame (a b : Nat) : Bool := decide (fcan a = fcan b)
theorem rsame_any (a b : Nat) (w : World) : Calls Tryz.prog 195 #[.float .f64 a, .float .f64 b] w fun e w' => e = .returned (.bool (fsame a b)) /\ w = w' := by
 have HA := gh (rcanon_any a w); have HB := gh (rcanon_any b w)
 have he : fsame a b = (((fcan a : Nat) : Int) == ((fcan b : Nat) : Int)) := by
  unfold fsame; rw [Bool.eq_iff_iff]; simp only [decide_eq_true_eq,beq_iff_eq]
  omega
 rw [he]
 go_enter Tryz.func195,Tryz.ntmps195
 go_wp2_with fail
 refine HA.o.mono ?_; rintro e w' ⟨rfl,rfl⟩
 go_wp2_with fail
 rw [bits_run,Oper.upon_value]
 go_wp2_with fail
 refine HB.o.mono ?_; rintro e w' ⟨rfl,rfl⟩
 go_wp2_with fail
 rw [bits_run,Oper.upon_value]
 go_wp2_with fail
 go_ret
 exact ⟨rfl,rfl⟩
theorem rkey_any (f : Nat) (w : World) (hf : f < 18446744073709551616) : Calls Tryz.prog 106 #[.float .f64 f] w fun e w' => e = .returned (.int .i64 (fkey f)) /\ w = w' := by
 have HN := gh (rnan_any f w)
 cases h : fnan f with
 | true =>
  have e : fkey f = 9223372036854775807 := by unfold fkey; rw [h]; rfl
  rw [e]; rw [h] at HN; clear h e hf
  go_enter Tryz.func106,Tryz.ntmps106
  go_wp2_with fail
  refine HN.o.mono ?_; rintro e w' ⟨rfl,rfl⟩
  go_wp2
  go_ret
  exact ⟨rfl,rfl⟩
 | false =>
  by_cases hl : 9223372036854775808 <= f
  ·have e := key_neg f h hl hf
   rw [e]; rw [h] at HN; have t1 : decide ((9223372036854775808 : Int) <= (f : Int)) = true := by simp; omega
   have HE : Hid (fkey f = _) := gh e; clear h hf e hl
   go_enter Tryz.func106,Tryz.ntmps106
   go_wp2_with fail
   refine HN.o.mono ?_; rintro e w' ⟨rfl,rfl⟩
   go_wp2_with fail
   rw [bits_run,Oper.upon_value]
   go_wp2_with fail
   go_ret
   exact ⟨rfl,rfl⟩
  ·have e := key_pos f h (by omega)
   rw [e]; rw [h] at HN; have t1 : decide ((9223372036854775808 : Int) <= (f : Int)) = false := by simp; omega
   clear h hf e hl
   go_enter Tryz.func106,Tryz.ntmps106
   go_wp2_with fail
   refine HN.o.mono ?_; rintro e w' ⟨rfl,rfl⟩
   go_wp2_with fail
   rw [bits_run,Oper.upon_value]
   go_wp2_with fail
   go_ret
   exact ⟨rfl,rfl⟩
theorem rorder_any (a b : Nat) (w : World) (ha : a < 18446744073709551616) (hb : b < 18446744073709551616) : Calls Tryz.prog 73 #[.float .f64 a, .float .f64 b] w fun e w' => e = .returned (.int .i64 (ford a b)) /\ w = w' := by
 have HA := gh (rkey_any a w ha); have HB := gh (rkey_any b w hb); unfold ford; obtain ⟨x,hx⟩ := gXe (fkey a); obtain ⟨y,hy⟩ := gXe (fkey b); rw [<- hx] at HA ⊢; rw [<- hy] at HB ⊢; clear hx hy ha hb
 by_cases h1 : x < y
 ·rw [if_pos h1]
  have t1 : decide (x < y) = true := by simpa using h1
  clear h1
  go_enter Tryz.func73,Tryz.ntmps73
  go_wp2_with fail
  refine HA.o.mono ?_; rintro e w' ⟨rfl,rfl⟩
  go_wp2_with fail
  refine HB.o.mono ?_; rintro e w' ⟨rfl,rfl⟩
  go_wp2
  go_ret
  exact ⟨rfl,rfl⟩
 ·rw [if_neg h1]
  have t1 : decide (x < y) = false := by simpa using h1
  by_cases h2 : y < x
  ·rw [if_pos h2]
   have t2 : decide (y < x) = true := by simpa using h2
   clear h1 h2
   go_enter Tryz.func73,Tryz.ntmps73
   go_wp2_with fail
   refine HA.o.mono ?_; rintro e w' ⟨rfl,rfl⟩
   go_wp2_with fail
   refine HB.o.mono ?_; rintro e w' ⟨rfl,rfl⟩
   go_wp2
   go_ret
   exact ⟨rfl,rfl⟩
  ·rw [if_neg h2]
   have t2 : decide (y < x) = false := by simpa using h2
   clear h1 h2
   go_enter Tryz.func73,Tryz.ntmps73
   go_wp2_with fail
   refine HA.o.mono ?_; rintro e w' ⟨rfl,rfl⟩
   go_wp2_with fail
   refine HB.o.mono ?_; rintro e w' ⟨rfl,rfl⟩
   go_wp2
   go_ret
   exact ⟨rfl,rfl⟩
end Go.Proofs.YtaamihdibpioaaaGreat
