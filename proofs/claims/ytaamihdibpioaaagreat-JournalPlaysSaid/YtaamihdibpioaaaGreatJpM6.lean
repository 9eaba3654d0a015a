/- How many parts a value has. -/
import Derived.Test.YtaamihdibpioaaaGreatJpM1
import Derived.Test.YtaamihdibpioaaaGreatProg
import Derived.Deep.QuietTactic
import Derived.BigQuiet
import Derived.BigGuardPart
set_option maxRecDepth 100000
set_option maxHeartbeats 40000000
namespace Go.Proofs.YtaamihdibpioaaaGreat
open Go.RowKit
mutual
def Val.count : Val -> Nat -> Nat
 | .mk _ _ _ _ _ _ _ xs,n => Val.countAll xs (n + 1)
def Val.countAll : List Val -> Nat -> Nat
 | [],n => n
 | x :: xs,n => if 500 <= n then n else Val.countAll xs (x.count n)
end
theorem Val.count_eq (v : Val) (n : Nat) : v.count n = Val.countAll v.xs (n + 1) := by cases v; simp [Val.count,Val.xs]
theorem Val.count_le : ∀ (d : Nat) (v : Val) (n : Nat), v.sz <= d -> n < 500 -> n < v.count n /\ v.count n <= 500
 | 0,v,n,hd,_ => by rw [Val.sz_eq] at hd; omega
 | d + 1, v, n, hd, hn => by
  have key : ∀ (xs : List Val) (m : Nat), (∀ x, x ∈ xs -> x.sz <= d) -> m <= 500 -> m <= Val.countAll xs m /\ Val.countAll xs m <= 500 := by
   intro xs
   induction xs with
   | nil => intro m _ hm; simp [Val.countAll]; exact hm
   | cons x xs ih =>
    intro m hx hm; simp only [Val.countAll]
    split
    ·omega
    ·have h1 := Val.count_le d x m (hx x (by simp)) (by omega)
     have h2 := ih (x.count m) (fun y hy => hx y (by simp [hy])) h1.2
     omega
  rw [Val.count_eq]; have := key v.xs (n + 1) (fun x hx => by have := Val.size_mem hx; omega) (by omega)
  omega
theorem Val.countAll_ge {xs : List Val} {m : Nat} (h : 500 <= m) : Val.countAll xs m = m := by
 cases xs with
 | nil => simp [Val.countAll]
 | cons x xs => simp [Val.countAll,h]
theorem drop_cons {A : Type} {l : List A} {i : Nat} (h : i < l.length) : l.drop i = l[i] :: l.drop (i + 1) := List.drop_eq_getElem_cons h
theorem counted_any : ∀ (d : Nat) (v : Val) (b o n : Nat) (w : World), v.sz <= d -> n < 500 -> PVal w b o v ->
  Calls Tryz.prog 172 #[.pointer (some ⟨b,o,none⟩), .int .i64 n] w fun e w' => e = .returned (.int .i64 ((v.count n : Nat) : Int)) /\ w = w'
 | 0,v,b,o,n,w,hd,_,_ => by rw [Val.sz_eq] at hd; omega
 | d + 1, v, b, o, n, w, hd, hn, hp => by
  have c5 := hp.c5; have hw : IntKind.i64.wrap ((n : Int) + 1) = (n : Int) + 1 := IntWalk.i64_in _ (by omega)
  rcases hp.in.items with ⟨pz,h1,h2⟩ | ⟨xb,xo,cap,h1,h2,h3,h4⟩
  ·rw [h1] at c5
   have HE : Hid (v.count n = n + 1) := gh (by rw [Val.count_eq,h2]; simp [Val.countAll])
   clear h1 h2 hp
   go_enter Tryz.func172,Tryz.ntmps172
   go_wp2_with fail
   go_loopw [1, 13] (fun nv iv wr => nv = .int .i64 ((n : Int) + 1) /\ iv = .int .i64 0 /\ wr = w) (fun _ _ _ => 0)
   case atStart => exact ⟨rfl,rfl,rfl⟩
   case round =>
    obtain ⟨rfl,rfl,rfl⟩ := hrel
    go_wp2
    go_ret
    exact ⟨by rw [HE.o]; simp,rfl⟩
  ·rw [h1] at c5
   obtain ⟨L,hL⟩ := gXe (v.xs.length); rw [<- hL] at h2 c5; have HL := gh hL; have HC := gh (Val.count_eq v n); have H4 := gh h4; have hmem : ∀ x,x ∈ v.xs -> x.sz <= d := fun x hx => by have := Val.size_mem hx; omega
   have HM := gh hmem; clear h1 hL h4 hmem hp
   go_enter Tryz.func172,Tryz.ntmps172
   go_wp2_with fail
   go_loopw [1, 13] (fun nv iv wr => ∃ i m : Nat,nv = .int .i64 (m : Int) /\ iv = .int .i64 (i : Int) /\ i <= L /\ m <= 500 /\ Hid (Val.countAll (v.xs.drop i) m = v.count n) /\ wr = w) (fun _ iv _ => L - (intOf iv).toNat)
   case atStart => exact ⟨0,n + 1,by simp,rfl,by omega,by omega,gh (by rw [HC.o]; rfl),rfl⟩
   case round =>
    obtain ⟨i,m,rfl,rfl,hi,hm,HR,rfl⟩ := hrel
    by_cases hlt : i < L
    ·have hil : i < v.xs.length := by rw [<- HL.o]; exact hlt
     by_cases h500 : 500 <= m
     ·have HE : Hid (v.count n = m) := gh (by rw [<- HR.o, Val.countAll_ge h500])
      go_wp2
      go_ret
      exact ⟨by rw [HE.o]; rfl,rfl⟩
     ·have ih := counted_any d (v.xs[i]'hil) xb (xo + i * 6) m wr (HM.o _ (by simp)) (by omega) (H4.o i hil)
      have hcl := Val.count_le d (v.xs[i]'hil) m (HM.o _ (by simp)) (by omega)
      have HR2 : Hid (Val.countAll (v.xs.drop (i + 1)) ((v.xs[i]'hil).count m) = v.count n) := gh (by
       rw [<- HR.o,drop_cons hil]; simp [Val.countAll,h500])
      obtain ⟨q,hq⟩ := gXe ((v.xs[i]'hil).count m); rw [<- hq] at ih hcl HR2; have IH := gh ih; clear ih HR hq hil; obtain ⟨hcl1,hcl2⟩ := hcl
      go_wp2_with fail
      refine IH.o.mono ?_; rintro e w' ⟨rfl,rfl⟩
      go_wp2
      go_roundw
      case rel => exact ⟨i + 1,q,rfl,by go_num,by omega,by omega,HR2,trivial⟩
      case measure => simp [intOf]; omega
    ·have HE : Hid (v.count n = m) := gh (by rw [<- HR.o, List.drop_eq_nil_of_le (by rw [<- HL.o]; omega)]; simp [Val.countAll])
     go_wp2
     go_ret
     exact ⟨by rw [HE.o]; rfl,rfl⟩
end Go.Proofs.YtaamihdibpioaaaGreat
namespace Go.Proofs.YtaamihdibpioaaaGreat
open Go.RowKit
end Go.Proofs.YtaamihdibpioaaaGreat
