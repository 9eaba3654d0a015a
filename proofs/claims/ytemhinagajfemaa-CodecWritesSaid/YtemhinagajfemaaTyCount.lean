/- How many parts a type has (printed by wip/gen_ty2.py from XValCount). -/
import Derived.Test.YtemhinagajfemaaTy
import Derived.Test.YtemhinagajfemaaValCount
namespace Go.Proofs.Ytemhinagajfemaa
set_option linter.unusedVariables false
open Go.RowKit

mutual
/-- Parts, counted up to a bound. -/
def Ty.count : Ty → Nat → Nat
  | .mk _ _ _ _ xs, n => Ty.countAll xs (n + 1)
def Ty.countAll : List Ty → Nat → Nat
  | [], n => n
  | x :: xs, n => if 500 ≤ n then n else Ty.countAll xs (x.count n)
end
theorem Ty.count_eq (v : Ty) (n : Nat) : v.count n = Ty.countAll v.xs (n + 1) := by cases v; simp [Ty.count, Ty.xs]
theorem Ty.count_le : ∀ (d : Nat) (v : Ty) (n : Nat), v.sz ≤ d → n < 500 → n < v.count n ∧ v.count n ≤ 500
  | 0, v, n, hd, _ => by rw [Ty.sz_eq] at hd; omega
  | d + 1, v, n, hd, hn => by
    have key : ∀ (xs : List Ty) (m : Nat), (∀ x, x ∈ xs → x.sz ≤ d) → m ≤ 500 → m ≤ Ty.countAll xs m ∧ Ty.countAll xs m ≤ 500 := by
      intro xs
      induction xs with
      | nil => intro m _ hm; simp [Ty.countAll]; exact hm
      | cons x xs ih =>
        intro m hx hm
        simp only [Ty.countAll]
        split
        · omega
        · have h1 := Ty.count_le d x m (hx x (by simp)) (by omega)
          have h2 := ih (x.count m) (fun y hy => hx y (by simp [hy])) h1.2
          omega
    rw [Ty.count_eq]
    have := key v.xs (n + 1) (fun x hx => by have := Ty.size_mem hx; omega) (by omega)
    omega
theorem Ty.countAll_ge {xs : List Ty} {m : Nat} (h : 500 ≤ m) : Ty.countAll xs m = m := by
  cases xs with
  | nil => simp [Ty.countAll]
  | cons x xs => simp [Ty.countAll, h]


set_option maxHeartbeats 1000000 in
set_option maxRecDepth 100000 in
theorem tparts_any0 : ∀ (d : Nat) (v : Ty) (b o n : Nat) (w : World), v.sz ≤ d → n < 500 → PTy w b o v →
    Calls Try.prog 101 #[.pointer (some ⟨b, o, none⟩), .int .i64 n] w fun e w' => e = .returned (.int .i64 ((v.count n : Nat) : Int)) ∧ w = w'
  | 0, v, b, o, n, w, hd, _, _ => by rw [Ty.sz_eq] at hd; omega
  | d + 1, v, b, o, n, w, hd, hn, hp => by
    have c5 := hp.c2
    have hw : IntKind.i64.wrap ((n : Int) + 1) = (n : Int) + 1 := IntWalk.i64_in _ (by omega)
    rcases hp.in.items with ⟨pz, h1, h2⟩ | ⟨xb, xo, cap, h1, h2, h3, h4⟩
    · rw [h1] at c5
      have HE : Hid (v.count n = n + 1) := Lib.hid (by rw [Ty.count_eq, h2]; simp [Ty.countAll])
      clear h1 h2 hp
      go_enter Try.func101, Try.ntmps101
      go_wp2_with fail
      go_loopw [1, 13] (fun nv iv wr => nv = .int .i64 ((n : Int) + 1) ∧ iv = .int .i64 0 ∧ wr = w) (fun _ _ _ => 0)
      case atStart => exact ⟨rfl, rfl, rfl⟩
      case round =>
        obtain ⟨rfl, rfl, rfl⟩ := hrel
        go_wp2
        go_ret
        exact ⟨by rw [HE.out]; simp, rfl⟩
    · rw [h1] at c5
      obtain ⟨L, hL⟩ : ∃ L, L = v.xs.length := ⟨_, rfl⟩
      rw [← hL] at h2 c5
      have HL := Lib.hid hL
      have HC := Lib.hid (Ty.count_eq v n)
      have H4 := Lib.hid h4
      have hmem : ∀ x, x ∈ v.xs → x.sz ≤ d := fun x hx => by have := Ty.size_mem hx; omega
      have HM := Lib.hid hmem
      clear h1 hL h4 hmem hp
      go_enter Try.func101, Try.ntmps101
      go_wp2_with fail
      go_loopw [1, 13] (fun nv iv wr => ∃ i m : Nat, nv = .int .i64 (m : Int) ∧ iv = .int .i64 (i : Int) ∧ i ≤ L ∧ m ≤ 500 ∧ Hid (Ty.countAll (v.xs.drop i) m = v.count n) ∧ wr = w) (fun _ iv _ => L - (intOf iv).toNat)
      case atStart => exact ⟨0, n + 1, by simp, rfl, by omega, by omega, Lib.hid (by rw [HC.out]; rfl), rfl⟩
      case round =>
        obtain ⟨i, m, rfl, rfl, hi, hm, HR, rfl⟩ := hrel
        by_cases hlt : i < L
        · have hil : i < v.xs.length := by rw [← HL.out]; exact hlt
          by_cases h500 : 500 ≤ m
          · have HE : Hid (v.count n = m) := Lib.hid (by rw [← HR.out, Ty.countAll_ge h500])
            go_wp2
            go_ret
            exact ⟨by rw [HE.out]; rfl, rfl⟩
          · have ih := tparts_any0 d (v.xs[i]'hil) xb (xo + i * 3) m wr (HM.out _ (by simp)) (by omega) (H4.out i hil)
            have hcl := Ty.count_le d (v.xs[i]'hil) m (HM.out _ (by simp)) (by omega)
            have HR2 : Hid (Ty.countAll (v.xs.drop (i + 1)) ((v.xs[i]'hil).count m) = v.count n) := Lib.hid (by
              rw [← HR.out, drop_cons hil]; simp [Ty.countAll, h500])
            obtain ⟨q, hq⟩ : ∃ q, q = (v.xs[i]'hil).count m := ⟨_, rfl⟩
            rw [← hq] at ih hcl HR2
            have IH := Lib.hid ih
            clear ih HR hq hil
            obtain ⟨hcl1, hcl2⟩ := hcl
            go_wp2_with fail
            refine IH.out.mono ?_
            rintro e w' ⟨rfl, rfl⟩
            go_wp2
            go_roundw
            case rel => exact ⟨i + 1, q, rfl, by go_num, by omega, by omega, HR2, trivial⟩
            case measure => simp [intOf]; omega
        · have HE : Hid (v.count n = m) := Lib.hid (by rw [← HR.out, List.drop_eq_nil_of_le (by rw [← HL.out]; omega)]; simp [Ty.countAll])
          go_wp2
          go_ret
          exact ⟨by rw [HE.out]; rfl, rfl⟩
end Go.Proofs.Ytemhinagajfemaa
