/- value.Right of any value. -/
import Derived.Test.YtemhinagajfemaaConeM6
import Derived.Test.YtemhinagajfemaaConeM10
import Derived.Test.YtemhinagajfemaaConeM13
namespace Go.Proofs.Ytemhinagajfemaa
set_option linter.unusedVariables false
open Go.RowKit

theorem right_any : ∀ (d : Nat) (v : Val) (b o deep : Nat) (w : World), v.sz ≤ d → deep ≤ 13 → PVal w b o v →
    Calls Try.prog 96 #[.pointer (some ⟨b, o, none⟩), .int .i64 deep] w fun e w' => BoolBelow (v.rightB deep) w e w'
  | 0, v, b, o, deep, w, hd, _, _ => by rw [Val.sz_eq] at hd; omega
  | d + 1, v, b, o, deep, w, hd, hdeep, hp => by
    by_cases h12 : 12 < deep
    · exact right_deep v b o deep w h12
    · have ih : ∀ x, x ∈ v.xs → ∀ (b o : Nat) (w : World), PVal w b o x → Calls Try.prog 96 #[.pointer (some ⟨b, o, none⟩), .int .i64 ((deep : Int) + 1)] w fun e w' => BoolBelow (x.rightB (deep + 1)) w e w' :=
        fun x hx b o w hp => right_any d x b o (deep + 1) w (by have := Val.size_mem hx; omega) (by omega) hp
      by_cases h5 : v.k = 5
      · exact right_list v b o deep w (by omega) hp h5 ih
      · by_cases h6 : v.k = 6
        · exact right_rec v b o deep w (by omega) hp h6 ih
        · exact right_leaf v b o deep w (by omega) hp ⟨h5, h6⟩

/-- A value by its six cells. -/
abbrev Val.agg (v : Val) : Value := .agg #[.int .i64 v.k, .int .i64 v.n, .float .f64 v.f, .string v.s, v.na.val v.ns.length, v.xa.val v.xs.length]
/-- May it be a value? -/
def Val.RightB (v : Val) : Bool := decide (v.count 0 ≤ 200) && v.rightB 1

def IntBelow (n : Int) (w : World) (e : Ending) (w' : World) : Prop := e = .returned (.int .i64 n) ∧ Below w.heap.size w w'
theorem parts_any (v : Val) (w : World) (h : v.In w) : Calls Try.prog 95 #[v.agg] w fun e w' => IntBelow (v.count 0 : Nat) w e w' := by
  have hc := Lib.hid (counted_any v.sz v w.heap.size 0 0 _ (Nat.le_refl _) (by omega) (PVal.new w v 46 h))
  clear h
  go_enter Try.func95, Try.ntmps95
  go_wp2_with fail
  refine hc.out.mono ?_
  rintro e w' ⟨rfl, rfl⟩
  go_wp2
  go_ret
  exact ⟨rfl, (Below.refl _ _).alloc (Nat.le_refl _) _⟩

set_option maxHeartbeats 1000000 in
theorem rightf_any (v : Val) (w : World) (h : v.In w) : Calls Try.prog 65 #[v.agg] w fun e w' => BoolBelow v.RightB w e w' := by
  obtain ⟨W, hW⟩ : ∃ W, W = w.alloc (.cells #[.int .i64 v.k, .int .i64 v.n, .float .f64 v.f, .string v.s, v.na.val v.ns.length, v.xa.val v.xs.length] 46) := ⟨_, rfl⟩
  have hp : PVal W w.heap.size 0 v := by rw [hW]; exact PVal.new w v 46 h
  have hB : Below w.heap.size w W := by rw [hW]; exact (Below.refl _ _).alloc (Nat.le_refl _) _
  have hpa := parts_any v W hp.in
  have c0 := hp.c0; have c1 := hp.c1; have c2 := hp.c2; have c3 := hp.c3; have c4 := hp.c4; have c5 := hp.c5
  simp only [Nat.zero_add] at c1 c2 c3 c4 c5
  obtain ⟨p4, q4, e4⟩ := hp.in.nslice
  obtain ⟨p5, q5, e5⟩ := hp.in.xslice
  have HW := Lib.hid hW; have HP := Lib.hid hp; have HBL := Lib.hid hB; have HPA := Lib.hid hpa
  have hcl := Val.count_le v.sz v 0 (Nat.le_refl _) (by omega)
  obtain ⟨n, hn⟩ : ∃ n, n = v.count 0 := ⟨_, rfl⟩
  rw [← hn] at hcl HPA
  have hR : v.RightB = (decide (n ≤ 200) && v.rightB 1) := by rw [hn]; rfl
  have HR := Lib.hid hR
  clear hW hp hB hpa hn hR e4 e5
  by_cases h200 : n ≤ 200
  · have i1 : decide ((n : Int) ≤ 200) = true := by simp; omega
    have HR2 : Hid (v.RightB = v.rightB 1) := Lib.hid (by rw [HR.out]; simp [h200])
    clear HR h
    go_enter Try.func65, Try.ntmps65
    go_wp2_with fail
    rw [← HW.out]
    go_wp2_with fail
    refine HPA.out.mono ?_
    rintro e w2 ⟨rfl, hl⟩
    have HC := Lib.hid (right_any v.sz v w.heap.size 0 1 w2 (Nat.le_refl _) (by omega) (HP.out.below (hl.mono (Nat.le_refl _))))
    have HL := Lib.hid (HBL.out.trans (hl.mono HBL.out.size))
    clear hl c0 c1 c2 c3 c4 c5
    go_wp2_with fail
    refine HC.out.mono ?_
    rintro e w3 ⟨rfl, hl⟩
    have HL3 := Lib.hid (HL.out.trans (hl.mono HL.out.size))
    clear hl
    go_wp2
    go_ret
    exact ⟨by rw [HR2.out]; rfl, HL3.out⟩
  · have i1 : decide ((n : Int) ≤ 200) = false := by simp; omega
    have HR2 : Hid (v.RightB = false) := Lib.hid (by rw [HR.out]; simp [h200])
    clear HR h
    go_enter Try.func65, Try.ntmps65
    go_wp2_with fail
    rw [← HW.out]
    go_wp2_with fail
    refine HPA.out.mono ?_
    rintro e w2 ⟨rfl, hl⟩
    have HL := Lib.hid (HBL.out.trans (hl.mono HBL.out.size))
    clear hl
    go_wp2
    go_ret
    exact ⟨by rw [HR2.out]; rfl, HL.out⟩
end Go.Proofs.Ytemhinagajfemaa

/- How many parts a type has (printed by wip/gen_ty2.py from XValCount). -/
namespace Go.Proofs.Ytemhinagajfemaa
set_option linter.unusedVariables false
open Go.RowKit

mutual
/-- Parts, counted up to a bound. -/
def Ty.count : Ty → Nat → Nat
  | .mk _ _ _ _ xs, n => Ty.countAll xs (n + 1)
def Ty.countAll : List Ty → Nat → Nat
  | [], n => n
  | x :: xs, n => if 500 ≤ n then n else Ty.countAll xs (x.count n)
end
theorem Ty.count_eq (v : Ty) (n : Nat) : v.count n = Ty.countAll v.xs (n + 1) := by cases v; simp [Ty.count, Ty.xs]
theorem Ty.count_le : ∀ (d : Nat) (v : Ty) (n : Nat), v.sz ≤ d → n < 500 → n < v.count n ∧ v.count n ≤ 500
  | 0, v, n, hd, _ => by rw [Ty.sz_eq] at hd; omega
  | d + 1, v, n, hd, hn => by
    have key : ∀ (xs : List Ty) (m : Nat), (∀ x, x ∈ xs → x.sz ≤ d) → m ≤ 500 → m ≤ Ty.countAll xs m ∧ Ty.countAll xs m ≤ 500 := by
      intro xs
      induction xs with
      | nil => intro m _ hm; simp [Ty.countAll]; exact hm
      | cons x xs ih =>
        intro m hx hm
        simp only [Ty.countAll]
        split
        · omega
        · have h1 := Ty.count_le d x m (hx x (by simp)) (by omega)
          have h2 := ih (x.count m) (fun y hy => hx y (by simp [hy])) h1.2
          omega
    rw [Ty.count_eq]
    have := key v.xs (n + 1) (fun x hx => by have := Ty.size_mem hx; omega) (by omega)
    omega
theorem Ty.countAll_ge {xs : List Ty} {m : Nat} (h : 500 ≤ m) : Ty.countAll xs m = m := by
  cases xs with
  | nil => simp [Ty.countAll]
  | cons x xs => simp [Ty.countAll, h]


set_option maxHeartbeats 1000000 in
set_option maxRecDepth 100000 in
theorem tparts_any0 : ∀ (d : Nat) (v : Ty) (b o n : Nat) (w : World), v.sz ≤ d → n < 500 → PTy w b o v →
    Calls Try.prog 101 #[.pointer (some ⟨b, o, none⟩), .int .i64 n] w fun e w' => e = .returned (.int .i64 ((v.count n : Nat) : Int)) ∧ w = w'
  | 0, v, b, o, n, w, hd, _, _ => by rw [Ty.sz_eq] at hd; omega
  | d + 1, v, b, o, n, w, hd, hn, hp => by
    have c5 := hp.c2
    have hw : IntKind.i64.wrap ((n : Int) + 1) = (n : Int) + 1 := IntWalk.i64_in _ (by omega)
    rcases hp.in.items with ⟨pz, h1, h2⟩ | ⟨xb, xo, cap, h1, h2, h3, h4⟩
    · rw [h1] at c5
      have HE : Hid (v.count n = n + 1) := Lib.hid (by rw [Ty.count_eq, h2]; simp [Ty.countAll])
      clear h1 h2 hp
      go_enter Try.func101, Try.ntmps101
      go_wp2_with fail
      go_loopw [1, 13] (fun nv iv wr => nv = .int .i64 ((n : Int) + 1) ∧ iv = .int .i64 0 ∧ wr = w) (fun _ _ _ => 0)
      case atStart => exact ⟨rfl, rfl, rfl⟩
      case round =>
        obtain ⟨rfl, rfl, rfl⟩ := hrel
        go_wp2
        go_ret
        exact ⟨by rw [HE.out]; simp, rfl⟩
    · rw [h1] at c5
      obtain ⟨L, hL⟩ : ∃ L, L = v.xs.length := ⟨_, rfl⟩
      rw [← hL] at h2 c5
      have HL := Lib.hid hL
      have HC := Lib.hid (Ty.count_eq v n)
      have H4 := Lib.hid h4
      have hmem : ∀ x, x ∈ v.xs → x.sz ≤ d := fun x hx => by have := Ty.size_mem hx; omega
      have HM := Lib.hid hmem
      clear h1 hL h4 hmem hp
      go_enter Try.func101, Try.ntmps101
      go_wp2_with fail
      go_loopw [1, 13] (fun nv iv wr => ∃ i m : Nat, nv = .int .i64 (m : Int) ∧ iv = .int .i64 (i : Int) ∧ i ≤ L ∧ m ≤ 500 ∧ Hid (Ty.countAll (v.xs.drop i) m = v.count n) ∧ wr = w) (fun _ iv _ => L - (intOf iv).toNat)
      case atStart => exact ⟨0, n + 1, by simp, rfl, by omega, by omega, Lib.hid (by rw [HC.out]; rfl), rfl⟩
      case round =>
        obtain ⟨i, m, rfl, rfl, hi, hm, HR, rfl⟩ := hrel
        by_cases hlt : i < L
        · have hil : i < v.xs.length := by rw [← HL.out]; exact hlt
          by_cases h500 : 500 ≤ m
          · have HE : Hid (v.count n = m) := Lib.hid (by rw [← HR.out, Ty.countAll_ge h500])
            go_wp2
            go_ret
            exact ⟨by rw [HE.out]; rfl, rfl⟩
          · have ih := tparts_any0 d (v.xs[i]'hil) xb (xo + i * 3) m wr (HM.out _ (by simp)) (by omega) (H4.out i hil)
            have hcl := Ty.count_le d (v.xs[i]'hil) m (HM.out _ (by simp)) (by omega)
            have HR2 : Hid (Ty.countAll (v.xs.drop (i + 1)) ((v.xs[i]'hil).count m) = v.count n) := Lib.hid (by
              rw [← HR.out, drop_cons hil]; simp [Ty.countAll, h500])
            obtain ⟨q, hq⟩ : ∃ q, q = (v.xs[i]'hil).count m := ⟨_, rfl⟩
            rw [← hq] at ih hcl HR2
            have IH := Lib.hid ih
            clear ih HR hq hil
            obtain ⟨hcl1, hcl2⟩ := hcl
            go_wp2_with fail
            refine IH.out.mono ?_
            rintro e w' ⟨rfl, rfl⟩
            go_wp2
            go_roundw
            case rel => exact ⟨i + 1, q, rfl, by go_num, by omega, by omega, HR2, trivial⟩
            case measure => simp [intOf]; omega
        · have HE : Hid (v.count n = m) := Lib.hid (by rw [← HR.out, List.drop_eq_nil_of_le (by rw [← HL.out]; omega)]; simp [Ty.countAll])
          go_wp2
          go_ret
          exact ⟨by rw [HE.out]; rfl, rfl⟩
end Go.Proofs.Ytemhinagajfemaa
