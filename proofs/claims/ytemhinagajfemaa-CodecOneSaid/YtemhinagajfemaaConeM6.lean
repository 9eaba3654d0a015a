/- How many parts a value has. -/
import Derived.Test.YtemhinagajfemaaConeM1
import Derived.Test.YtemhinagajfemaaConeM5
import Derived.Test.YtemhinagajfemaaProg
import Derived.Deep.QuietTactic
import Derived.BigQuiet
import Derived.BigGuardPart
namespace Go.Proofs.Ytemhinagajfemaa
set_option linter.unusedVariables false
open Go.RowKit

mutual
/-- Parts, counted up to a bound. -/
def Val.count : Val → Nat → Nat
  | .mk _ _ _ _ _ _ _ xs, n => Val.countAll xs (n + 1)
def Val.countAll : List Val → Nat → Nat
  | [], n => n
  | x :: xs, n => if 500 ≤ n then n else Val.countAll xs (x.count n)
end
theorem Val.count_eq (v : Val) (n : Nat) : v.count n = Val.countAll v.xs (n + 1) := by cases v; simp [Val.count, Val.xs]
theorem Val.count_le : ∀ (d : Nat) (v : Val) (n : Nat), v.sz ≤ d → n < 500 → n < v.count n ∧ v.count n ≤ 500
  | 0, v, n, hd, _ => by rw [Val.sz_eq] at hd; omega
  | d + 1, v, n, hd, hn => by
    have key : ∀ (xs : List Val) (m : Nat), (∀ x, x ∈ xs → x.sz ≤ d) → m ≤ 500 → m ≤ Val.countAll xs m ∧ Val.countAll xs m ≤ 500 := by
      intro xs
      induction xs with
      | nil => intro m _ hm; simp [Val.countAll]; exact hm
      | cons x xs ih =>
        intro m hx hm
        simp only [Val.countAll]
        split
        · omega
        · have h1 := Val.count_le d x m (hx x (by simp)) (by omega)
          have h2 := ih (x.count m) (fun y hy => hx y (by simp [hy])) h1.2
          omega
    rw [Val.count_eq]
    have := key v.xs (n + 1) (fun x hx => by have := Val.size_mem hx; omega) (by omega)
    omega
theorem Val.countAll_ge {xs : List Val} {m : Nat} (h : 500 ≤ m) : Val.countAll xs m = m := by
  cases xs with
  | nil => simp [Val.countAll]
  | cons x xs => simp [Val.countAll, h]

theorem drop_cons {A : Type} {l : List A} {i : Nat} (h : i < l.length) : l.drop i = l[i] :: l.drop (i + 1) := List.drop_eq_getElem_cons h

set_option maxHeartbeats 1000000 in
set_option maxRecDepth 100000 in
theorem counted_any : ∀ (d : Nat) (v : Val) (b o n : Nat) (w : World), v.sz ≤ d → n < 500 → PVal w b o v →
    Calls Try.prog 115 #[.pointer (some ⟨b, o, none⟩), .int .i64 n] w fun e w' => e = .returned (.int .i64 ((v.count n : Nat) : Int)) ∧ w = w'
  | 0, v, b, o, n, w, hd, _, _ => by rw [Val.sz_eq] at hd; omega
  | d + 1, v, b, o, n, w, hd, hn, hp => by
    have c5 := hp.c5
    have hw : IntKind.i64.wrap ((n : Int) + 1) = (n : Int) + 1 := IntWalk.i64_in _ (by omega)
    rcases hp.in.items with ⟨pz, h1, h2⟩ | ⟨xb, xo, cap, h1, h2, h3, h4⟩
    · rw [h1] at c5
      have HE : Hid (v.count n = n + 1) := Lib.hid (by rw [Val.count_eq, h2]; simp [Val.countAll])
      clear h1 h2 hp
      go_enter Try.func115, Try.ntmps115
      go_wp2_with fail
      go_loopw [1, 13] (fun nv iv wr => nv = .int .i64 ((n : Int) + 1) ∧ iv = .int .i64 0 ∧ wr = w) (fun _ _ _ => 0)
      case atStart => exact ⟨rfl, rfl, rfl⟩
      case round =>
        obtain ⟨rfl, rfl, rfl⟩ := hrel
        go_wp2
        go_ret
        exact ⟨by rw [HE.out]; simp, rfl⟩
    · rw [h1] at c5
      obtain ⟨L, hL⟩ : ∃ L, L = v.xs.length := ⟨_, rfl⟩
      rw [← hL] at h2 c5
      have HL := Lib.hid hL
      have HC := Lib.hid (Val.count_eq v n)
      have H4 := Lib.hid h4
      have hmem : ∀ x, x ∈ v.xs → x.sz ≤ d := fun x hx => by have := Val.size_mem hx; omega
      have HM := Lib.hid hmem
      clear h1 hL h4 hmem hp
      go_enter Try.func115, Try.ntmps115
      go_wp2_with fail
      go_loopw [1, 13] (fun nv iv wr => ∃ i m : Nat, nv = .int .i64 (m : Int) ∧ iv = .int .i64 (i : Int) ∧ i ≤ L ∧ m ≤ 500 ∧ Hid (Val.countAll (v.xs.drop i) m = v.count n) ∧ wr = w) (fun _ iv _ => L - (intOf iv).toNat)
      case atStart => exact ⟨0, n + 1, by simp, rfl, by omega, by omega, Lib.hid (by rw [HC.out]; rfl), rfl⟩
      case round =>
        obtain ⟨i, m, rfl, rfl, hi, hm, HR, rfl⟩ := hrel
        by_cases hlt : i < L
        · have hil : i < v.xs.length := by rw [← HL.out]; exact hlt
          by_cases h500 : 500 ≤ m
          · have HE : Hid (v.count n = m) := Lib.hid (by rw [← HR.out, Val.countAll_ge h500])
            go_wp2
            go_ret
            exact ⟨by rw [HE.out]; rfl, rfl⟩
          · have ih := counted_any d (v.xs[i]'hil) xb (xo + i * 6) m wr (HM.out _ (by simp)) (by omega) (H4.out i hil)
            have hcl := Val.count_le d (v.xs[i]'hil) m (HM.out _ (by simp)) (by omega)
            have HR2 : Hid (Val.countAll (v.xs.drop (i + 1)) ((v.xs[i]'hil).count m) = v.count n) := Lib.hid (by
              rw [← HR.out, drop_cons hil]; simp [Val.countAll, h500])
            obtain ⟨q, hq⟩ : ∃ q, q = (v.xs[i]'hil).count m := ⟨_, rfl⟩
            rw [← hq] at ih hcl HR2
            have IH := Lib.hid ih
            clear ih HR hq hil
            obtain ⟨hcl1, hcl2⟩ := hcl
            go_wp2_with fail
            refine IH.out.mono ?_
            rintro e w' ⟨rfl, rfl⟩
            go_wp2
            go_roundw
            case rel => exact ⟨i + 1, q, rfl, by go_num, by omega, by omega, HR2, trivial⟩
            case measure => simp [intOf]; omega
        · have HE : Hid (v.count n = m) := Lib.hid (by rw [← HR.out, List.drop_eq_nil_of_le (by rw [← HL.out]; omega)]; simp [Val.countAll])
          go_wp2
          go_ret
          exact ⟨by rw [HE.out]; rfl, rfl⟩
end Go.Proofs.Ytemhinagajfemaa

/- Whether a bool, or a float, may be a value. -/
namespace Go.Proofs.Ytemhinagajfemaa
set_option linter.unusedVariables false
open Go.RowKit

set_option maxHeartbeats 1000000 in
theorem rank0 (w : World) : Calls Try.prog 130 #[.float .f64 0] w fun e w' => e = .returned (.tuple #[.int .i64 0, .int .i64 0]) ∧ w = w' := by
  have ho : FloatKind.f64.format.order 0 0 = some .eq := by decide +kernel
  have hq : ∀ W : World, (binOp .quo 43 (.float .f64 4607182418800017408) (.float .f64 0)).run Try.prog W = .ok (.float .f64 9218868437227405312) W := fun W => by kernel_rfl
  have hi : FloatKind.f64.format.order 9218868437227405312 0 = some .gt := by decide +kernel
  go_enter Try.func130, Try.ntmps130
  go_wp2
  go_ret2
  exact ⟨rfl, rfl⟩

set_option maxHeartbeats 1000000 in
theorem order00 (w : World) : Calls Try.prog 123 #[.float .f64 0, .float .f64 0] w fun e w' => e = .returned (.int .i64 0) ∧ w = w' := by
  go_enter Try.func123, Try.ntmps123
  go_wp2_with (go_at_call 130; refine (rank0 _).mono ?_; rintro e w' ⟨rfl, rfl⟩)
  go_ret
  exact ⟨rfl, rfl⟩

set_option maxHeartbeats 1000000 in
theorem counted_leaf (w : World) (g off n : Nat) (hn : n < 1000) (h : w.cell? ⟨g, off + 5, none⟩ = some (.slice none 0 0)) :
    Calls Try.prog 115 #[.pointer (some ⟨g, off, none⟩), .int .i64 n] w fun e w' => e = .returned (.int .i64 ((n + 1 : Nat) : Int)) ∧ w = w' := by
  have hw : IntKind.i64.wrap ((n : Int) + 1) = (n : Int) + 1 := IntWalk.i64_in _ (by omega)
  go_enter Try.func115, Try.ntmps115
  go_wp2_with fail
  go_loopw [1, 13] (fun nv iv wr => nv = .int .i64 ((n : Int) + 1) ∧ iv = .int .i64 0 ∧ wr = w) (fun _ _ _ => 0)
  case atStart => exact ⟨rfl, rfl, rfl⟩
  case round =>
    obtain ⟨rfl, rfl, rfl⟩ := hrel
    go_wp2
    go_ret
    exact ⟨by simp, rfl⟩

theorem parts_leaf (w : World) (k n : Int) (f : Nat) (s : ByteArray) :
    Calls Try.prog 95 #[.agg #[.int .i64 k, .int .i64 n, .float .f64 f, .string s, .slice none 0 0, .slice none 0 0]] w fun e w' => e = .returned (.int .i64 1) ∧ Below w.heap.size w w' := by
  have hc := counted_leaf (w.alloc (.cells #[.int .i64 k, .int .i64 n, .float .f64 f, .string s, .slice none 0 0, .slice none 0 0] 46)) w.heap.size 0 0 (by omega) (by rw [(Blk.new w 46 _).cell]; rfl)
  have HC := Lib.hid hc
  clear hc
  go_enter Try.func95, Try.ntmps95
  go_wp2_with fail
  refine HC.out.mono ?_
  rintro e w' ⟨rfl, rfl⟩
  go_wp2
  go_ret
  exact ⟨rfl, (Below.refl _ _).alloc (Nat.le_refl _) _⟩

/-- A bool's cells; a float's, that has nothing else. -/
def boolV (n : Int) : Value := .agg #[.int .i64 1, .int .i64 n, .float .f64 0, .string ByteArray.empty, .slice none 0 0, .slice none 0 0]
def floatV (f : Nat) : Value := .agg #[.int .i64 3, .int .i64 0, .float .f64 f, .string ByteArray.empty, .slice none 0 0, .slice none 0 0]

set_option maxHeartbeats 1000000 in
theorem bare_leaf0 (w : World) (g : Nat) (k n : Int) (f : Nat) (bn bf : Bool) (hn : bn = true ∨ n = 0) (hf : bf = true ∨ f = 0)
    (h : Blk w g 46 #[.int .i64 k, .int .i64 n, .float .f64 f, .string ByteArray.empty, .slice none 0 0, .slice none 0 0]) :
    Calls Try.prog 116 #[.pointer (some ⟨g, 0, none⟩), .bool bn, .bool bf, .bool false, .bool false] w fun e w' => e = .returned (.bool true) ∧ w = w' := by
  have c1 := h.cell 1; have c2 := h.cell 2; have c3 := h.cell 3; have c4 := h.cell 4; have c5 := h.cell 5
  simp at c1 c2 c3 c4 c5
  clear h
  cases bn <;> cases bf <;> simp at hn hf
  all_goals try subst hn
  all_goals try subst hf
  all_goals
    go_enter Try.func116, Try.ntmps116
    go_wp2_with (go_at_call 123; refine (order00 _).mono ?_; rintro e w' ⟨rfl, rfl⟩)
    go_ret
    exact ⟨rfl, rfl⟩

set_option maxHeartbeats 1000000 in
theorem right_bool (w : World) (g : Nat) (h : Blk w g 46 #[.int .i64 1, .int .i64 1, .float .f64 0, .string ByteArray.empty, .slice none 0 0, .slice none 0 0]) :
    Calls Try.prog 96 #[.pointer (some ⟨g, 0, none⟩), .int .i64 1] w fun e w' => e = .returned (.bool true) ∧ w = w' := by
  have c0 := h.cell 0; have c1 := h.cell 1
  simp at c0 c1
  have hb := Lib.hid (bare_leaf0 w g 1 1 0 true false (.inl rfl) (.inr rfl) h)
  clear h
  go_enter Try.func96, Try.ntmps96
  go_wp2_with fail
  refine hb.out.mono ?_
  rintro e w' ⟨rfl, rfl⟩
  go_wp2
  go_ret
  exact ⟨rfl, rfl⟩

set_option maxHeartbeats 1000000 in
theorem right_float (w : World) (g f : Nat) (h : Blk w g 46 #[.int .i64 3, .int .i64 0, .float .f64 f, .string ByteArray.empty, .slice none 0 0, .slice none 0 0]) :
    Calls Try.prog 96 #[.pointer (some ⟨g, 0, none⟩), .int .i64 1] w fun e w' => e = .returned (.bool true) ∧ w = w' := by
  have c0 := h.cell 0
  simp at c0
  have hb := Lib.hid (bare_leaf0 w g 3 0 f false true (.inr rfl) (.inl rfl) h)
  clear h
  go_enter Try.func96, Try.ntmps96
  go_wp2_with fail
  refine hb.out.mono ?_
  rintro e w' ⟨rfl, rfl⟩
  go_wp2
  go_ret
  exact ⟨rfl, rfl⟩

set_option maxHeartbeats 1000000 in
theorem rightf_leaf (w : World) (k n : Int) (f : Nat)
    (hr : ∀ (w : World) (g : Nat), Blk w g 46 #[.int .i64 k, .int .i64 n, .float .f64 f, .string ByteArray.empty, .slice none 0 0, .slice none 0 0] →
      Calls Try.prog 96 #[.pointer (some ⟨g, 0, none⟩), .int .i64 1] w fun e w' => e = .returned (.bool true) ∧ w = w') :
    Calls Try.prog 65 #[.agg #[.int .i64 k, .int .i64 n, .float .f64 f, .string ByteArray.empty, .slice none 0 0, .slice none 0 0]] w fun e w' => e = .returned (.bool true) ∧ Below w.heap.size w w' := by
  obtain ⟨W, hW⟩ : ∃ W, W = w.alloc (.cells #[.int .i64 k, .int .i64 n, .float .f64 f, .string ByteArray.empty, .slice none 0 0, .slice none 0 0] 46) := ⟨_, rfl⟩
  have hb : Blk W w.heap.size 46 #[.int .i64 k, .int .i64 n, .float .f64 f, .string ByteArray.empty, .slice none 0 0, .slice none 0 0] := by rw [hW]; exact Blk.new w 46 _
  have hB : Below w.heap.size w W := by rw [hW]; exact (Below.refl _ _).alloc (Nat.le_refl _) _
  have hp := parts_leaf W k n f ByteArray.empty
  have hlt := hb.lt
  have HW := Lib.hid hW; have HB := Lib.hid hb; have HBL := Lib.hid hB; have HP := Lib.hid hp; have HR := Lib.hid hr
  clear hW hb hB hp hr
  go_enter Try.func65, Try.ntmps65
  go_wp2_with fail
  rw [← HW.out]
  refine HP.out.mono ?_
  rintro e w2 ⟨rfl, hl⟩
  have hc := HR.out w2 w.heap.size (HB.out.below hl hlt)
  have HC := Lib.hid hc
  have HL := Lib.hid (HBL.out.trans (hl.mono HBL.out.size))
  clear hc hl HP HR HB HBL HW
  go_wp2_with fail
  refine HC.out.mono ?_
  rintro e w' ⟨rfl, rfl⟩
  go_wp2
  go_ret
  exact ⟨rfl, HL.out⟩

theorem right_bool1 (w : World) : Calls Try.prog 65 #[.agg #[.int .i64 1, .int .i64 1, .float .f64 0, .string ByteArray.empty, .slice none 0 0, .slice none 0 0]] w fun e w' => e = .returned (.bool true) ∧ Below w.heap.size w w' :=
  rightf_leaf w 1 1 0 right_bool
theorem right_float1 (w : World) (f : Nat) : Calls Try.prog 65 #[.agg #[.int .i64 3, .int .i64 0, .float .f64 f, .string ByteArray.empty, .slice none 0 0, .slice none 0 0]] w fun e w' => e = .returned (.bool true) ∧ Below w.heap.size w w' :=
  rightf_leaf w 3 0 f (fun w g => right_float w g f)
end Go.Proofs.Ytemhinagajfemaa
