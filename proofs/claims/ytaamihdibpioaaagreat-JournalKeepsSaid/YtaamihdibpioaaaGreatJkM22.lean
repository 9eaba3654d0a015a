/- How numbers, strings, names stand to one another: what Go's own comparing functions answer. -/
import Derived.Test.YtaamihdibpioaaaGreatJkM12
import Derived.Lib.Bytealg
namespace Go.Proofs.YtaamihdibpioaaaGreat
set_option linter.unusedVariables false
open Go.RowKit

def sgnI (a b : Int) : Int := if a < b then -1 else if b < a then 1 else 0
theorem nan_int (a : Int) (w : World) : Calls Tryz.prog 52 #[.int .i64 a] w fun e w' => e = .returned (.bool false) ∧ w = w' := by
  go_enter Tryz.func52, Tryz.ntmps52
  go_wp2
  go_ret
  exact ⟨rfl, rfl⟩
theorem nan_int64 (a : Int) (w : World) : Calls Tryz.prog 189 #[.int .i64 a] w fun e w' => e = .returned (.bool false) ∧ w = w' := by
  go_enter Tryz.func189, Tryz.ntmps189
  go_wp2
  go_ret
  exact ⟨rfl, rfl⟩
theorem nan_str (a : ByteArray) (w : World) : Calls Tryz.prog 197 #[.string a] w fun e w' => e = .returned (.bool false) ∧ w = w' := by
  go_enter Tryz.func197, Tryz.ntmps197
  go_wp2
  go_ret
  exact ⟨by simp, rfl⟩
theorem cmp_int (a b : Int) (w : World) : Calls Tryz.prog 33 #[.int .i64 a, .int .i64 b] w fun e w' => e = .returned (.int .i64 (sgnI a b)) ∧ w = w' := by
  rcases Int.lt_trichotomy a b with h | h | h
  · have e : sgnI a b = -1 := by unfold sgnI; rw [if_pos h]
    rw [e]
    have i1 : decide (a < b) = true := by simpa using h
    clear e h
    go_enter Tryz.func33, Tryz.ntmps33
    go_wp2_with (go_at_call 52; refine (nan_int _ _).mono ?_; rintro e w' ⟨rfl, rfl⟩)
    go_ret
    exact ⟨rfl, rfl⟩
  · subst h
    have e : sgnI a a = 0 := by unfold sgnI; simp
    rw [e]
    clear e
    go_enter Tryz.func33, Tryz.ntmps33
    go_wp2_with (go_at_call 52; refine (nan_int _ _).mono ?_; rintro e w' ⟨rfl, rfl⟩)
    go_ret
    exact ⟨rfl, rfl⟩
  · have e : sgnI a b = 1 := by unfold sgnI; rw [if_neg (by omega), if_pos h]
    rw [e]
    have i1 : decide (a < b) = false := by simp; omega
    have i2 : decide (b < a) = true := by simpa using h
    clear e h
    go_enter Tryz.func33, Tryz.ntmps33
    go_wp2_with (go_at_call 52; refine (nan_int _ _).mono ?_; rintro e w' ⟨rfl, rfl⟩)
    go_ret
    exact ⟨rfl, rfl⟩
theorem cmp_int64 (a b : Int) (w : World) : Calls Tryz.prog 165 #[.int .i64 a, .int .i64 b] w fun e w' => e = .returned (.int .i64 (sgnI a b)) ∧ w = w' := by
  rcases Int.lt_trichotomy a b with h | h | h
  · have e : sgnI a b = -1 := by unfold sgnI; rw [if_pos h]
    rw [e]
    have i1 : decide (a < b) = true := by simpa using h
    clear e h
    go_enter Tryz.func165, Tryz.ntmps165
    go_wp2_with (go_at_call 189; refine (nan_int64 _ _).mono ?_; rintro e w' ⟨rfl, rfl⟩)
    go_ret
    exact ⟨rfl, rfl⟩
  · subst h
    have e : sgnI a a = 0 := by unfold sgnI; simp
    rw [e]
    clear e
    go_enter Tryz.func165, Tryz.ntmps165
    go_wp2_with (go_at_call 189; refine (nan_int64 _ _).mono ?_; rintro e w' ⟨rfl, rfl⟩)
    go_ret
    exact ⟨rfl, rfl⟩
  · have e : sgnI a b = 1 := by unfold sgnI; rw [if_neg (by omega), if_pos h]
    rw [e]
    have i1 : decide (a < b) = false := by simp; omega
    have i2 : decide (b < a) = true := by simpa using h
    clear e h
    go_enter Tryz.func165, Tryz.ntmps165
    go_wp2_with (go_at_call 189; refine (nan_int64 _ _).mono ?_; rintro e w' ⟨rfl, rfl⟩)
    go_ret
    exact ⟨rfl, rfl⟩

/-- How two strings stand. -/
def scmp (a b : ByteArray) : Int := if Op.bytesLess a.toList b.toList = true then -1 else if (a.toList == b.toList) = true then 0 else 1
theorem cmp_str (a b : ByteArray) (w : World) : Calls Tryz.prog 192 #[.string a, .string b] w fun e w' => e = .returned (.int .i64 (scmp a b)) ∧ w = w' := by
  cases h1 : Op.bytesLess a.toList b.toList with
  | true =>
    have e : scmp a b = -1 := by unfold scmp; rw [if_pos h1]
    rw [e]
    clear e
    go_enter Tryz.func192, Tryz.ntmps192
    go_wp2_with (go_at_call 197; refine (nan_str _ _).mono ?_; rintro e w' ⟨rfl, rfl⟩)
    go_ret
    exact ⟨rfl, rfl⟩
  | false =>
    cases h2 : (a.toList == b.toList) with
    | false =>
      have e : scmp a b = 1 := by unfold scmp; rw [if_neg (by rw [h1]; simp), if_neg (by rw [h2]; simp)]
      rw [e]
      clear e
      go_enter Tryz.func192, Tryz.ntmps192
      go_wp2_with (go_at_call 197; refine (nan_str _ _).mono ?_; rintro e w' ⟨rfl, rfl⟩)
      go_ret
      exact ⟨rfl, rfl⟩
    | true =>
      have e : scmp a b = 0 := by unfold scmp; rw [if_neg (by rw [h1]; simp), if_pos h2]
      rw [e]
      clear e
      go_enter Tryz.func192, Tryz.ntmps192
      go_wp2_with (go_at_call 197; refine (nan_str _ _).mono ?_; rintro e w' ⟨rfl, rfl⟩)
      go_ret
      exact ⟨rfl, rfl⟩

/-- A kind without items that count. -/
def leafB (k : Int) : Bool := decide (1 ≤ k ∧ k ≤ 4)
theorem leaf_any (k : Int) (w : World) : Calls Tryz.prog 137 #[.int .i64 k] w fun e w' => e = .returned (.bool (leafB k)) ∧ w = w' := by
  have hl : leafB k = (decide (1 ≤ k) && decide (k ≤ 4)) := by unfold leafB; by_cases h1 : 1 ≤ k <;> by_cases h2 : k ≤ 4 <;> simp [h1, h2]
  rw [hl]
  clear hl
  by_cases h1 : 1 ≤ k
  · have i1 : decide (1 ≤ k) = true := by simpa using h1
    rw [i1]
    clear h1
    go_enter Tryz.func137, Tryz.ntmps137
    go_wp2
    go_ret
    exact ⟨by simp, rfl⟩
  · have i1 : decide (1 ≤ k) = false := by simpa using h1
    rw [i1]
    clear h1
    go_enter Tryz.func137, Tryz.ntmps137
    go_wp2
    go_ret
    exact ⟨by simp, rfl⟩

set_option maxRecDepth 100000 in
theorem bcmp_any (a b : ByteArray) (w : World) : Calls Tryz.prog 191 #[.string a, .string b] w fun e w' => e = .returned (.int .i64 (Lib.compareBytes a.data.toList b.data.toList)) ∧ w = w' := by
  go_enter Tryz.func191, Tryz.ntmps191
  go_wp2_with fail
  rw [run_callFunc_extern Tryz.func196 (by kernel_rfl) (by kernel_rfl) (by kernel_rfl) (e := Extern.BytealgCompare.compare) (by kernel_rfl), Lib.run_compareString]
  simp only [Result.andThen]
  rw [Oper.upon_value]
  go_wp2
  go_ret
  exact ⟨rfl, rfl⟩
theorem strcmp_any (a b : ByteArray) (w : World) : Calls Tryz.prog 167 #[.string a, .string b] w fun e w' => e = .returned (.int .i64 (Lib.compareBytes a.data.toList b.data.toList)) ∧ w = w' := by
  go_enter Tryz.func167, Tryz.ntmps167
  go_wp2_with (go_at_call 191; refine (bcmp_any _ _ _).mono ?_; rintro e w' ⟨rfl, rfl⟩)
  go_ret
  exact ⟨rfl, rfl⟩
end Go.Proofs.YtaamihdibpioaaaGreat

/- How two rows of names stand to one another. -/
namespace Go.Proofs.YtaamihdibpioaaaGreat
set_option linter.unusedVariables false
open Go.RowKit

def ncmp : List ByteArray → List ByteArray → Int
  | [], [] => 0
  | [], _ :: _ => -1
  | _ :: _, [] => 1
  | a :: l, b :: m => if scmp a b ≠ 0 then scmp a b else ncmp l m
theorem ncmp_nil (ms : List ByteArray) : ncmp [] ms = if 0 < ms.length then -1 else 0 := by cases ms <;> simp [ncmp]
theorem ncmp_one {ns : List ByteArray} (h : 0 < ns.length) : ncmp ns [] = 1 := by cases ns; simp at h; simp [ncmp]
theorem NamesAt.slice {w : World} {a : Value} {ns : List ByteArray} (h : NamesAt w a ns) : ∃ p c, a = .slice p ns.length c := by
  rcases h with ⟨p, rfl, rfl⟩ | ⟨b, o, cap, rfl, _⟩
  · exact ⟨p, 0, rfl⟩
  · exact ⟨_, _, rfl⟩

set_option maxHeartbeats 2000000 in
set_option maxRecDepth 100000 in
theorem ncmp_any (a b : Value) (ns ms : List ByteArray) (w : World) (ha : NamesAt w a ns) (hb : NamesAt w b ms) (hn : ns.length ≤ 8796093021952) (hm : ms.length ≤ 8796093021952) :
    Calls Tryz.prog 168 #[a, b] w fun e w' => e = .returned (.int .i64 (ncmp ns ms)) ∧ w = w' := by
  rcases ha with ⟨pz, rfl, rfl⟩ | ⟨ab, ao, ac, rfl, a2, a3, a5, a4⟩
  · obtain ⟨p, c, rfl⟩ := hb.slice
    have hz := ncmp_nil ms
    obtain ⟨M, hM⟩ : ∃ M, M = ms.length := ⟨_, rfl⟩
    rw [← hM] at hz hm
    rw [← hM]
    have HZ := Lib.hid hz
    clear hz hM hb
    by_cases h0 : 0 < M
    · have i1 : decide ((0 : Int) < (M : Int)) = true := by simp; omega
      have HZ2 : Hid (ncmp [] ms = -1) := Lib.hid (by rw [HZ.out, if_pos h0])
      go_enter Tryz.func168, Tryz.ntmps168
      go_wp2_with fail
      go_loopw [11] (fun iv wr => iv = .int .i64 0 ∧ wr = w) (fun _ _ => 0)
      case atStart => exact ⟨rfl, rfl⟩
      case round =>
        obtain ⟨rfl, rfl⟩ := hrel
        go_wp2
        go_ret
        exact ⟨by rw [HZ2.out]; rfl, rfl⟩
    · have i1 : decide ((0 : Int) < (M : Int)) = false := by simp; omega
      have HZ2 : Hid (ncmp [] ms = 0) := Lib.hid (by rw [HZ.out, if_neg h0])
      go_enter Tryz.func168, Tryz.ntmps168
      go_wp2_with fail
      go_loopw [11] (fun iv wr => iv = .int .i64 0 ∧ wr = w) (fun _ _ => 0)
      case atStart => exact ⟨rfl, rfl⟩
      case round =>
        obtain ⟨rfl, rfl⟩ := hrel
        go_wp2
        go_ret
        exact ⟨by rw [HZ2.out]; rfl, rfl⟩
  · obtain ⟨L, hL⟩ : ∃ L, L = ns.length := ⟨_, rfl⟩
    have A4 := Lib.hid a4
    rw [← hL] at a2 hn a5
    rw [← hL]
    have HL := Lib.hid hL
    clear a4 hL
    have hsl := hb.slice
    obtain ⟨p, c, rfl⟩ := hsl
    obtain ⟨M, hM⟩ : ∃ M, M = ms.length := ⟨_, rfl⟩
    have B4 : Hid (∀ i, i < M → ∃ bb bo, p = some ⟨bb, bo, none⟩ ∧ w.cell? ⟨bb, bo + i, none⟩ = some (.string (ms.getD i ByteArray.empty)) ∧ M ≤ c) := Lib.hid (by
      intro i hi
      rcases hb with ⟨pz, h1, h2⟩ | ⟨bb, bo, bc, h1, h2, h3, h5, h4⟩
      · rw [h2] at hM; simp at hM; omega
      · injection h1 with q1 q2 q3
        subst q1
        exact ⟨bb, bo, rfl, h4 i (by omega), by omega⟩)
    rw [← hM] at hm
    rw [← hM]
    have HM := Lib.hid hM
    clear hb hM
    go_enter Tryz.func168, Tryz.ntmps168
    go_wp2_with fail
    go_loopw [11] (fun iv wr => ∃ i : Nat, iv = .int .i64 (i : Int) ∧ i ≤ L ∧ i ≤ M ∧ Hid (ncmp (ns.drop i) (ms.drop i) = ncmp ns ms) ∧ wr = w) (fun iv _ => L - (intOf iv).toNat)
    case atStart => exact ⟨0, rfl, by omega, by omega, Lib.hid rfl, rfl⟩
    case round =>
      obtain ⟨i, rfl, hi, hi2, HR, rfl⟩ := hrel
      by_cases hlt : i < L
      · have hil : i < ns.length := by rw [← HL.out]; exact hlt
        have hcell := A4.out i hil
        obtain ⟨s, hs⟩ : ∃ s, s = ns.getD i ByteArray.empty := ⟨_, rfl⟩
        rw [← hs] at hcell
        have hdr := drop_cons hil
        have hsi : ns[i]'hil = s := by rw [hs]; simp [hil]
        by_cases hlt2 : i < M
        · obtain ⟨bb, bo, rfl, hc2, hMc⟩ := B4.out i hlt2
          have hil2 : i < ms.length := by rw [← HM.out]; exact hlt2
          obtain ⟨t, ht⟩ : ∃ t, t = ms.getD i ByteArray.empty := ⟨_, rfl⟩
          rw [← ht] at hc2
          have hdr2 := drop_cons hil2
          have hti : ms[i]'hil2 = t := by rw [ht]; simp [hil2]
          have hst : ncmp ns ms = if scmp s t ≠ 0 then scmp s t else ncmp (ns.drop (i + 1)) (ms.drop (i + 1)) := by
            rw [← HR.out, hdr, hdr2, hsi, hti]; rfl
          have i2 : decide ((M : Int) ≤ (i : Int)) = false := by simp; omega
          have i2' : decide (M ≤ i) = false := by simp; omega
          have HST := Lib.hid hst
          obtain ⟨c3, hc3⟩ : ∃ c3, c3 = scmp s t := ⟨_, rfl⟩
          have HC := Lib.hid (cmp_str s t wr)
          rw [← hc3] at HC HST
          clear hst hs ht hsi hti hdr hdr2 HR hil hil2 hc3
          by_cases h0 : c3 = 0
          · have HR2 : Hid (ncmp (ns.drop (i + 1)) (ms.drop (i + 1)) = ncmp ns ms) := Lib.hid (by rw [HST.out, if_neg (by simp [h0])])
            subst h0
            go_wp2_with fail
            refine HC.out.mono ?_
            rintro e w' ⟨rfl, rfl⟩
            go_wp2
            go_roundw
            case rel => exact ⟨i + 1, by go_num, by omega, by omega, HR2, trivial⟩
            case measure => simp [intOf]; omega
          · have HR2 : Hid (ncmp ns ms = c3) := Lib.hid (by rw [HST.out, if_pos h0])
            have i3 : (c3 == 0) = false := by simpa using h0
            have i4 : (c3 != 0) = true := by simpa using h0
            clear h0 HST
            go_wp2_with fail
            refine HC.out.mono ?_
            rintro e w' ⟨rfl, rfl⟩
            go_wp2
            go_ret
            exact ⟨by rw [HR2.out]; rfl, rfl⟩
        · have HR2 : Hid (ncmp ns ms = 1) := Lib.hid (by
            rw [← HR.out, List.drop_eq_nil_of_le (show ms.length ≤ i by rw [← HM.out]; omega)]
            exact ncmp_one (by simp; omega))
          have i2 : decide ((M : Int) ≤ (i : Int)) = true := by simp; omega
          have i2' : decide (M ≤ i) = true := by simp; omega
          clear hs hsi hdr HR hil
          go_wp2
          go_ret
          exact ⟨by rw [HR2.out]; rfl, rfl⟩
      · have hz := ncmp_nil (ms.drop i)
        rw [← List.drop_eq_nil_of_le (show ns.length ≤ i by rw [← HL.out]; omega), HR.out] at hz
        by_cases h0 : i < M
        · have HZ2 : Hid (ncmp ns ms = -1) := Lib.hid (by rw [hz, if_pos (by simp; rw [← HM.out]; omega)])
          have i1 : decide ((L : Int) < (M : Int)) = true := by simp; omega
          have i1' : decide (L < M) = true := by simp; omega
          clear hz
          go_wp2
          go_ret
          exact ⟨by rw [HZ2.out]; rfl, rfl⟩
        · have HZ2 : Hid (ncmp ns ms = 0) := Lib.hid (by rw [hz, if_neg (by simp; rw [← HM.out]; omega)])
          have i1 : decide ((L : Int) < (M : Int)) = false := by simp; omega
          have i1' : decide (L < M) = false := by simp; omega
          clear hz
          go_wp2
          go_ret
          exact ⟨by rw [HZ2.out]; rfl, rfl⟩
end Go.Proofs.YtaamihdibpioaaaGreat

/- How two values of one kind stand to one another, but for their items. -/
namespace Go.Proofs.YtaamihdibpioaaaGreat
set_option linter.unusedVariables false
open Go.RowKit

def Val.row (v u : Val) : Int :=
  if v.k = 1 ∨ v.k = 2 then sgnI v.n u.n else if v.k = 3 then ford v.f u.f else if v.k = 4 then Lib.compareBytes v.s.data.toList u.s.data.toList else if v.k = 6 then ncmp v.ns u.ns else 0
end Go.Proofs.YtaamihdibpioaaaGreat

/- How two values stand to one another, items and all. -/
namespace Go.Proofs.YtaamihdibpioaaaGreat
set_option linter.unusedVariables false
open Go.RowKit

mutual
def Val.ord : Val → Val → Int
  | .mk k n f s na ns xa xs, u =>
    if sgnI k u.k ≠ 0 then sgnI k u.k
    else if Val.row (.mk k n f s na ns xa xs) u ≠ 0 ∨ leafB k = true then Val.row (.mk k n f s na ns xa xs) u
    else Val.ordAll xs u.xs
def Val.ordAll : List Val → List Val → Int
  | [], ys => if 0 < ys.length then -1 else 0
  | x :: xs, ys => match ys with
    | [] => 1
    | y :: ys => if x.ord y ≠ 0 then x.ord y else Val.ordAll xs ys
end
mutual
/-- All kinds are kinds of values. -/
def Val.Kinds : Val → Prop
  | .mk k _ _ _ _ _ _ xs => (1 ≤ k ∧ k ≤ 6) ∧ Val.KindsAll xs
def Val.KindsAll : List Val → Prop
  | [] => True
  | x :: xs => x.Kinds ∧ Val.KindsAll xs
end
theorem Val.kindsAll_iff : ∀ xs : List Val, Val.KindsAll xs ↔ ∀ x, x ∈ xs → x.Kinds
  | [] => by simp [Val.KindsAll]
  | x :: xs => by simp [Val.KindsAll, Val.kindsAll_iff xs]
theorem Val.kinds_iff (v : Val) : v.Kinds ↔ (1 ≤ v.k ∧ v.k ≤ 6) ∧ ∀ x, x ∈ v.xs → x.Kinds := by
  cases v
  simp only [Val.Kinds, Val.kindsAll_iff, Val.k, Val.xs]

/-- How the items of two values lie, told for the walk: whatever slice it is. -/
theorem items_at {w : World} {v : Val} (h : v.In w) : ∃ p c, v.xa.val v.xs.length = .slice p v.xs.length c ∧ ∀ i (hi : i < v.xs.length), ∃ b o, p = some ⟨b, o, none⟩ ∧ PVal w b (o + i * 6) (v.xs[i]'hi) ∧ v.xs.length ≤ c := by
  rcases h.items with ⟨pz, h1, h2⟩ | ⟨b, o, cap, h1, h2, h3, h4⟩
  · exact ⟨pz, 0, by rw [h1, h2]; rfl, fun i hi => by rw [h2] at hi; simp at hi⟩
  · exact ⟨_, cap, h1, fun i hi => ⟨b, o, rfl, h4 i hi, h2⟩⟩

end Go.Proofs.YtaamihdibpioaaaGreat
