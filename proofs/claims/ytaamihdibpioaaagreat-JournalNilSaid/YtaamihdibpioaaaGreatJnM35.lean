/- The leaves of 'may it be an expression': words, names of fields, how many kids, constants, no value (printed by wip/gen_leaf.py). -/
import Derived.Test.YtaamihdibpioaaaGreatJnM8
import Derived.Test.YtaamihdibpioaaaGreatJnM11
import Derived.Test.YtaamihdibpioaaaGreatJnM27
import Derived.Test.YtaamihdibpioaaaGreatJnM28
import Derived.Test.YtaamihdibpioaaaGreatJnM34
namespace Go.Proofs.YtaamihdibpioaaaGreat
set_option linter.unusedVariables false
open Go.RowKit

/-- Is it a word of the language? -/
def wordB (s : ByteArray) : Bool := (s.toList == [116, 114, 117, 101]) || (s.toList == [102, 97, 108, 115, 101]) || (s.toList == [110, 97, 110]) || (s.toList == [105, 110, 102]) || (s.toList == [108, 101, 110]) || (s.toList == [102, 108, 111, 97, 116]) || (s.toList == [105, 110, 116]) || (s.toList == [115, 116, 114])
/-- May it be a field's name? -/
def fieldB (s : ByteArray) : Bool := nameB s && !(s.toList == [110, 97, 110]) && !(s.toList == [105, 110, 102])
/-- How many kids each kind wants: -1 any, -2 there is no such kind. -/
def wantsP (k : Int) : Int := if k = 1 ∨ k = 2 then 0 else if k = 3 ∨ k = 4 ∨ k = 18 ∨ (20 ≤ k ∧ k ≤ 23) then 1 else if (5 ≤ k ∧ k ≤ 14) ∨ k = 19 then 2 else if k = 15 then 3 else if k = 16 ∨ k = 17 then -1 else -2
def Val.noneB (v : Val) : Bool := decide (v.k = 0) && decide (v.n = 0) && decide (v.f = 0) && decide (v.s.toList = []) && decide (v.ns.length = 0) && decide (v.xs.length = 0)
def Val.constB (v : Val) : Bool := if v.k = 1 ∨ v.k = 4 then v.RightB else if v.k = 2 then decide (0 ≤ v.n) && v.RightB else if v.k = 3 then !(fneg v.f && !fnan v.f) && v.RightB else false

set_option maxHeartbeats 1000000 in
set_option maxRecDepth 100000 in
theorem word_any (s : ByteArray) (w : World) : Calls Tryz.prog 170 #[.string s] w fun e w' => e = .returned (.bool (wordB s)) ∧ w = w' := by
  unfold wordB
  cases h0 : (s.toList == [116, 114, 117, 101]) with
  | true =>
    go_enter Tryz.func170, Tryz.ntmps170
    go_wp2
    go_ret
    exact ⟨by simp, rfl⟩
  | false =>
    cases h1 : (s.toList == [102, 97, 108, 115, 101]) with
    | true =>
      go_enter Tryz.func170, Tryz.ntmps170
      go_wp2
      go_ret
      exact ⟨by simp, rfl⟩
    | false =>
      cases h2 : (s.toList == [110, 97, 110]) with
      | true =>
        go_enter Tryz.func170, Tryz.ntmps170
        go_wp2
        go_ret
        exact ⟨by simp, rfl⟩
      | false =>
        cases h3 : (s.toList == [105, 110, 102]) with
        | true =>
          go_enter Tryz.func170, Tryz.ntmps170
          go_wp2
          go_ret
          exact ⟨by simp, rfl⟩
        | false =>
          cases h4 : (s.toList == [108, 101, 110]) with
          | true =>
            go_enter Tryz.func170, Tryz.ntmps170
            go_wp2
            go_ret
            exact ⟨by simp, rfl⟩
          | false =>
            cases h5 : (s.toList == [102, 108, 111, 97, 116]) with
            | true =>
              go_enter Tryz.func170, Tryz.ntmps170
              go_wp2
              go_ret
              exact ⟨by simp, rfl⟩
            | false =>
              cases h6 : (s.toList == [105, 110, 116]) with
              | true =>
                go_enter Tryz.func170, Tryz.ntmps170
                go_wp2
                go_ret
                exact ⟨by simp, rfl⟩
              | false =>
                cases h7 : (s.toList == [115, 116, 114]) with
                | true =>
                  go_enter Tryz.func170, Tryz.ntmps170
                  go_wp2
                  go_ret
                  exact ⟨by simp, rfl⟩
                | false =>
                  go_enter Tryz.func170, Tryz.ntmps170
                  go_wp2
                  go_ret
                  exact ⟨by simp, rfl⟩

set_option maxHeartbeats 1000000 in
set_option maxRecDepth 100000 in
theorem field_any (s : ByteArray) (w : World) (hs : strok s) : Calls Tryz.prog 171 #[.string s] w fun e w' => BoolBelow (fieldB s) w e w' := by
  have hn := name_any s w hs
  unfold fieldB
  cases h0 : nameB s with
  | false =>
    rw [h0] at hn
    have HN := Lib.hid hn
    clear hn h0
    go_enter Tryz.func171, Tryz.ntmps171
    go_wp2_with fail
    refine HN.out.mono ?_
    rintro e w' ⟨rfl, hb⟩
    go_wp2
    go_ret
    exact ⟨rfl, hb⟩
  | true =>
    rw [h0] at hn
    have HN := Lib.hid hn
    clear hn h0
    cases h1 : (s.toList == [110, 97, 110]) <;> cases h2 : (s.toList == [105, 110, 102])
    all_goals
      have h1' := h1
      have h2' := h2
      simp at h1' h2'
      go_enter Tryz.func171, Tryz.ntmps171
      go_wp2_with fail
      refine HN.out.mono ?_
      rintro e w' ⟨rfl, hb⟩
      go_wp2
      go_ret
      exact ⟨by simp, hb⟩

set_option maxHeartbeats 2000000 in
set_option maxRecDepth 100000 in
theorem kids_any (k : Int) (w : World) : Calls Tryz.prog 140 #[.int .i64 k] w fun e w' => e = .returned (.int .i64 (wantsP k)) ∧ w = w' := by
  by_cases hk : 1 ≤ k ∧ k ≤ 23
  · have : k = 1 ∨ k = 2 ∨ k = 3 ∨ k = 4 ∨ k = 5 ∨ k = 6 ∨ k = 7 ∨ k = 8 ∨ k = 9 ∨ k = 10 ∨ k = 11 ∨ k = 12 ∨ k = 13 ∨ k = 14 ∨ k = 15 ∨ k = 16 ∨ k = 17 ∨ k = 18 ∨ k = 19 ∨ k = 20 ∨ k = 21 ∨ k = 22 ∨ k = 23 := by omega
    rcases this with rfl | rfl | rfl | rfl | rfl | rfl | rfl | rfl | rfl | rfl | rfl | rfl | rfl | rfl | rfl | rfl | rfl | rfl | rfl | rfl | rfl | rfl | rfl
    all_goals
      clear hk
      go_enter Tryz.func140, Tryz.ntmps140
      go_wp2
      go_ret
      exact ⟨rfl, rfl⟩
  · have he : wantsP k = -2 := by
      unfold wantsP
      rw [if_neg (by omega), if_neg (by omega), if_neg (by omega), if_neg (by omega), if_neg (by omega)]
    rw [he]
    clear he
    have j1 : (k == 1) = false := by simp; omega
    have j2 : (k == 2) = false := by simp; omega
    have j3 : (k == 3) = false := by simp; omega
    have j4 : (k == 4) = false := by simp; omega
    have j15 : (k == 15) = false := by simp; omega
    have j16 : (k == 16) = false := by simp; omega
    have j17 : (k == 17) = false := by simp; omega
    have j18 : (k == 18) = false := by simp; omega
    have j19 : (k == 19) = false := by simp; omega
    by_cases h1 : k < 1
    · have i1 : decide ((20 : Int) ≤ k) = false := by simp; omega
      have i2 : decide ((5 : Int) ≤ k) = false := by simp; omega
      clear hk h1
      go_enter Tryz.func140, Tryz.ntmps140
      go_wp2
      go_ret
      exact ⟨rfl, rfl⟩
    · have i1 : decide ((20 : Int) ≤ k) = true := by simp; omega
      have i2 : decide ((5 : Int) ≤ k) = true := by simp; omega
      have i3 : decide (k ≤ 23) = false := by simp; omega
      have i4 : decide (k ≤ 14) = false := by simp; omega
      clear hk h1
      go_enter Tryz.func140, Tryz.ntmps140
      go_wp2
      go_ret
      exact ⟨rfl, rfl⟩

theorem ford_none' {f : Nat} (hf : f < 18446744073709551616) : (ford f 0 == 0) = decide (f = 0) := by
  have h := ford_zero (a := f) (b := 0) hf (by omega)
  have h0 : fcan 0 = 0 := by decide
  rw [h0] at h
  by_cases hz : f = 0
  · subst hz; decide
  · have : ¬ ford f 0 = 0 := fun e => by
      have := h.1 e
      unfold fcan at this
      split at this <;> omega
    rw [decide_eq_false hz]
    simpa using this
set_option maxHeartbeats 2000000 in
set_option maxRecDepth 100000 in
theorem nothing_any (v : Val) (b o : Nat) (w : World) (h : PVal w b o v) : Calls Tryz.prog 143 #[.pointer (some ⟨b, o, none⟩)] w fun e w' => e = .returned (.bool v.noneB) ∧ w = w' := by
  obtain ⟨p4, q4, e4⟩ := h.in.nslice
  obtain ⟨p5, q5, e5⟩ := h.in.xslice
  have hf := h.in.ok.2.2.1
  have c0 := h.c0; have c1 := h.c1; have c2 := h.c2; have c3 := h.c3; have c4 := h.c4; have c5 := h.c5
  rw [e4] at c4
  rw [e5] at c5
  have hfz := ford_none' hf
  obtain ⟨k, hk⟩ : ∃ k, k = v.k := ⟨_, rfl⟩
  obtain ⟨n, hn⟩ : ∃ n, n = v.n := ⟨_, rfl⟩
  obtain ⟨f, hf'⟩ : ∃ f, f = v.f := ⟨_, rfl⟩
  obtain ⟨s, hs⟩ : ∃ s, s = v.s := ⟨_, rfl⟩
  obtain ⟨L, hL⟩ : ∃ L, L = v.ns.length := ⟨_, rfl⟩
  obtain ⟨M, hM⟩ : ∃ M, M = v.xs.length := ⟨_, rfl⟩
  have hE : v.noneB = (decide (k = 0) && decide (n = 0) && decide (f = 0) && decide (s.toList = []) && decide (L = 0) && decide (M = 0)) := by rw [hk, hn, hf', hs, hL, hM]; rfl
  obtain ⟨R, hR⟩ : ∃ R, R = v.noneB := ⟨_, rfl⟩
  rw [← hR] at hE ⊢
  rw [← hk] at c0
  rw [← hn] at c1
  rw [← hf'] at c2 hfz
  rw [← hs] at c3
  rw [← hL] at c4
  rw [← hM] at c5
  have HE := Lib.hid hE
  have hs0 := (fun W : World => forder_any f 0 W (by rw [hf']; exact hf) (by omega))
  obtain ⟨r, hr⟩ : ∃ r, r = ford f 0 := ⟨_, rfl⟩
  rw [← hr] at hs0 hfz
  have HS := Lib.hid hs0
  clear hs0 hr
  clear hE hR hk hn hs hL hM e4 e5 h
  clear hf hf'
  by_cases zk : k = 0
  case neg =>
    have HR : Hid (R = false) := Lib.hid (by rw [HE.out, decide_eq_false zk]; simp)
    have jk : (k == 0) = false := by simpa using zk
    clear zk
    clear hfz
    go_enter Tryz.func143, Tryz.ntmps143
    go_wp2_with fail
    go_wp2
    go_ret
    exact ⟨by rw [HR.out]; rfl, rfl⟩
  subst zk
  by_cases zn : n = 0
  case neg =>
    have HR : Hid (R = false) := Lib.hid (by rw [HE.out, decide_eq_false zn]; simp)
    have jn : (n == 0) = false := by simpa using zn
    clear zn
    clear hfz
    go_enter Tryz.func143, Tryz.ntmps143
    go_wp2_with fail
    go_wp2
    go_ret
    exact ⟨by rw [HR.out]; rfl, rfl⟩
  subst zn
  by_cases zf : f = 0
  case neg =>
    have HR : Hid (R = false) := Lib.hid (by rw [HE.out, decide_eq_false zf]; simp)
    rw [decide_eq_false zf] at hfz
    clear zf
    go_enter Tryz.func143, Tryz.ntmps143
    go_wp2_with fail
    refine (HS.out _).mono ?_
    rintro e w1 ⟨rfl, rfl⟩
    go_wp2
    go_ret
    exact ⟨by rw [HR.out]; rfl, rfl⟩
  rw [decide_eq_true zf] at hfz
  subst zf
  by_cases zs : s.toList = []
  case neg =>
    have HR : Hid (R = false) := Lib.hid (by rw [HE.out, decide_eq_false zs]; simp)
    have js : (s.toList == []) = false := by simpa using zs
    clear zs
    go_enter Tryz.func143, Tryz.ntmps143
    go_wp2_with fail
    refine (HS.out _).mono ?_
    rintro e w1 ⟨rfl, rfl⟩
    go_wp2
    go_ret
    exact ⟨by rw [HR.out]; rfl, rfl⟩
  have js : (s.toList == []) = true := by simpa using zs
  by_cases zL : L = 0
  case neg =>
    have HR : Hid (R = false) := Lib.hid (by rw [HE.out, decide_eq_false zL]; simp)
    have jL : ((L : Int) == 0) = false := by simp; omega
    clear zL
    go_enter Tryz.func143, Tryz.ntmps143
    go_wp2_with fail
    refine (HS.out _).mono ?_
    rintro e w1 ⟨rfl, rfl⟩
    go_wp2
    go_ret
    exact ⟨by rw [HR.out]; rfl, rfl⟩
  subst zL
  by_cases zM : M = 0
  case neg =>
    have HR : Hid (R = false) := Lib.hid (by rw [HE.out, decide_eq_false zM]; simp)
    have jM : ((M : Int) == 0) = false := by simp; omega
    clear zM
    go_enter Tryz.func143, Tryz.ntmps143
    go_wp2_with fail
    refine (HS.out _).mono ?_
    rintro e w1 ⟨rfl, rfl⟩
    go_wp2
    go_ret
    exact ⟨by rw [HR.out]; rfl, rfl⟩
  subst zM
  have HR : Hid (R = true) := Lib.hid (by rw [HE.out, decide_eq_true zs]; rfl)
  clear zs
  go_enter Tryz.func143, Tryz.ntmps143
  go_wp2_with fail
  refine (HS.out _).mono ?_
  rintro e w1 ⟨rfl, rfl⟩
  go_wp2
  go_ret
  exact ⟨by rw [HR.out]; rfl, rfl⟩
end Go.Proofs.YtaamihdibpioaaaGreat
