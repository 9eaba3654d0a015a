/- The document's answers: how two values stand. -/
import Derived.Test.YtjpdbhhjlnmacaaGreatTcM3
import Derived.Test.YtjpdbhhjlnmacaaGreatTcM6
import Derived.Test.YtjpdbhhjlnmacaaGreatTcM9
import Derived.Test.YtjpdbhhjlnmacaaGreatTcM10
import Derived.Deep.DeepCutAuto
import Derived.Deep.CutBlock
import Derived.StillTailTactics
namespace Go.Proofs.YtjpdbhhjlnmacaaGreat
set_option linter.unusedVariables false
open Go.RowKit

def Val.rh1 (v u : Val) : Int := if v.k = 5 ∨ v.k = 6 then 0 else if sgnI v.n u.n ≠ 0 then sgnI v.n u.n else scmp v.s u.s
def Val.rhead (v u : Val) : Int := if v.rh1 u = 0 ∧ v.k ≠ 5 then ncmp v.ns u.ns else v.rh1 u
mutual
def Val.rord : Val → Val → Int
  | .mk k n f s na ns xa xs, u =>
    if k ≠ u.k then sgnI k u.k
    else if k = 1 ∨ k = 2 then sgnI n u.n
    else if k = 3 then ford f u.f
    else if k = 4 then scmp s u.s
    else if Val.rhead (.mk k n f s na ns xa xs) u ≠ 0 then Val.rhead (.mk k n f s na ns xa xs) u
    else Val.rordAll xs u.xs
def Val.rordAll : List Val → List Val → Int
  | [], ys => if 0 < ys.length then -1 else 0
  | x :: xs, ys => match ys with
    | [] => 1
    | y :: ys => if x.rord y ≠ 0 then x.rord y else Val.rordAll xs ys
end
end Go.Proofs.YtjpdbhhjlnmacaaGreat

/- Two values are the same just if they have one normal form. Plain laws. -/
namespace Go.Proofs.YtjpdbhhjlnmacaaGreat
set_option linter.unusedVariables false
open Go.RowKit

mutual
/-- What counts of a value. -/
def Val.nf : Val → Val
  | .mk k n f s na ns xa xs => .mk k (if k = 1 ∨ k = 2 then n else 0) (if k = 3 then (fkey f + 9223372036854775808).toNat else 0) (if k = 4 then s else ByteArray.empty) .no (if k = 6 then ns else []) .no (if k = 5 ∨ k = 6 then Val.nfAll xs else [])
def Val.nfAll : List Val → List Val
  | [] => []
  | x :: xs => x.nf :: Val.nfAll xs
end
theorem rightAll_mem : ∀ {xs : List Val} {d : Nat}, Val.rightAll xs d = true → ∀ x, x ∈ xs → x.rightB d = true
  | [], _, _, x, hx => by simp at hx
  | y :: xs, d, h, x, hx => by
    simp only [Val.rightAll, Bool.and_eq_true] at h
    rcases List.mem_cons.1 hx with rfl | hx
    · exact h.1
    · exact rightAll_mem h.2 x hx
theorem bare_xs {v : Val} {n f s : Bool} (h : bareB v n f s false = true) : v.xs = [] := by
  unfold bareB at h
  simp only [Bool.and_eq_true, Bool.false_or, decide_eq_true_eq] at h
  exact List.length_eq_zero_iff.1 h.2.2
theorem Val.kinds_of_right (d : Nat) : ∀ (v : Val) (deep : Nat), v.sz ≤ d → v.rightB deep = true → v.Kinds := by
  induction d with
  | zero => intro v deep hd; rw [Val.sz_eq] at hd; omega
  | succ d ih =>
    intro v deep hd h
    rw [Val.rightB_eq] at h
    rw [Val.kinds_iff]
    by_cases h12 : 12 < deep
    · rw [if_pos h12] at h; cases h
    rw [if_neg h12] at h
    have nil : v.xs = [] → ∀ x, x ∈ v.xs → x.Kinds := fun e x hx => by rw [e] at hx; simp at hx
    by_cases h1 : v.k = 1
    · rw [if_pos h1, Bool.and_eq_true] at h; exact ⟨by omega, nil (bare_xs h.1)⟩
    rw [if_neg h1] at h
    by_cases h2 : v.k = 2
    · rw [if_pos h2] at h; exact ⟨by omega, nil (bare_xs h)⟩
    rw [if_neg h2] at h
    by_cases h3 : v.k = 3
    · rw [if_pos h3] at h; exact ⟨by omega, nil (bare_xs h)⟩
    rw [if_neg h3] at h
    by_cases h4 : v.k = 4
    · rw [if_pos h4, Bool.and_eq_true] at h; exact ⟨by omega, nil (bare_xs h.1)⟩
    rw [if_neg h4] at h
    by_cases h5 : v.k = 5
    · rw [if_pos h5, Bool.and_eq_true] at h
      exact ⟨by omega, fun x hx => ih x (deep + 1) (by have := Val.size_mem hx; omega) (rightAll_mem h.2 x hx)⟩
    rw [if_neg h5] at h
    by_cases h6 : v.k = 6
    · rw [if_pos h6, Bool.and_eq_true] at h
      exact ⟨by omega, fun x hx => ih x (deep + 1) (by have := Val.size_mem hx; omega) (rightAll_mem h.2 x hx)⟩
    rw [if_neg h6] at h
    cases h
theorem Val.RightB.kinds {v : Val} (h : v.RightB = true) : v.Kinds := by
  unfold Val.RightB at h
  rw [Bool.and_eq_true] at h
  exact Val.kinds_of_right v.sz v 1 (Nat.le_refl _) h.2
end Go.Proofs.YtjpdbhhjlnmacaaGreat

/- May it be a type? (printed by wip/gen_tyright.py) -/
namespace Go.Proofs.YtjpdbhhjlnmacaaGreat
set_option linter.unusedVariables false
open Go.RowKit

mutual
def Ty.rightB : Ty → Nat → Bool
  | .mk k na ns xa xs, deep =>
    if 12 < deep then false
    else if k = 5 then decide (ns.length = 0) && decide (xs.length = 1) && Ty.rightAll xs (deep + 1)
    else if k = 6 then decide (ns.length = xs.length) && risingB ns && Ty.rightAll xs (deep + 1)
    else if 1 ≤ k ∧ k ≤ 7 then decide (ns.length = 0) && decide (xs.length = 0)
    else false
def Ty.rightAll : List Ty → Nat → Bool
  | [], _ => true
  | x :: xs, deep => x.rightB deep && Ty.rightAll xs deep
end
theorem Ty.rightB_eq (v : Ty) (deep : Nat) : v.rightB deep =
    if 12 < deep then false
    else if v.k = 5 then decide (v.ns.length = 0) && decide (v.xs.length = 1) && Ty.rightAll v.xs (deep + 1)
    else if v.k = 6 then decide (v.ns.length = v.xs.length) && risingB v.ns && Ty.rightAll v.xs (deep + 1)
    else if 1 ≤ v.k ∧ v.k ≤ 7 then decide (v.ns.length = 0) && decide (v.xs.length = 0)
    else false := by
  cases v
  simp only [Ty.rightB, Ty.k, Ty.ns, Ty.xs]
  rfl
theorem trightAll_mem {xs : List Ty} {deep : Nat} (h : Ty.rightAll xs deep = true) : ∀ x, x ∈ xs → x.rightB deep = true := by
  induction xs with
  | nil => intro x hx; simp at hx
  | cons y ys ih =>
    simp only [Ty.rightAll, Bool.and_eq_true] at h
    intro x hx
    rcases List.mem_cons.1 hx with rfl | hx
    · exact h.1
    · exact ih h.2 x hx
def Ty.RightB (v : Ty) : Bool := decide (v.count 0 ≤ 200) && v.rightB 1

set_option maxHeartbeats 4000000 in
set_option maxRecDepth 100000 in
theorem typed_deep (v : Ty) (b o deep : Nat) (w : World) (hd : 12 < deep) (hdl : deep ≤ 13) : Calls Tryz.prog 48 #[.pointer (some ⟨b, o, none⟩), .int .i64 deep] w fun e w' => BoolBelow (v.rightB deep) w e w' := by
  have i1 : decide ((12 : Int) < (deep : Int)) = true := by simp; omega
  have HE := Lib.hid (show v.rightB deep = false by rw [Ty.rightB_eq, if_pos hd])
  clear hd
  go_enter Tryz.func48, Tryz.ntmps48
  go_wp2
  go_ret
  exact ⟨by rw [HE.out]; rfl, Below.refl _ _⟩

set_option maxHeartbeats 8000000 in
set_option maxRecDepth 100000 in
theorem typed_leaf (v : Ty) (b o deep : Nat) (w : World) (hd : deep ≤ 12) (hp : PTy w b o v) (hk : v.k = 1 ∨ v.k = 2 ∨ v.k = 3 ∨ v.k = 4 ∨ v.k = 7) :
    Calls Tryz.prog 48 #[.pointer (some ⟨b, o, none⟩), .int .i64 deep] w fun e w' => BoolBelow (v.rightB deep) w e w' := by
  have i1 : decide ((12 : Int) < (deep : Int)) = false := by simp; omega
  have hdw : IntKind.i64.wrap ((deep : Int) + 1) = (deep : Int) + 1 := IntWalk.i64_in _ (by omega)
  have e := Ty.rightB_eq v deep
  rw [if_neg (by omega)] at e
  have c0 := hp.c0; have c4 := hp.c1; have c5 := hp.c2
  obtain ⟨p4, q4, e4⟩ := hp.in.nslice
  obtain ⟨p5, q5, e5⟩ := hp.in.xslice
  have hnl := hp.in.ok.2.1
  have hxl := hp.in.ok.2.2.1
  rw [e4] at c4
  rw [e5] at c5
  obtain ⟨L, hL⟩ : ∃ L, L = v.ns.length := ⟨_, rfl⟩
  obtain ⟨M, hM⟩ : ∃ M, M = v.xs.length := ⟨_, rfl⟩
  rw [← hL] at c4 hnl e
  rw [← hM] at c5 hxl e
  obtain ⟨K, hK⟩ : ∃ K, K = v.k := ⟨_, rfl⟩
  rw [← hK] at c0 e hk
  rw [if_neg (by omega), if_neg (by omega), if_pos (by omega)] at e
  have HE := Lib.hid e
  clear e hp e4 e5 hL hM hK
  by_cases h0 : L = 0
  · subst h0
    by_cases h1 : M = 0
    · subst h1
      have HE2 : Hid (v.rightB deep = true) := Lib.hid (by rw [HE.out]; rfl)
      clear HE
      rcases hk with rfl | rfl | rfl | rfl | rfl
      all_goals
        go_enter Tryz.func48, Tryz.ntmps48
        go_wp2
        go_ret
        exact ⟨by rw [HE2.out]; rfl, Below.refl _ _⟩
    · have HE2 : Hid (v.rightB deep = false) := Lib.hid (by rw [HE.out]; simp [h1])
      have j1 : ((M : Int) == 0) = false := by simp; omega
      have j2 : (M == 0) = false := by simp; omega
      clear HE
      rcases hk with rfl | rfl | rfl | rfl | rfl
      all_goals
        go_enter Tryz.func48, Tryz.ntmps48
        go_wp2
        go_ret
        exact ⟨by rw [HE2.out]; rfl, Below.refl _ _⟩
  · have HE2 : Hid (v.rightB deep = false) := Lib.hid (by rw [HE.out]; simp [h0])
    have j1 : ((L : Int) == 0) = false := by simp; omega
    have j2 : (L == 0) = false := by simp; omega
    clear HE
    rcases hk with rfl | rfl | rfl | rfl | rfl
    all_goals
      go_enter Tryz.func48, Tryz.ntmps48
      go_wp2
      go_ret
      exact ⟨by rw [HE2.out]; rfl, Below.refl _ _⟩

set_option maxHeartbeats 8000000 in
set_option maxRecDepth 100000 in
theorem typed_other (v : Ty) (b o deep : Nat) (w : World) (hd : deep ≤ 12) (hp : PTy w b o v) (hk : v.k < 1 ∨ 7 < v.k) :
    Calls Tryz.prog 48 #[.pointer (some ⟨b, o, none⟩), .int .i64 deep] w fun e w' => BoolBelow (v.rightB deep) w e w' := by
  have i1 : decide ((12 : Int) < (deep : Int)) = false := by simp; omega
  have hdw : IntKind.i64.wrap ((deep : Int) + 1) = (deep : Int) + 1 := IntWalk.i64_in _ (by omega)
  have e := Ty.rightB_eq v deep
  rw [if_neg (by omega)] at e
  have c0 := hp.c0; have c4 := hp.c1; have c5 := hp.c2
  obtain ⟨p4, q4, e4⟩ := hp.in.nslice
  obtain ⟨p5, q5, e5⟩ := hp.in.xslice
  have hnl := hp.in.ok.2.1
  have hxl := hp.in.ok.2.2.1
  rw [e4] at c4
  rw [e5] at c5
  obtain ⟨K, hK⟩ : ∃ K, K = v.k := ⟨_, rfl⟩
  rw [← hK] at c0 e hk
  rw [if_neg (by omega), if_neg (by omega), if_neg (by omega)] at e
  have HE := Lib.hid e
  have k1 : (K == 1) = false := by simp; omega
  have k2 : (K == 2) = false := by simp; omega
  have k3 : (K == 3) = false := by simp; omega
  have k4 : (K == 4) = false := by simp; omega
  have k5 : (K == 5) = false := by simp; omega
  have k6 : (K == 6) = false := by simp; omega
  have k7 : (K == 7) = false := by simp; omega
  clear e hp e4 e5 hK hk
  go_enter Tryz.func48, Tryz.ntmps48
  go_wp2
  go_ret
  exact ⟨by rw [HE.out]; rfl, Below.refl _ _⟩

set_option maxHeartbeats 8000000 in
set_option maxRecDepth 100000 in
theorem typed_list (v : Ty) (b o deep : Nat) (w : World) (hd : deep ≤ 12) (hp : PTy w b o v) (hk : v.k = 5)
    (ih : ∀ x, x ∈ v.xs → ∀ (b o : Nat) (w : World), PTy w b o x → Calls Tryz.prog 48 #[.pointer (some ⟨b, o, none⟩), .int .i64 ((deep : Int) + 1)] w fun e w' => BoolBelow (x.rightB (deep + 1)) w e w') :
    Calls Tryz.prog 48 #[.pointer (some ⟨b, o, none⟩), .int .i64 deep] w fun e w' => BoolBelow (v.rightB deep) w e w' := by
  have i1 : decide ((12 : Int) < (deep : Int)) = false := by simp; omega
  have hdw : IntKind.i64.wrap ((deep : Int) + 1) = (deep : Int) + 1 := IntWalk.i64_in _ (by omega)
  have e := Ty.rightB_eq v deep
  rw [if_neg (by omega)] at e
  have c0 := hp.c0; have c4 := hp.c1; have c5 := hp.c2
  obtain ⟨p4, q4, e4⟩ := hp.in.nslice
  obtain ⟨p5, q5, e5⟩ := hp.in.xslice
  have hnl := hp.in.ok.2.1
  have hxl := hp.in.ok.2.2.1
  rw [e4] at c4
  rw [e5] at c5
  rw [hk] at c0
  rw [if_pos hk] at e
  have HIT := Lib.hid hp.in.items
  have HIH := Lib.hid ih
  have HP := Lib.hid hp
  obtain ⟨L, hL⟩ : ∃ L, L = v.ns.length := ⟨_, rfl⟩
  rw [← hL] at c4 hnl e
  clear hk ih hL e4
  by_cases h0 : L = 0
  · subst h0
    by_cases h1 : v.xs.length = 1
    · rw [h1] at c5 e
      obtain ⟨x, hx1⟩ : ∃ x, v.xs = [x] := by
        cases h2 : v.xs with
        | nil => rw [h2] at h1; simp at h1
        | cons x t =>
          cases t with
          | nil => exact ⟨x, rfl⟩
          | cons y t => rw [h2] at h1; simp at h1
      rcases HIT.out with ⟨xp, x1, x2⟩ | ⟨xb, xo, cap, x1, x2, x3, x4⟩
      · rw [x2] at h1; simp at h1
      have hx : PTy w xb xo x := by
        have := x4 0 (by omega)
        simpa [hx1] using this
      rw [e5, h1] at x1
      rw [h1] at x2
      injection x1 with x1a _ x1c
      subst x1a x1c
      have HC := Lib.hid (HIH.out x (by rw [hx1]; simp) xb xo w hx)
      have HE2 : Hid (v.rightB deep = x.rightB (deep + 1)) := Lib.hid (by rw [e, hx1]; simp [Ty.rightAll])
      clear e e5 x4 hx hx1 HIT HIH h1 hp HP x3
      go_enter Tryz.func48, Tryz.ntmps48
      go_wp2_with fail
      refine HC.out.mono ?_
      rintro e w' ⟨rfl, hb⟩
      have HB := Lib.hid hb
      clear hb HC
      go_wp2
      go_ret
      exact ⟨by rw [HE2.out]; rfl, HB.out⟩
    · obtain ⟨M, hM⟩ : ∃ M, M = v.xs.length := ⟨_, rfl⟩
      rw [← hM] at c5 hxl e h1
      have HE2 : Hid (v.rightB deep = false) := Lib.hid (by rw [e]; simp [h1])
      have j1 : ((M : Int) == 1) = false := by simp; omega
      have j2 : (M == 1) = false := by simp; omega
      clear e e5 HIT HIH h1 hp HP hM
      go_enter Tryz.func48, Tryz.ntmps48
      go_wp2
      go_ret
      exact ⟨by rw [HE2.out]; rfl, Below.refl _ _⟩
  · have HE2 : Hid (v.rightB deep = false) := Lib.hid (by rw [e]; simp [h0])
    have j1 : ((L : Int) == 0) = false := by simp; omega
    have j2 : (L == 0) = false := by simp; omega
    clear e e5 HIT HIH hp HP h0
    go_enter Tryz.func48, Tryz.ntmps48
    go_wp2
    go_ret
    exact ⟨by rw [HE2.out]; rfl, Below.refl _ _⟩

set_option maxHeartbeats 8000000 in
set_option maxRecDepth 100000 in
theorem typed_rec (v : Ty) (b o deep : Nat) (w : World) (hd : deep ≤ 12) (hp : PTy w b o v) (hk : v.k = 6)
    (ih : ∀ x, x ∈ v.xs → ∀ (b o : Nat) (w : World), PTy w b o x → Calls Tryz.prog 48 #[.pointer (some ⟨b, o, none⟩), .int .i64 ((deep : Int) + 1)] w fun e w' => BoolBelow (x.rightB (deep + 1)) w e w') :
    Calls Tryz.prog 48 #[.pointer (some ⟨b, o, none⟩), .int .i64 deep] w fun e w' => BoolBelow (v.rightB deep) w e w' := by
  have i1 : decide ((12 : Int) < (deep : Int)) = false := by simp; omega
  have hdw : IntKind.i64.wrap ((deep : Int) + 1) = (deep : Int) + 1 := IntWalk.i64_in _ (by omega)
  have e := Ty.rightB_eq v deep
  rw [if_neg (by omega)] at e
  have c0 := hp.c0; have c4 := hp.c1; have c5 := hp.c2
  obtain ⟨p4, q4, e4⟩ := hp.in.nslice
  obtain ⟨p5, q5, e5⟩ := hp.in.xslice
  have hnl := hp.in.ok.2.1
  have hxl := hp.in.ok.2.2.1
  rw [e4] at c4
  rw [e5] at c5
  rw [hk] at c0
  rw [if_neg (by omega), if_pos hk] at e
  have HIT := Lib.hid hp.in.items
  have HIH := Lib.hid ih
  have HP := Lib.hid hp
  have HNA := Lib.hid (TNamesAt.of hp.in)
  have HNS := Lib.hid hp.in.ok.2.2.2
  obtain ⟨L, hL⟩ : ∃ L, L = v.ns.length := ⟨_, rfl⟩
  obtain ⟨M', hM'⟩ : ∃ M', M' = v.xs.length := ⟨_, rfl⟩
  rw [← hL] at c4 hnl
  rw [← hM'] at c5 hxl
  rw [← hL, ← hM'] at e
  have HL := Lib.hid hL; have E4 := Lib.hid e4; have HE := Lib.hid e
  clear hk ih hL hM' e4 e5 hp e
  by_cases hlm : L = M'
  · subst hlm
    have HRI := Lib.hid (rising_any (v.na.val v.ns.length) v.ns w.drew HNA.out.drew (by rw [← HL.out]; omega) HNS.out)
    rw [E4.out, ← HL.out] at HRI
    cases hr : risingB v.ns with
    | false =>
      rw [hr] at HRI
      have HE2 : Hid (v.rightB deep = false) := Lib.hid (by rw [HE.out, hr]; simp)
      clear hr HE HIT HIH
      go_enter Tryz.func48, Tryz.ntmps48
      go_wp2
      go_region_held3 (fun W => W.cell? ⟨b, o + 1, none⟩ = some (.slice p4 L q4) ∧ W.cell? ⟨b, o + 2, none⟩ = some (.slice p5 L q5)) (first | exact ⟨c4, c5⟩ | exact ⟨d4, d5⟩)
        (first
          | (go_at_call 67; refine HRI.out.mono ?_; rintro e w1 ⟨rfl, hb1⟩; have d4 := (hb1.cell (p := ⟨b, o + 1, none⟩) HP.out.2.1).trans c4; have d5 := (hb1.cell (p := ⟨b, o + 2, none⟩) HP.out.2.1).trans c5))
      have HBE := Lib.hid (((Below.refl w.heap.size w).drew).trans hb1)
      clear hb1
      go_wp2
      go_ret
      exact ⟨by rw [HE2.out]; rfl, HBE.out⟩
    | true =>
      rw [hr] at HRI
      have HE3 : Hid (v.rightB deep = Ty.rightAll v.xs (deep + 1)) := Lib.hid (by rw [HE.out, hr]; simp)
      clear hr HE
      go_enter Tryz.func48, Tryz.ntmps48
      go_wp2
      go_region_held3 (fun W => W.cell? ⟨b, o + 1, none⟩ = some (.slice p4 L q4) ∧ W.cell? ⟨b, o + 2, none⟩ = some (.slice p5 L q5)) (first | exact ⟨c4, c5⟩ | exact ⟨d4, d5⟩)
        (first
          | (go_at_call 67; refine HRI.out.mono ?_; rintro e w1 ⟨rfl, hb1⟩; have d4 := (hb1.cell (p := ⟨b, o + 1, none⟩) HP.out.2.1).trans c4; have d5 := (hb1.cell (p := ⟨b, o + 2, none⟩) HP.out.2.1).trans c5))
      have hbe := ((Below.refl w.heap.size w).drew).trans hb1
      have HP2 := Lib.hid (HP.out.below hbe)
      have HIT := Lib.hid HP2.out.in.items
      have HBE := Lib.hid hbe
      clear hb1 hbe d4 d5 c0 c4 c5
      have HBW := HBE
      clear HRI
      obtain ⟨WW, hWW⟩ : ∃ WW, WW = w1 := ⟨_, rfl⟩
      rw [← hWW] at HP2 HIT HBW
      rw [← hWW]
      clear hWW
      rcases HIT.out with ⟨x1p, x1, x2⟩ | ⟨xb, xo, cap, x1, x2, x3, x4⟩
      · have HE4 : Hid (v.rightB deep = true) := Lib.hid (by rw [HE3.out, x2]; simp [Ty.rightAll])
        have d5 : WW.cell? ⟨b, o + 2, none⟩ = some (.slice x1p 0 0) := by rw [HP2.out.c2, x1]
        clear x1 x2 HE3 HIH
        go_wp2_with fail
        go_loopw [84] (fun iv wr => iv = .int .i64 0 ∧ wr = WW) (fun _ _ => 0)
        case atStart => exact ⟨rfl, rfl⟩
        case round =>
          obtain ⟨rfl, rfl⟩ := hrel
          go_wp2
          go_ret
          exact ⟨by rw [HE4.out]; rfl, HBW.out⟩
      · have d5 : WW.cell? ⟨b, o + 2, none⟩ = some (.slice (some ⟨xb, xo, none⟩) v.xs.length cap) := by rw [HP2.out.c2, x1]
        obtain ⟨M, hM⟩ : ∃ M, M = v.xs.length := ⟨_, rfl⟩
        have hml := HP2.out.in.ok.2.2.1
        rw [← hM] at d5 x2 hml
        have HM := Lib.hid hM
        have HX4 := Lib.hid x4
        have hbW := HP2.out.2.1
        clear x1 hM x4
        go_wp2_with fail
        go_loopw [84] (fun iv wr => ∃ i : Nat, iv = .int .i64 (i : Int) ∧ i ≤ M ∧ Hid (Ty.rightAll (v.xs.drop i) (deep + 1) = v.rightB deep) ∧ Hid (Below WW.heap.size WW wr)) (fun iv _ => M - (intOf iv).toNat)
        case atStart => exact ⟨0, rfl, by omega, Lib.hid (by rw [HE3.out]; rfl), Lib.hid (Below.refl _ _)⟩
        case round =>
          obtain ⟨i, rfl, hi, HR, HB⟩ := hrel
          have e5 : wr.cell? ⟨b, o + 2, none⟩ = some (.slice (some ⟨xb, xo, none⟩) M cap) := (HB.out.cell (p := ⟨b, o + 2, none⟩) hbW).trans d5
          by_cases hlt : i < M
          · have hil : i < v.xs.length := by rw [← HM.out]; exact hlt
            have hx := HX4.out i hil
            have hc := HIH.out (v.xs[i]'hil) (by simp) xb (xo + i * 3) wr (hx.below HB.out)
            have hdr := drop_cons hil
            cases hr : (v.xs[i]'hil).rightB (deep + 1) with
            | false =>
              rw [hr] at hc
              have HC := Lib.hid hc
              have HE4 : Hid (v.rightB deep = false) := Lib.hid (by rw [← HR.out, hdr]; simp [Ty.rightAll, hr])
              clear hx hc hdr hr hil HR
              go_wp2_with fail
              refine HC.out.mono ?_
              rintro e w3 ⟨rfl, hb3⟩
              have HB3 := Lib.hid (HBW.out.trans ((HB.out.trans (hb3.mono HB.out.size)).mono HBW.out.size))
              clear hb3
              go_wp2
              go_ret
              exact ⟨by rw [HE4.out]; rfl, HB3.out⟩
            | true =>
              rw [hr] at hc
              have HC := Lib.hid hc
              have HR2 : Hid (Ty.rightAll (v.xs.drop (i + 1)) (deep + 1) = v.rightB deep) := Lib.hid (by rw [← HR.out, hdr]; simp [Ty.rightAll, hr])
              clear hx hc hdr hr hil HR
              go_wp2_with fail
              refine HC.out.mono ?_
              rintro e w3 ⟨rfl, hb3⟩
              have HB3 := Lib.hid (HB.out.trans (hb3.mono HB.out.size))
              clear hb3
              go_wp2
              go_roundw
              case rel => exact ⟨i + 1, by go_num, by omega, HR2, HB3⟩
              case measure => simp [intOf]; omega
          · have HE4 : Hid (v.rightB deep = true) := Lib.hid (by rw [← HR.out, List.drop_eq_nil_of_le (by rw [← HM.out]; omega)]; simp [Ty.rightAll])
            have HB3 := Lib.hid (HBW.out.trans (HB.out.mono HBW.out.size))
            go_wp2
            go_ret
            exact ⟨by rw [HE4.out]; rfl, HB3.out⟩
  · have j1 : ((L : Int) != (M' : Int)) = true := by simp; omega
    have HE2 : Hid (v.rightB deep = false) := Lib.hid (by rw [HE.out]; simp [hlm])
    clear hlm HE HL
    go_enter Tryz.func48, Tryz.ntmps48
    go_wp2
    go_quiet (fail)
    go_wp2
    go_ret
    exact ⟨by rw [HE2.out]; rfl, below_drewN (Below.refl _ _) _⟩

theorem typed_any (d : Nat) : ∀ (v : Ty) (b o deep : Nat) (w : World), v.sz ≤ d → deep ≤ 13 → PTy w b o v → Calls Tryz.prog 48 #[.pointer (some ⟨b, o, none⟩), .int .i64 deep] w fun e w' => BoolBelow (v.rightB deep) w e w' := by
  induction d with
  | zero => intro v b o deep w hd; rw [Ty.sz_eq] at hd; omega
  | succ d ih =>
    intro v b o deep w hd hdp hp
    by_cases h12 : 12 < deep
    · exact typed_deep v b o deep w h12 hdp
    have hih : ∀ x, x ∈ v.xs → ∀ (b o : Nat) (w : World), PTy w b o x → Calls Tryz.prog 48 #[.pointer (some ⟨b, o, none⟩), .int .i64 ((deep : Int) + 1)] w fun e w' => BoolBelow (x.rightB (deep + 1)) w e w' :=
      fun x hx b o w h => ih x b o (deep + 1) w (by have := Ty.size_mem hx; omega) (by omega) h
    by_cases h5 : v.k = 5
    · exact typed_list v b o deep w (by omega) hp h5 hih
    by_cases h6 : v.k = 6
    · exact typed_rec v b o deep w (by omega) hp h6 hih
    by_cases h7 : v.k < 1 ∨ 7 < v.k
    · exact typed_other v b o deep w (by omega) hp h7
    · exact typed_leaf v b o deep w (by omega) hp (by omega)
end Go.Proofs.YtjpdbhhjlnmacaaGreat
