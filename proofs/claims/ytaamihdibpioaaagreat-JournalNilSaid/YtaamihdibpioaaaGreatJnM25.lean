/- The document's answers: how two numbers, two strings, two rows of names stand. -/
import Derived.Test.YtaamihdibpioaaaGreatJnM1
import Derived.Test.YtaamihdibpioaaaGreatJnM11
import Derived.Test.YtaamihdibpioaaaGreatJnM24
import Derived.Deep.QuietTactic
import Derived.BigQuiet
namespace Go.Proofs.YtaamihdibpioaaaGreat
set_option linter.unusedVariables false
open Go.RowKit

theorem sgnI_refl (a : Int) : sgnI a a = 0 := by unfold sgnI; rw [if_neg (by omega), if_neg (by omega)]
theorem sign_any (a b : Int) (w : World) : Calls Tryz.prog 72 #[.int .i64 a, .int .i64 b] w fun e w' => e = .returned (.int .i64 (sgnI a b)) ∧ w = w' := by
  unfold sgnI
  by_cases h1 : a < b
  · rw [if_pos h1]
    have t1 : decide (a < b) = true := by simpa using h1
    clear h1
    go_enter Tryz.func72, Tryz.ntmps72
    go_wp2
    go_ret
    exact ⟨rfl, rfl⟩
  · rw [if_neg h1]
    have t1 : decide (a < b) = false := by simpa using h1
    by_cases h2 : b < a
    · rw [if_pos h2]
      have t2 : decide (b < a) = true := by simpa using h2
      clear h1 h2
      go_enter Tryz.func72, Tryz.ntmps72
      go_wp2
      go_ret
      exact ⟨rfl, rfl⟩
    · rw [if_neg h2]
      have t2 : decide (b < a) = false := by simpa using h2
      clear h1 h2
      go_enter Tryz.func72, Tryz.ntmps72
      go_wp2
      go_ret
      exact ⟨rfl, rfl⟩
theorem text_any (a b : ByteArray) (w : World) : Calls Tryz.prog 74 #[.string a, .string b] w fun e w' => e = .returned (.int .i64 (scmp a b)) ∧ w = w' := by
  cases h1 : Op.bytesLess a.toList b.toList with
  | true =>
    have e : scmp a b = -1 := by unfold scmp; rw [if_pos h1]
    rw [e]
    clear e
    go_enter Tryz.func74, Tryz.ntmps74
    go_wp2
    go_ret
    exact ⟨rfl, rfl⟩
  | false =>
    cases h2 : (a.toList == b.toList) with
    | false =>
      have e : scmp a b = 1 := by unfold scmp; rw [if_neg (by rw [h1]; simp), if_neg (by rw [h2]; simp)]
      rw [e]
      clear e
      go_enter Tryz.func74, Tryz.ntmps74
      go_wp2
      go_ret
      exact ⟨rfl, rfl⟩
    | true =>
      have e : scmp a b = 0 := by unfold scmp; rw [if_neg (by rw [h1]; simp), if_pos h2]
      rw [e]
      clear e
      go_enter Tryz.func74, Tryz.ntmps74
      go_wp2
      go_ret
      exact ⟨rfl, rfl⟩

/-- How names lie, told for the walk: whatever slice it is. -/
def NamesIn (w : World) (p : Option Addr) (c : Nat) (ns : List ByteArray) : Prop := ∀ i, i < ns.length → ∃ b o, p = some ⟨b, o, none⟩ ∧ b < w.heap.size ∧ w.cell? ⟨b, o + i, none⟩ = some (.string (ns.getD i ByteArray.empty)) ∧ ns.length ≤ c
theorem names_in {w : World} {a : Value} {ns : List ByteArray} (h : NamesAt w a ns) : ∃ p c, a = .slice p ns.length c ∧ NamesIn w p c ns := by
  rcases h with ⟨p, rfl, rfl⟩ | ⟨b, o, cap, rfl, h2, h3, h5, h4⟩
  · exact ⟨p, 0, rfl, fun i hi => absurd hi (by simp)⟩
  · exact ⟨_, _, rfl, fun i hi => ⟨b, o, rfl, by omega, h4 i hi, h2⟩⟩
theorem ncmp_end {ns ms : List ByteArray} {i : Nat} (h : i ≤ ns.length) (h' : i ≤ ms.length) (hx : i = ns.length ∨ i = ms.length) : ncmp (ns.drop i) (ms.drop i) = sgnI (ns.length : Int) (ms.length : Int) := by
  unfold sgnI
  rcases hx with hx | hx
  · rw [List.drop_eq_nil_of_le (Nat.le_of_eq hx.symm), ncmp_nil, List.length_drop]
    by_cases hm : ns.length < ms.length
    · rw [if_pos (by omega), if_pos (by omega)]
    · rw [if_neg (by omega), if_neg (by omega), if_neg (by omega)]
  · rw [show ms.drop i = [] from List.drop_eq_nil_of_le (Nat.le_of_eq hx.symm)]
    by_cases hm : ms.length < ns.length
    · rw [ncmp_one (by rw [List.length_drop]; omega), if_neg (by omega), if_pos (by omega)]
    · rw [List.drop_eq_nil_of_le (by omega), if_neg (by omega), if_neg (by omega)]
      rfl
def IntDrew (n : Int) (w : World) (e : Ending) (w' : World) : Prop := e = .returned (.int .i64 n) ∧ ∃ k, w' = w.drewN k

set_option maxHeartbeats 2000000 in
set_option maxRecDepth 100000 in
theorem rows_any (a b : Value) (ns ms : List ByteArray) (w : World) (ha : NamesAt w a ns) (hb : NamesAt w b ms) (hn : ns.length ≤ 8796093021952) (hm : ms.length ≤ 8796093021952) :
    Calls Tryz.prog 75 #[a, b] w fun e w' => IntDrew (ncmp ns ms) w e w' := by
  obtain ⟨p, c, rfl, hp⟩ := names_in ha
  obtain ⟨q, c2, rfl, hq⟩ := names_in hb
  obtain ⟨L, hL⟩ : ∃ L, L = ns.length := ⟨_, rfl⟩
  obtain ⟨M, hM⟩ : ∃ M, M = ms.length := ⟨_, rfl⟩
  rw [← hL] at hn
  rw [← hM] at hm
  rw [← hL, ← hM]
  have HL := Lib.hid hL; have HM := Lib.hid hM; have HP := Lib.hid hp; have HQ := Lib.hid hq
  obtain ⟨N, hN⟩ : ∃ N, N = ncmp ns ms := ⟨_, rfl⟩
  rw [← hN]
  have HN := Lib.hid hN
  clear hL hM hp hq ha hb hN
  go_enter Tryz.func75, Tryz.ntmps75
  go_wp2_with fail
  go_loopw [5] (fun iv wr => ∃ i k : Nat, iv = .int .i64 (i : Int) ∧ i ≤ L ∧ i ≤ M ∧ Hid (ncmp (ns.drop i) (ms.drop i) = N) ∧ Hid (wr = w.drewN k)) (fun iv _ => L - (intOf iv).toNat)
  case atStart => exact ⟨0, 0, rfl, by omega, by omega, Lib.hid HN.out.symm, Lib.hid rfl⟩
  case round =>
    obtain ⟨i, k, rfl, hi, hi2, HR, HK⟩ := hrel
    by_cases hlt : i < L ∧ i < M
    · obtain ⟨hlt1, hlt2⟩ := hlt
      have hil1 : i < ns.length := by rw [← HL.out]; exact hlt1
      have hil2 : i < ms.length := by rw [← HM.out]; exact hlt2
      obtain ⟨pb, po, rfl, hpb, hpc, hc⟩ := HP.out i hil1
      obtain ⟨qb, qo, rfl, hqb, hqc, hc2⟩ := HQ.out i hil2
      obtain ⟨s, hs⟩ : ∃ s, s = ns.getD i ByteArray.empty := ⟨_, rfl⟩
      obtain ⟨t, ht⟩ : ∃ t, t = ms.getD i ByteArray.empty := ⟨_, rfl⟩
      rw [← hs] at hpc
      rw [← ht] at hqc
      rw [← HL.out] at hc
      rw [← HM.out] at hc2
      have e1 : wr.cell? ⟨pb, po + i, none⟩ = some (.string s) := by rw [HK.out]; exact hpc
      have e2 : wr.cell? ⟨qb, qo + i, none⟩ = some (.string t) := by rw [HK.out]; exact hqc
      have hst : N = if scmp s t ≠ 0 then scmp s t else ncmp (ns.drop (i + 1)) (ms.drop (i + 1)) := by
        rw [← HR.out, drop_cons hil1, drop_cons hil2]
        simp only [ncmp]
        rw [hs, ht]
        simp only [List.getD_eq_getElem?_getD, List.getElem?_eq_getElem hil1, List.getElem?_eq_getElem hil2, Option.getD_some]
      have HST := Lib.hid hst
      have HTX := Lib.hid (fun W : World => text_any s t W)
      obtain ⟨c3, hc3⟩ : ∃ c3, c3 = scmp s t := ⟨_, rfl⟩
      rw [← hc3] at HTX HST
      have hk0 : (0 : Int) ≤ (i : Int) := by omega
      have hk1 : (i : Int) < (L : Int) := by omega
      have hk2 : (i : Int) < (M : Int) := by omega
      clear hpc hqc hs ht hst hc3 hil1 hil2 HR
      by_cases h0 : c3 = 0
      · subst h0
        have HR2 : Hid (ncmp (ns.drop (i + 1)) (ms.drop (i + 1)) = N) := Lib.hid (by rw [HST.out, if_neg (by simp)])
        go_wp2_with fail
        go_quiet ((go_at_call 74; exact quiet_left (HTX.out _)))
        go_wp2
        exact ⟨⟨i + 1, k + nq, by go_num, by omega, by omega, HR2, Lib.hid (by rw [HK.out, World.drewN_drewN])⟩, by simp [intOf]; omega⟩
      · have HR2 : Hid (N = c3) := Lib.hid (by rw [HST.out, if_pos h0])
        have i3 : (c3 == 0) = false := by simpa using h0
        have i4 : (c3 != 0) = true := by simpa using h0
        clear h0 HST
        go_wp2_with fail
        go_quiet ((go_at_call 74; exact quiet_left (HTX.out _)))
        go_wp2
        go_ret
        exact ⟨by rw [HR2.out]; rfl, k + nq, by rw [HK.out, World.drewN_drewN]⟩
    · have hse := sign_any (L : Int) (M : Int) wr
      have HE : Hid (sgnI (L : Int) (M : Int) = N) := Lib.hid (by
        rw [← HR.out, ncmp_end (by rw [← HL.out]; exact hi) (by rw [← HM.out]; exact hi2) (by rw [← HL.out, ← HM.out]; omega), ← HL.out, ← HM.out])
      rw [HE.out] at hse
      have HS := Lib.hid hse
      clear hse HR
      by_cases h1 : i < L
      · have h2 : ¬ i < M := by omega
        have t1 : decide ((i : Int) < (M : Int)) = false := by simp; omega
        have t1' : decide (i < M) = false := by simp; omega
        clear hlt
        go_wp2_with fail
        refine HS.out.mono ?_
        rintro e w' ⟨rfl, rfl⟩
        go_wp2
        go_ret
        exact ⟨rfl, k, HK.out⟩
      · have t1 : decide ((i : Int) < (L : Int)) = false := by simp; omega
        have t1' : decide (i < L) = false := by simp; omega
        clear hlt
        go_wp2_with fail
        refine HS.out.mono ?_
        rintro e w' ⟨rfl, rfl⟩
        go_wp2
        go_ret
        exact ⟨rfl, k, HK.out⟩
end Go.Proofs.YtaamihdibpioaaaGreat

/- How two values stand to one another, items and all. -/
namespace Go.Proofs.YtaamihdibpioaaaGreat
set_option linter.unusedVariables false
open Go.RowKit

mutual
def Val.ord : Val → Val → Int
  | .mk k n f s na ns xa xs, u =>
    if sgnI k u.k ≠ 0 then sgnI k u.k
    else if Val.row (.mk k n f s na ns xa xs) u ≠ 0 ∨ leafB k = true then Val.row (.mk k n f s na ns xa xs) u
    else Val.ordAll xs u.xs
def Val.ordAll : List Val → List Val → Int
  | [], ys => if 0 < ys.length then -1 else 0
  | x :: xs, ys => match ys with
    | [] => 1
    | y :: ys => if x.ord y ≠ 0 then x.ord y else Val.ordAll xs ys
end
mutual
/-- All kinds are kinds of values. -/
def Val.Kinds : Val → Prop
  | .mk k _ _ _ _ _ _ xs => (1 ≤ k ∧ k ≤ 6) ∧ Val.KindsAll xs
def Val.KindsAll : List Val → Prop
  | [] => True
  | x :: xs => x.Kinds ∧ Val.KindsAll xs
end
theorem Val.kindsAll_iff : ∀ xs : List Val, Val.KindsAll xs ↔ ∀ x, x ∈ xs → x.Kinds
  | [] => by simp [Val.KindsAll]
  | x :: xs => by simp [Val.KindsAll, Val.kindsAll_iff xs]
theorem Val.kinds_iff (v : Val) : v.Kinds ↔ (1 ≤ v.k ∧ v.k ≤ 6) ∧ ∀ x, x ∈ v.xs → x.Kinds := by
  cases v
  simp only [Val.Kinds, Val.kindsAll_iff, Val.k, Val.xs]

/-- How the items of two values lie, told for the walk: whatever slice it is. -/
theorem items_at {w : World} {v : Val} (h : v.In w) : ∃ p c, v.xa.val v.xs.length = .slice p v.xs.length c ∧ ∀ i (hi : i < v.xs.length), ∃ b o, p = some ⟨b, o, none⟩ ∧ PVal w b (o + i * 6) (v.xs[i]'hi) ∧ v.xs.length ≤ c := by
  rcases h.items with ⟨pz, h1, h2⟩ | ⟨b, o, cap, h1, h2, h3, h4⟩
  · exact ⟨pz, 0, by rw [h1, h2]; rfl, fun i hi => by rw [h2] at hi; simp at hi⟩
  · exact ⟨_, cap, h1, fun i hi => ⟨b, o, rfl, h4 i hi, h2⟩⟩

end Go.Proofs.YtaamihdibpioaaaGreat

/- value.Order and value.Same of any two values, the first one's kinds being values' kinds. -/
namespace Go.Proofs.YtaamihdibpioaaaGreat
set_option linter.unusedVariables false
open Go.RowKit

/-- Are two values the same? -/
def Val.same (v u : Val) : Bool := decide (v.ord u = 0)
end Go.Proofs.YtaamihdibpioaaaGreat

/- The document's answers on values: how many parts, how deep, how small. -/
namespace Go.Proofs.YtaamihdibpioaaaGreat
set_option linter.unusedVariables false
open Go.RowKit

mutual
/-- How deep, looked at so far. -/
def Val.depth : Val → Nat → Nat
  | .mk _ _ _ _ _ _ _ xs, far => Val.depthAll xs far + 1
def Val.depthAll : List Val → Nat → Nat
  | [], _ => 0
  | x :: xs, far => if far = 0 then 0 else max (x.depth (far - 1)) (Val.depthAll xs far)
end
theorem Val.depth_eq (v : Val) (far : Nat) : v.depth far = Val.depthAll v.xs far + 1 := by cases v; simp [Val.depth, Val.xs]
theorem Val.depthAll_0 (xs : List Val) : Val.depthAll xs 0 = 0 := by cases xs <;> simp [Val.depthAll]
theorem Val.depth_le : ∀ (far : Nat) (v : Val), v.depth far ≤ far + 1
  | 0, v => by rw [Val.depth_eq, Val.depthAll_0]; exact Nat.le_refl _
  | far + 1, v => by
    rw [Val.depth_eq]
    have : ∀ xs : List Val, Val.depthAll xs (far + 1) ≤ far + 1 := fun xs => by
      induction xs with
      | nil => simp [Val.depthAll]
      | cons x xs ih =>
        simp only [Val.depthAll, Nat.add_sub_cancel]
        rw [if_neg (by omega)]
        have := Val.depth_le far x
        omega
    have := this v.xs
    omega

def Val.smallB (v : Val) : Bool := decide (v.depth 40 ≤ 30) && decide (v.count 0 < 500)
end Go.Proofs.YtaamihdibpioaaaGreat

/- The document's answers on types: how many parts, how deep, how small (printed by wip/gen_ty2.py from XRefSmall). -/
namespace Go.Proofs.YtaamihdibpioaaaGreat
set_option linter.unusedVariables false
open Go.RowKit

mutual
/-- How deep, looked at so far. -/
def Ty.depth : Ty → Nat → Nat
  | .mk _ _ _ _ xs, far => Ty.depthAll xs far + 1
def Ty.depthAll : List Ty → Nat → Nat
  | [], _ => 0
  | x :: xs, far => if far = 0 then 0 else max (x.depth (far - 1)) (Ty.depthAll xs far)
end
theorem Ty.depth_eq (v : Ty) (far : Nat) : v.depth far = Ty.depthAll v.xs far + 1 := by cases v; simp [Ty.depth, Ty.xs]
theorem Ty.depthAll_0 (xs : List Ty) : Ty.depthAll xs 0 = 0 := by cases xs <;> simp [Ty.depthAll]
theorem Ty.depth_le : ∀ (far : Nat) (v : Ty), v.depth far ≤ far + 1
  | 0, v => by rw [Ty.depth_eq, Ty.depthAll_0]; exact Nat.le_refl _
  | far + 1, v => by
    rw [Ty.depth_eq]
    have : ∀ xs : List Ty, Ty.depthAll xs (far + 1) ≤ far + 1 := fun xs => by
      induction xs with
      | nil => simp [Ty.depthAll]
      | cons x xs ih =>
        simp only [Ty.depthAll, Nat.add_sub_cancel]
        rw [if_neg (by omega)]
        have := Ty.depth_le far x
        omega
    have := this v.xs
    omega

def Ty.smallB (v : Ty) : Bool := decide (v.depth 40 ≤ 30) && decide (v.count 0 < 500)
end Go.Proofs.YtaamihdibpioaaaGreat
