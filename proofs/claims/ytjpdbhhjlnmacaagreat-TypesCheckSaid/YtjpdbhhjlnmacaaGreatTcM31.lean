/- basculeref09.Find, both; a type or an error as that package answers. -/
import Derived.Test.YtjpdbhhjlnmacaaGreatTcM3
import Derived.Test.YtjpdbhhjlnmacaaGreatTcM20
import Derived.Test.YtjpdbhhjlnmacaaGreatTcM21
import Derived.Test.YtjpdbhhjlnmacaaGreatTcM22
import Derived.Test.YtjpdbhhjlnmacaaGreatTcM25
import Derived.Test.YtjpdbhhjlnmacaaGreatTcM30
import Derived.Defers
import Derived.Recover
import Derived.Laws.Pointers
namespace Go.Proofs.YtjpdbhhjlnmacaaGreat
set_option linter.unusedVariables false
open Go.RowKit

/-- A type and no error, or an error and no type. -/
def RGave (r : Except Int Ty) (P : Nat → Prop) (w : World) (e : Ending) (w' : World) : Prop :=
  Below w.heap.size w w' ∧ match r with
  | .ok v => ∃ u : Ty, e = .returned (.tuple #[u.agg, .int .i64 0]) ∧ u.erase = v ∧ u.In w' ∧ u.Sep (fun b => P b ∨ w.heap.size ≤ b)
  | .error k => e = .returned (.tuple #[Ty.zero.agg, .int .i64 k])
theorem res_storedR {w W WF : World} {u : Ty} {P : Nat → Prop} {R : Nat} {k4 k5 : Option Addr} {l4 l5 : Nat} {x0 x1 x2 : Value} (hA : w.heap.size ≤ R) (hP : ∀ b, P b → b < w.heap.size) (hB : Below w.heap.size w W) (hr : Blk W R 36 #[x0, x1, x2]) (hi : u.In W) (hs : u.Sep (fun b => P b ∨ (w.heap.size ≤ b ∧ b ≠ R)))
    (f4 : u.na.val u.ns.length = .slice k4 u.ns.length l4) (f5 : u.xa.val u.xs.length = .slice k5 u.xs.length l5) (hWF : WF = ((W.setCell ⟨R, 0, none⟩ (.int .i64 u.k)).setCell ⟨R, 1, none⟩ (.slice k4 u.ns.length l4)).setCell ⟨R, 2, none⟩ (.slice k5 u.xs.length l5)) :
    Blk WF R 36 #[.int .i64 u.k, .slice k4 u.ns.length l4, .slice k5 u.xs.length l5] ∧ RGave (.ok u.erase) P w (.returned (.tuple #[.agg #[.int .i64 u.k, .slice k4 u.ns.length l4, .slice k5 u.xs.length l5], .int .i64 0])) WF := by
  refine ⟨by rw [hWF]; exact blk3_set hr _ _ _, by rw [hWF]; exact below3_set hB hA _ _ _, u, by unfold Ty.agg; rw [f4, f5], rfl, ?_, hs.mono (fun b hb => by rcases hb with h | h; exact .inl h; exact .inr h.1)⟩
  refine hi.carryS hs (fun b o hb hlt => ?_) (by rw [hWF]; simp [World.setCell])
  have hne : ∀ k, (⟨R, k, none⟩ : Addr) ≠ ⟨b, o, none⟩ := fun k e => by
    injection e with e _
    rcases hb with hb | hb
    · have := hP b hb; omega
    · omega
  rw [hWF, World.cell?_setCell_other _ _ _ _ (hne 2), World.cell?_setCell_other _ _ _ _ (hne 1), World.cell?_setCell_other _ _ _ _ (hne 0)]
theorem RGave.drew {r : Except Int Ty} {P : Nat → Prop} {w w' : World} {e : Ending} (h : RGave r P w e w') : RGave r P w e w'.drew := by
  obtain ⟨h1, h2⟩ := h
  refine ⟨h1.drew, ?_⟩
  cases r with
  | error k => exact h2
  | ok v =>
    obtain ⟨u, a, b, c, d⟩ := h2
    exact ⟨u, a, b, c.drewN 1, d⟩
theorem err_storedR {w W WF : World} {P : Nat → Prop} {R : Nat} {k : Int} {x0 x1 x2 : Value} (hA : w.heap.size ≤ R) (hB : Below w.heap.size w W) (hr : Blk W R 36 #[x0, x1, x2])
    (hWF : WF = ((W.setCell ⟨R, 0, none⟩ (.int .i64 0)).setCell ⟨R, 1, none⟩ (.slice none 0 0)).setCell ⟨R, 2, none⟩ (.slice none 0 0)) :
    Blk WF R 36 #[.int .i64 0, .slice none 0 0, .slice none 0 0] ∧ RGave (.error k) P w (.returned (.tuple #[.agg #[.int .i64 0, .slice none 0 0, .slice none 0 0], .int .i64 k])) WF :=
  ⟨by rw [hWF]; exact blk3_set hr _ _ _, by rw [hWF]; exact below3_set hB hA _ _ _, rfl⟩

set_option maxHeartbeats 1000000 in
set_option maxRecDepth 100000 in
theorem find_any (vs : List Var) (p : Option Addr) (cap : Nat) (s : ByteArray) (w : World) (h : VarsIn w p cap vs) :
    Calls Tryz.prog 55 #[.slice p vs.length cap, .string s] w fun e w' => e = .returned (.int .i64 (nameIdx (vs.map Var.n) s)) ∧ Below w.heap.size w w' := by
  obtain ⟨n, hn⟩ : ∃ n, n = vs.length := ⟨_, rfl⟩
  obtain ⟨R, hR⟩ : ∃ R, R = nameIdx (vs.map Var.n) s := ⟨_, rfl⟩
  rw [← hn, ← hR]
  have hnl : n ≤ 879609302195 := by rw [hn]; exact h.len
  have hcl : n ≤ cap := by rw [hn]; exact h.cap
  have HN := Lib.hid hn; have HV := Lib.hid h; have HR := Lib.hid hR
  clear hn h hR
  go_enter Tryz.func55, Tryz.ntmps55
  go_wp2
  go_loopw [5] (fun iv wr => ∃ k : Nat, k ≤ n ∧ iv = .int .i64 k ∧ Hid (∀ j (hj : j < vs.length), j < k → vs[j].n ≠ s) ∧ Hid (Below w.heap.size w wr)) (fun iv _ => n - (intOf iv).toNat)
  case atStart => exact ⟨0, by omega, rfl, Lib.hid (fun j _ hj => absurd hj (by omega)), Lib.hid (Below.refl _ _)⟩
  case round =>
    obtain ⟨k, hk, rfl, HNO, HB⟩ := hrel
    by_cases hlt2 : k < n
    · have hkl : k < vs.length := by rw [← HN.out]; exact hlt2
      obtain ⟨b, o, rfl, hpv⟩ := (HV.out.below HB.out).at_ k hkl
      obtain ⟨x, hx⟩ : ∃ x, x = vs[k]'hkl := ⟨_, rfl⟩
      rw [← hx] at hpv
      have hk0 : (0 : Int) ≤ (k : Int) := by omega
      have hk1 : (k : Int) < (n : Int) := by omega
      have c0 := hpv.c0
      clear hpv
      by_cases he : x.n = s
      · have hR2 : Hid (R = (k : Int)) := Lib.hid (by
          rw [HR.out]
          exact nameIdx_hit (by simpa using hkl) (by simpa [← hx] using he) (fun j hj hjk => by simpa using HNO.out j (by simpa using hj) hjk))
        have j1 : (x.n.toList == s.toList) = true := by rw [he]; simp
        clear hx hkl he
        go_wp2
        go_ret
        exact ⟨by rw [hR2.out]; rfl, HB.out⟩
      · have HNO2 : Hid (∀ j (hj : j < vs.length), j < k + 1 → vs[j].n ≠ s) := Lib.hid (fun j hj hjk => by
          by_cases e : j = k
          · subst e; rw [← hx]; exact he
          · exact HNO.out j hj (by omega))
        have j1 := str_ne he
        clear he hx hkl
        go_wp2
        go_roundw
        case rel => exact ⟨k + 1, by omega, by go_num, HNO2, HB⟩
        case measure => simp [intOf]; omega
    · have hR2 : Hid (R = -1) := Lib.hid (by
        rw [HR.out]
        exact nameIdx_miss (fun j hj => by simpa using HNO.out j (by simpa using hj) (by have := HN.out; simp at hj; omega)))
      go_wp2
      go_ret
      exact ⟨by rw [hR2.out]; rfl, HB.out⟩

/-- The items that lie in a slice of types. -/
structure TKids (w : World) (p : Option Addr) (c : Nat) (ks : List Ty) : Prop where
  len : ks.length ≤ 2513169434843
  cap : ks.length ≤ c
  at_ : ∀ i (hi : i < ks.length), ∃ b o, p = some ⟨b, o, none⟩ ∧ PTy w b (o + i * 3) (ks[i]'hi)
theorem TKids.below {w w' : World} {p : Option Addr} {c : Nat} {ks : List Ty} (h : TKids w p c ks) (hb : Below w.heap.size w w') : TKids w' p c ks :=
  ⟨h.len, h.cap, fun i hi => by
    obtain ⟨b, o, h1, h2⟩ := h.at_ i hi
    exact ⟨b, o, h1, h2.below hb⟩⟩
theorem TKids.each {w : World} {p : Option Addr} {c : Nat} {ks : List Ty} (h : TKids w p c ks) {x : Ty} (hx : x ∈ ks) : x.In w := by
  obtain ⟨i, hi, rfl⟩ := List.mem_iff_getElem.1 hx
  obtain ⟨b, o, _, h2⟩ := h.at_ i hi
  exact h2.in
theorem TKids.nth {w : World} {p : Option Addr} {c : Nat} {ks : List Ty} (h : TKids w p c ks) {i : Nat} (hi : i < ks.length) : ∃ b o, p = some ⟨b, o, none⟩ ∧ PTy w b (o + i * 3) (nthT ks i) := by
  obtain ⟨b, o, h1, h2⟩ := h.at_ i hi
  refine ⟨b, o, h1, ?_⟩
  have : nthT ks i = ks[i]'hi := by simp [nthT, List.getD_eq_getElem?_getD, hi]
  rw [this]; exact h2

def bothP (ks : List Ty) (k : Int) : Bool := decide ((nthT ks 0).k = k) && decide ((nthT ks 1).k = k)
set_option maxHeartbeats 1000000 in
set_option maxRecDepth 100000 in
theorem both_any (ks : List Ty) (p : Option Addr) (c : Nat) (k : Int) (w : World) (h : TKids w p c ks) (h2 : 2 ≤ ks.length) :
    Calls Tryz.prog 86 #[.slice p ks.length c, .int .i64 k] w fun e w' => BoolBelow (bothP ks k) w e w' := by
  obtain ⟨n, hn⟩ : ∃ n, n = ks.length := ⟨_, rfl⟩
  obtain ⟨R, hR⟩ : ∃ R, R = bothP ks k := ⟨_, rfl⟩
  obtain ⟨b, o, rfl, q0⟩ := h.nth (i := 0) (by omega)
  obtain ⟨b', o', e, q1⟩ := h.nth (i := 1) (by omega)
  injection e with e
  injection e with e1 e2
  subst e1 e2
  have hcl : n ≤ c := by rw [hn]; exact h.cap
  rw [← hn] at h2 ⊢
  rw [← hR]
  obtain ⟨a, ha⟩ : ∃ a, a = (nthT ks 0).k := ⟨_, rfl⟩
  obtain ⟨d, hd⟩ : ∃ d, d = (nthT ks 1).k := ⟨_, rfl⟩
  have c0 := q0.c0; have c1 := q1.c0
  rw [← ha] at c0
  rw [← hd] at c1
  simp only [Nat.zero_mul, Nat.one_mul, Nat.add_zero] at c0 c1
  have hn2 : (1 : Int) < (n : Int) := by omega
  have hn1 : (0 : Int) < (n : Int) := by omega
  have HRE := Lib.hid (show R = (decide (a = k) && decide (d = k)) by rw [hR, ha, hd]; rfl)
  clear hR ha hd q0 q1 h hn
  by_cases hak : a = k
  · have j1 : (a == k) = true := by simpa using hak
    by_cases hdk : d = k
    · have j2 : (d == k) = true := by simpa using hdk
      have HRN := Lib.hid (show R = true by rw [HRE.out]; simp [hak, hdk])
      clear hak hdk
      go_enter Tryz.func86, Tryz.ntmps86
      go_wp2_with fail
      go_ret
      exact ⟨by rw [HRN.out]; rfl, Below.refl _ _⟩
    · have j2 : (d == k) = false := by simpa using hdk
      have HRN := Lib.hid (show R = false by rw [HRE.out]; simp [hdk])
      clear hak hdk
      go_enter Tryz.func86, Tryz.ntmps86
      go_wp2_with fail
      go_ret
      exact ⟨by rw [HRN.out]; rfl, Below.refl _ _⟩
  · have j1 : (a == k) = false := by simpa using hak
    have HRN := Lib.hid (show R = false by rw [HRE.out]; simp [hak])
    clear hak
    go_enter Tryz.func86, Tryz.ntmps86
    go_wp2_with fail
    go_ret
    exact ⟨by rw [HRN.out]; rfl, Below.refl _ _⟩
end Go.Proofs.YtjpdbhhjlnmacaaGreat

/- types.caught, types.Join and types.Is of any two types. -/
namespace Go.Proofs.YtjpdbhhjlnmacaaGreat
set_option linter.unusedVariables false
open Go.RowKit

theorem as_errno' (W : World) (v : Value) : (Instr.typeAssert (.iface 37 v) 20 37 true).run Tryz.prog W = .ok (.tuple #[v, .bool true]) W := by kernel_rfl
theorem as_nil' (W : World) : (Instr.typeAssert .nilIface 20 37 true).run Tryz.prog W = .ok (.tuple #[.int .i64 0, .bool false]) W := by kernel_rfl

/-- The two results behind a catch. -/
def caughtW (w : World) (T E : Nat) (k : Int) : World := (((w.setCell ⟨T, 0, none⟩ (.int .i64 0)).setCell ⟨T, 1, none⟩ (.slice none 0 0)).setCell ⟨T, 2, none⟩ (.slice none 0 0)).setCell ⟨E, 0, none⟩ (.int .i64 k)
set_option maxHeartbeats 2000000 in
set_option maxRecDepth 20000 in
theorem caught_panicking (T E : Nat) (k : Int) (x0 x1 x2 y : Value) (older : List PanicEntry) (w : World) (hT : Blk w T 36 #[x0, x1, x2]) (hE : Blk w E 37 #[y]) (hne : T ≠ E) :
    CallsD Tryz.prog 27 #[.pointer (some ⟨T, 0, none⟩), .pointer (some ⟨E, 0, none⟩)] (.panicking ({ v := .iface 37 (.int .i64 k), recovered := false } :: older)) w fun e u' w' =>
      e = .returned (.tuple #[]) ∧ u' = .panicking ({ v := .iface 37 (.int .i64 k), recovered := true } :: older) ∧ w' = caughtW w T E k := by
  have c0 := hT.cell 0; have f0 := hT.frozen 0
  have h1 := hT.set_ 0 (.int .i64 0)
  have c1 := h1.cell 1; have f1 := h1.frozen 1
  have h2 := h1.set_ 1 (.slice none 0 0)
  have c2 := h2.cell 2; have f2 := h2.frozen 2
  have h3 := ((hE.far (p := ⟨T, 0, none⟩) (Ne.symm hne) (.int .i64 0)).far (p := ⟨T, 1, none⟩) (Ne.symm hne) (.slice none 0 0)).far (p := ⟨T, 2, none⟩) (Ne.symm hne) (.slice none 0 0)
  have c3 := h3.cell 0; have f3 := h3.frozen 0
  simp at c0 c1 c2 c3
  refine callsD_of_wpS Tryz.func27 rfl fun c₀ cs hu => ?_
  apply wpS_seq
  apply wpS_region
  simp [wpOpsS, go_sem, recoverD, hu, Tryz.ntmps27, Exit.thenS, as_errno']
  apply wpS_seq
  apply wpS_region
  simp [wpOpsS, go_sem, Exit.thenS]
  refine wpS_cond (t := true) (by simp [Act.eval]) ?_
  simp only [if_true]
  apply wpS_region
  simp [wpOpsS, go_sem, c0, f0, c1, f1, c2, f2, c3, f3, bodyPostS, results, Tryz.results27, caughtW]

set_option maxHeartbeats 1000000 in
set_option maxRecDepth 20000 in
theorem caught_idle (p q : Addr) (w : World) :
    CallsD Tryz.prog 27 #[.pointer (some p), .pointer (some q)] .returning w fun e u' w' => e = .returned (.tuple #[]) ∧ u' = .returning ∧ w' = w := by
  refine callsD_of_wpS Tryz.func27 rfl fun c₀ cs hu => ?_
  apply wpS_seq
  apply wpS_region
  simp [wpOpsS, go_sem, recoverD, hu, Tryz.ntmps27, Exit.thenS, as_nil']
  apply wpS_seq
  apply wpS_region
  simp [wpOpsS, go_sem, Exit.thenS]
  refine wpS_cond (t := false) (by simp [Act.eval]) ?_
  simp only [Bool.false_eq_true, if_false]
  refine wpS_of_wp (wp_skip ?_)
  cases c₀
  simp_all [bodyPostS, results, Tryz.results27]
end Go.Proofs.YtjpdbhhjlnmacaaGreat

/- The document's floats: the text "1p0". -/
namespace Go.Proofs.YtjpdbhhjlnmacaaGreat
set_option linter.unusedVariables false
open Go.RowKit

set_option maxHeartbeats 2000000 in
set_option maxRecDepth 100000 in
theorem num3_any (s : ByteArray) (c m : Nat) (w : World) (hs : s.size ≤ 2000) (h0 : 0 < s.size) (hc : byteAt s 0 = c) (hcm : (c = 48 ∧ m = 0) ∨ (c = 49 ∧ m = 1)) (hn : s.size = 1 ∨ (1 < s.size ∧ 57 < byteAt s 1)) :
    Calls Tryz.prog 131 #[.string s] w fun e w' => e = .returned (.tuple #[.int .u64 m, .int .i64 1, .string (s.extract 1 s.size)]) ∧ Below w.heap.size w w' := by
  have hb0 : ∀ h : 0 < s.size, (s[0]'h).toNat = c := fun h => by rw [byteAt_eq s 0 h]; exact hc
  have hb1 : ∀ h : 1 < s.size, (s[1]'h).toNat = byteAt s 1 := fun h => byteAt_eq s 1 h
  have HN := Lib.hid hn; have HCM := Lib.hid hcm; have HB0 := Lib.hid hb0; have HB1 := Lib.hid hb1
  clear hn hcm hc hb0 hb1
  go_enter Tryz.func131, Tryz.ntmps131
  go_wp2_with fail
  go_loopw [5, 6] (fun nv iv wr => ∃ i n : Nat, nv = .int .u64 (n : Int) ∧ iv = .int .i64 (i : Int) ∧ ((i = 0 ∧ n = 0) ∨ (i = 1 ∧ n = m)) ∧ wr = w) (fun _ iv _ => 1 - (intOf iv).toNat)
  case atStart => exact ⟨0, 0, rfl, rfl, .inl ⟨rfl, rfl⟩, rfl⟩
  case round =>
    obtain ⟨i, n, rfl, rfl, hi, rfl⟩ := hrel
    rcases hi with ⟨rfl, rfl⟩ | ⟨rfl, rfl⟩
    · have hz : (0 : Int) < (s.size : Int) := by omega
      have hb := HB0.out h0
      rcases HCM.out with ⟨rfl, rfl⟩ | ⟨rfl, rfl⟩
      all_goals
        go_wp2_with fail
        go_roundw
        case rel => exact ⟨1, _, rfl, by go_num, .inr ⟨rfl, rfl⟩, trivial⟩
        case measure => simp [intOf]
    · rcases HN.out with h1 | ⟨h1, h2⟩
      · have hz : decide ((1 : Int) < (s.size : Int)) = false := by simp; omega
        have hz2 : ¬ ((1 : Int) < (s.size : Int)) := by omega
        have hz3 : (1 : Int) ≤ (s.size : Int) := by omega
        clear h1
        go_wp2_with fail
        go_region
        all_goals
          go_wp2_with fail
          refine bodyPost_ret (v := .tuple #[.int .u64 n, .int .i64 1, .string (s.extract 1 s.size)]) (by simp [results, Tryz.results131, go_sem]) rfl ?_
          exact ⟨rfl, (Below.refl _ _).drew⟩
      · have hz : decide ((1 : Int) < (s.size : Int)) = true := by simp; omega
        have hz2 : (1 : Int) < (s.size : Int) := by omega
        have hz3 : (1 : Int) ≤ (s.size : Int) := by omega
        have hb := HB1.out h1
        have hc1 : decide ((48 : Int) ≤ (byteAt s 1 : Int)) = true := by simp; omega
        have hc2 : decide ((byteAt s 1 : Int) ≤ 57) = false := by simp; omega
        clear h2
        go_wp2_with fail
        go_region
        all_goals
          go_wp2_with fail
          refine bodyPost_ret (v := .tuple #[.int .u64 n, .int .i64 1, .string (s.extract 1 s.size)]) (by simp [results, Tryz.results131, go_sem]) rfl ?_
          exact ⟨rfl, (Below.refl _ _).drew⟩

set_option maxHeartbeats 4000000 in
set_option maxRecDepth 100000 in
theorem made_one (w : World) : Calls Tryz.prog 132 #[.bool false, .int .u64 1, .int .i64 0] w fun e w' => e = .returned (.tuple #[.float .f64 4607182418800017408, .int .i64 0]) ∧ w = w' := by
  go_enter Tryz.func132, Tryz.ntmps132
  go_wp2_with fail
  go_loopw [1, 2] (fun mv ev wr => mv = .int .u64 1 ∧ ev = .int .i64 0 ∧ wr = w) (fun _ _ _ => 0)
  case atStart => exact ⟨rfl, rfl, rfl⟩
  case round =>
    obtain ⟨rfl, rfl, rfl⟩ := hrel
    go_wp2_with fail
    go_loopw [1, 2] (fun mv ev w2 => ∃ j : Nat, mv = .int .u64 ((2 ^ j : Nat) : Int) ∧ ev = .int .i64 (-(j : Int)) ∧ j ≤ 52 ∧ w2 = wr) (fun _ ev _ => (52 + intOf ev).toNat)
    case atStart => exact ⟨0, rfl, rfl, by omega, rfl⟩
    case round =>
      obtain ⟨j, rfl, rfl, hj, rfl⟩ := hrel
      by_cases hlt : j < 52
      · have hp : (2 ^ j : Nat) < 4503599627370496 := by
          have : (2 ^ j : Nat) < 2 ^ 52 := Nat.pow_lt_pow_right (by omega) hlt
          simpa using this
        have h2 : decide (-1074 < -(j : Int)) = true := by simp; omega
        obtain ⟨q, hq⟩ : ∃ q : Nat, q = 2 ^ j := ⟨_, rfl⟩
        have hq2 : q * 2 = 2 ^ (j + 1) := by rw [hq, Nat.pow_succ]
        rw [← hq] at hp ⊢
        have h1 : decide ((q : Int) < 4503599627370496) = true := decide_eq_true (by omega)
        have HQ := Lib.hid hq2
        have hp2 : (q : Int) < 4503599627370496 := by omega
        have hp3 : (0 : Int) ≤ (q : Int) := by omega
        obtain ⟨Q, hQ⟩ : ∃ Q : Int, Q = (q : Int) := ⟨_, rfl⟩
        have HQ2 := Lib.hid hQ
        rw [← hQ] at h1 hp2 hp3 ⊢
        clear hq hq2 hQ hp
        go_wp2_with fail
        go_roundw
        case rel =>
          have e1 : ((2 ^ (j + 1) : Nat) : Int) = (q : Int) * 2 := by rw [← HQ.out]; omega
          exact ⟨j + 1, by rw [e1, ← HQ2.out], by go_num, by omega, trivial⟩
        case measure => simp [intOf]; omega
      · obtain rfl : j = 52 := by omega
        rw [show ((2 ^ 52 : Nat) : Int) = 4503599627370496 from by decide, show -((52 : Nat) : Int) = -52 from rfl]
        have hfrom : ∀ w : World, (callFunc 128 #[.int .u64 4607182418800017408]).run Tryz.prog w = .ok (.value (.float .f64 4607182418800017408)) w := frombits_run 4607182418800017408
        go_wp2_with fail
        refine bodyPost_ret (v := .tuple #[.float .f64 4607182418800017408, .int .i64 0]) (by simp [results, Tryz.results132, go_sem]) rfl ?_
        exact ⟨rfl, rfl⟩
end Go.Proofs.YtjpdbhhjlnmacaaGreat

/- The document's floats: the text "1p0"; a float's token. -/
namespace Go.Proofs.YtjpdbhhjlnmacaaGreat
set_option linter.unusedVariables false
open Go.RowKit

set_option maxHeartbeats 4000000 in
set_option maxRecDepth 100000 in
theorem parse3_one (w : World) : Calls Tryz.prog 124 #[.string ⟨#[49, 112, 48]⟩] w fun e w' => e = .returned (.tuple #[.float .f64 4607182418800017408, .int .i64 0]) ∧ Below w.heap.size w w' := by
  have H1 := Lib.hid (fun W => num3_any ⟨#[49, 112, 48]⟩ 49 1 W (by decide) (by decide) (by decide) (.inr ⟨rfl, rfl⟩) (.inr ⟨by decide, by decide⟩))
  have H2 := Lib.hid (fun W => num3_any ((⟨#[112, 48]⟩ : ByteArray).extract 1 2) 48 0 W (by decide) (by decide) (by decide) (.inl ⟨rfl, rfl⟩) (.inl rfl))
  have HM := Lib.hid made_one
  go_enter Tryz.func124, Tryz.ntmps124
  go_wp2_with fail
  refine (H1.out _).mono ?_
  rintro e w1 ⟨rfl, hb1⟩
  rw [show (⟨#[49, 112, 48]⟩ : ByteArray).extract 1 (⟨#[49, 112, 48]⟩ : ByteArray).size = ⟨#[112, 48]⟩ from rfl]
  have HB1 := Lib.hid hb1
  clear hb1
  go_wp2_with fail
  refine (H2.out _).mono ?_
  rintro e w2 ⟨rfl, hb2⟩
  rw [show ((⟨#[112, 48]⟩ : ByteArray).extract 1 2).extract 1 ((⟨#[112, 48]⟩ : ByteArray).extract 1 2).size = ⟨#[]⟩ from rfl]
  have HB2 := Lib.hid (HB1.out.trans (hb2.mono HB1.out.size))
  clear hb2
  go_wp2_with fail
  refine (HM.out _).mono ?_
  rintro e w3 ⟨rfl, rfl⟩
  go_wp2_with fail
  refine bodyPost_ret (v := .tuple #[.float .f64 4607182418800017408, .int .i64 0]) (by simp [results, Tryz.results124, go_sem]) rfl ?_
  exact ⟨rfl, HB2.out⟩

set_option maxHeartbeats 8000000 in
set_option maxRecDepth 100000 in
theorem num_flt (s : ByteArray) (a : Nat) (w : World) (hs : s.size ≤ 2000) (ha : s.size = a + 3) (r1 : RunTo s a (a + 1)) (r2 : RunTo s (a + 2) (a + 3)) (hc1 : byteAt s (a + 1) = 112) (hc2 : byteAt s (a + 2) = 48) (hx : s.extract a (a + 3) = ⟨#[49, 112, 48]⟩) :
    Calls Tryz.prog 106 #[.string s, .agg #[.int .i64 1, .int .i64 (a : Int), .int .i64 (a : Int), .int .i64 0, .float .f64 0, .string ⟨#[]⟩]] w fun e w' => TokOut (Tok.mk 3 a ((a : Int) + 3) 0 4607182418800017408 ⟨#[]⟩) 0 w e w' := by
  obtain ⟨W, hW⟩ : ∃ W, W = (w.alloc (.cells #[.int .i64 1, .int .i64 (a : Int), .int .i64 (a : Int), .int .i64 0, .float .f64 0, .string ⟨#[]⟩] 118)).alloc (.cells #[.int .i64 0, .int .i64 0, .int .i64 0, .int .i64 0, .float .f64 0, .string ⟨#[]⟩] 118) := ⟨_, rfl⟩
  have hj : L0 w W (Tok.mk 1 a a 0 0 ⟨#[]⟩) := by rw [hW]; exact l0_start w (Tok.mk 1 a a 0 0 ⟨#[]⟩)
  obtain ⟨A, hA⟩ : ∃ A, A = w.heap.size := ⟨_, rfl⟩
  have bt := hj.bt; have br := hj.br
  rw [← hA] at bt br
  have c0 := bt.cell 0; have c1 := bt.cell 1; have c2 := bt.cell 2; have c3 := bt.cell 3; have c4 := bt.cell 4; have c5 := bt.cell 5
  have d0 := bt.frozen 0; have d1 := bt.frozen 1; have d2 := bt.frozen 2; have d3 := bt.frozen 3; have d4 := bt.frozen 4; have d5 := bt.frozen 5
  simp at c0 c1 c2 c3 c4 c5
  have hsf := run_store_flt
  have HW := Lib.hid hW; have HA := Lib.hid hA; have HBW := Lib.hid hj.below; have BT := Lib.hid bt; have BR := Lib.hid br
  clear hW hj hA bt br
  have ha0 : (0 : Int) ≤ (a : Int) := by omega
  have R1 := Lib.hid (run_any s a (a + 1) W r1 hs)
  have R2 : Hid (Calls Tryz.prog 123 #[.string s, .int .i64 ((a : Int) + 1 + 1)] W fun e w' => e = .returned (.int .i64 ((a : Int) + 3)) ∧ W = w') := Lib.hid (by
    have := run_any s (a + 2) (a + 3) W r2 hs
    rw [show ((a + 2 : Nat) : Int) = (a : Int) + 1 + 1 by omega, show ((a + 3 : Nat) : Int) = (a : Int) + 3 by omega] at this
    exact this)
  have HP := Lib.hid parse3_one
  have HBY1 : Hid (∀ h : a + 1 < s.size, (s[a + 1]'h).toNat = 112) := Lib.hid (fun h => by rw [byteAt_eq s (a + 1) h]; exact hc1)
  have HBY2 : Hid (∀ h : a + 2 < s.size, (s[a + 2]'h).toNat = 48) := Lib.hid (fun h => by rw [byteAt_eq s (a + 2) h]; exact hc2)
  have g0 : a + 1 < s.size := by omega
  have hby1 := HBY1.out g0
  have hby2 : ∀ h : a + 1 + 1 < s.size, (s[a + 1 + 1]'h).toNat = 48 := fun h => HBY2.out h
  have g1 : decide ((a : Int) + 1 < (s.size : Int)) = true := by simp; omega
  have g2 : (a : Int) + 1 < (s.size : Int) := by omega
  have g3 : decide ((a : Int) + 1 + 1 < (s.size : Int)) = true := by simp; omega
  have g4 : (a : Int) + 1 + 1 < (s.size : Int) := by omega
  have g5 : (0 : Int) ≤ (a : Int) + 1 := by omega
  have g6 : (0 : Int) ≤ (a : Int) + 1 + 1 := by omega
  have g7 : a + 1 + 1 < s.size := by omega
  have g8 := hby2 g7
  have g9 : ((a : Int) + 3 == (a : Int) + 1 + 1) = false := by simp; omega
  have g10 : (a : Int) + 3 ≤ (s.size : Int) := by omega
  have HX := Lib.hid hx; have HSZ := Lib.hid ha
  clear r1 r2 hc1 hc2 hx hby2 ha
  go_enter Tryz.func106, Tryz.ntmps106
  go_upto_region 1 with fail
  rw [← HW.out, ← HA.out]
  go_wp2_with fail
  refine R1.out.mono ?_
  rintro e w1 ⟨rfl, rfl⟩
  rw [show (((a + 1 : Nat) : Int)) = (a : Int) + 1 by omega]
  go_wp2_with fail
  refine R2.out.mono ?_
  rintro e w2 ⟨rfl, rfl⟩
  go_wp2_with fail
  obtain ⟨W6, hW6⟩ : ∃ W6, W6 = W.setCell ⟨A, 2, none⟩ (.int .i64 ((a : Int) + 3)) := ⟨_, rfl⟩
  have bt6 : Blk W6 A 118 #[.int .i64 1, .int .i64 (a : Int), .int .i64 ((a : Int) + 3), .int .i64 0, .float .f64 0, .string ⟨#[]⟩] := by rw [hW6]; exact BT.out.set_ 2 _
  have br6 : Blk W6 (A + 1) 118 #[.int .i64 0, .int .i64 0, .int .i64 0, .int .i64 0, .float .f64 0, .string ⟨#[]⟩] := by rw [hW6]; exact BR.out.far (p := ⟨A, 2, none⟩) (by simp) _
  have hb6 : Below w.heap.size w W6 := by rw [hW6]; exact HBW.out.setCell (p := ⟨A, 2, none⟩) (by show w.heap.size ≤ A; have := HA.out; omega) _
  rw [← hW6, HX.out]
  refine (HP.out _).mono ?_
  rintro e w3 ⟨rfl, hb3⟩
  have bt7 := bt6.below hb3 bt6.lt
  have br7 := br6.below hb3 br6.lt
  have hb7 : Below w.heap.size w w3 := hb6.trans (hb3.mono hb6.size)
  have BT7 := Lib.hid bt7; have BR7 := Lib.hid br7; have HB7 := Lib.hid hb7
  clear hW6 bt6 br6 hb6 hb3 bt7 br7 hb7 c0 c1 c2 c3 c4 c5 d0 d1 d2 d3 d4 d5
  have c0 := BT7.out.cell 0; have c1 := BT7.out.cell 1; have c2 := BT7.out.cell 2; have c3 := BT7.out.cell 3; have c4 := BT7.out.cell 4; have c5 := BT7.out.cell 5
  have d0 := BT7.out.frozen 0; have d1 := BT7.out.frozen 1; have d2 := BT7.out.frozen 2; have d3 := BT7.out.frozen 3; have d4 := BT7.out.frozen 4; have d5 := BT7.out.frozen 5
  have r0 := BR7.out.cell 0; have r1 := BR7.out.cell 1; have r2 := BR7.out.cell 2; have r3 := BR7.out.cell 3; have r4 := BR7.out.cell 4; have r5 := BR7.out.cell 5
  have s0 := BR7.out.frozen 0; have s1 := BR7.out.frozen 1; have s2 := BR7.out.frozen 2; have s3 := BR7.out.frozen 3; have s4 := BR7.out.frozen 4; have s5 := BR7.out.frozen 5
  simp at c0 c1 c2 c3 c4 c5 r0 r1 r2 r3 r4 r5
  obtain ⟨W1, hW1⟩ : ∃ W1, W1 = ((w3.setCell ⟨A, 0, none⟩ (.int .i64 3)).setCell ⟨A, 4, none⟩ (.float .f64 4607182418800017408)) := ⟨_, rfl⟩
  have hb1 : Below w.heap.size w W1 := by rw [hW1]; exact (HB7.out.setCell (p := ⟨A, 0, none⟩) (by show w.heap.size ≤ A; have := HA.out; omega) _).setCell (p := ⟨A, 4, none⟩) (by show w.heap.size ≤ A; have := HA.out; omega) _
  have hk1 : Blk W1 (A + 1) 118 #[.int .i64 0, .int .i64 0, .int .i64 0, .int .i64 0, .float .f64 0, .string ⟨#[]⟩] := by rw [hW1]; exact (BR7.out.far (p := ⟨A, 0, none⟩) (by simp) _).far (p := ⟨A, 4, none⟩) (by simp) _
  have hbF := below6_set hb1 (g := A + 1) (by have := HA.out; omega) (.int .i64 3) (.int .i64 (a : Int)) (.int .i64 ((a : Int) + 3)) (.int .i64 0) (.float .f64 4607182418800017408) (.string ⟨#[]⟩)
  have hkF := blk6_set hk1 (.int .i64 3) (.int .i64 (a : Int)) (.int .i64 ((a : Int) + 3)) (.int .i64 0) (.float .f64 4607182418800017408) (.string ⟨#[]⟩)
  obtain ⟨WF, hWF⟩ : ∃ WF, WF = (((((W1.setCell ⟨A + 1, 0, none⟩ (.int .i64 3)).setCell ⟨A + 1, 1, none⟩ (.int .i64 (a : Int))).setCell ⟨A + 1, 2, none⟩ (.int .i64 ((a : Int) + 3))).setCell ⟨A + 1, 3, none⟩ (.int .i64 0)).setCell ⟨A + 1, 4, none⟩ (.float .f64 4607182418800017408)).setCell ⟨A + 1, 5, none⟩ (.string ⟨#[]⟩) := ⟨_, rfl⟩
  rw [← hWF] at hbF hkF
  rw [hW1] at hWF
  have HWF := Lib.hid hWF; have HBF := Lib.hid hbF; have HKF := Lib.hid hkF
  clear hWF hbF hkF hW1 hb1 hk1
  go_wp2_with fail
  rw [← HWF.out]
  have f0 := HKF.out.cell 0; have f1 := HKF.out.cell 1; have f2 := HKF.out.cell 2; have f3 := HKF.out.cell 3; have f4 := HKF.out.cell 4; have f5 := HKF.out.cell 5
  simp at f0 f1 f2 f3 f4 f5
  refine bodyPost_ret (v := .tuple #[.agg #[.int .i64 3, .int .i64 (a : Int), .int .i64 ((a : Int) + 3), .int .i64 0, .float .f64 4607182418800017408, .string ⟨#[]⟩], .int .i64 0]) (by simp [results, Tryz.results106, go_sem, f0, f1, f2, f3, f4, f5]) rfl ?_
  exact ⟨rfl, HBF.out⟩
end Go.Proofs.YtjpdbhhjlnmacaaGreat

/- The document's lexer: numbers of one digit, a float (printed by wip/gen_lex3.py). -/
namespace Go.Proofs.YtjpdbhhjlnmacaaGreat
set_option linter.unusedVariables false
open Go.RowKit

set_option maxHeartbeats 8000000 in
set_option maxRecDepth 100000 in
theorem num_one (s : ByteArray) (a : Nat) (w : World) (hs : s.size ≤ 2000) (ha : a < s.size) (c N : Nat) (hc : byteAt s a = c) (hcN : (c = 49 ∧ N = 1) ∨ (c = 50 ∧ N = 2)) (hr : RunTo s a (a + 1)) (hp : a + 1 = s.size ∨ (a + 1 < s.size ∧ byteAt s (a + 1) ≠ 112)) :
    Calls Tryz.prog 106 #[.string s, .agg #[.int .i64 1, .int .i64 (a : Int), .int .i64 (a : Int), .int .i64 0, .float .f64 0, .string ⟨#[]⟩]] w fun e w' => TokOut (Tok.mk 2 a ((a : Int) + 1) N 0 ⟨#[]⟩) 0 w e w' := by
  obtain ⟨W, hW⟩ : ∃ W, W = (w.alloc (.cells #[.int .i64 1, .int .i64 (a : Int), .int .i64 (a : Int), .int .i64 0, .float .f64 0, .string ⟨#[]⟩] 118)).alloc (.cells #[.int .i64 0, .int .i64 0, .int .i64 0, .int .i64 0, .float .f64 0, .string ⟨#[]⟩] 118) := ⟨_, rfl⟩
  have hj : L0 w W (Tok.mk 1 a a 0 0 ⟨#[]⟩) := by rw [hW]; exact l0_start w (Tok.mk 1 a a 0 0 ⟨#[]⟩)
  obtain ⟨A, hA⟩ : ∃ A, A = w.heap.size := ⟨_, rfl⟩
  have bt := hj.bt; have br := hj.br
  rw [← hA] at bt br
  have hby := byteAt_eq s
  have c0 := bt.cell 0; have c1 := bt.cell 1; have c2 := bt.cell 2; have c3 := bt.cell 3; have c4 := bt.cell 4; have c5 := bt.cell 5
  have d0 := bt.frozen 0; have d1 := bt.frozen 1; have d2 := bt.frozen 2; have d3 := bt.frozen 3; have d4 := bt.frozen 4; have d5 := bt.frozen 5
  have r0 := br.cell 0; have r1 := br.cell 1; have r2 := br.cell 2; have r3 := br.cell 3; have r4 := br.cell 4; have r5 := br.cell 5
  have s0 := br.frozen 0; have s1 := br.frozen 1; have s2 := br.frozen 2; have s3 := br.frozen 3; have s4 := br.frozen 4; have s5 := br.frozen 5
  simp at c0 c1 c2 c3 c4 c5 r0 r1 r2 r3 r4 r5
  have hsf := run_store_flt
  have HW := Lib.hid hW; have HA := Lib.hid hA; have HBW := Lib.hid hj.below; have BT := Lib.hid bt; have BR := Lib.hid br
  clear hW hj hA bt br
  have ha0 : (0 : Int) ≤ (a : Int) := by omega
  have HRUN := Lib.hid (run_any s a (a + 1) W hr hs)
  have HPP := Lib.hid hp
  have HC := Lib.hid hc
  have hNN : Hid ((c = 49 ∧ N = 1) ∨ (c = 50 ∧ N = 2)) := Lib.hid hcN
  clear hp hr hcN hby
  have q1 : (a : Int) + 1 - (a : Int) = 1 := by omega
  go_enter Tryz.func106, Tryz.ntmps106
  go_upto_region 1 with fail
  rw [← HW.out, ← HA.out]
  go_wp2_with fail
  refine HRUN.out.mono ?_
  rintro e w1 ⟨rfl, rfl⟩
  obtain ⟨W6, hW6⟩ : ∃ W6, W6 = (W.setCell ⟨A, 0, none⟩ (.int .i64 2)).setCell ⟨A, 2, none⟩ (.int .i64 ((a : Int) + 1)) := ⟨_, rfl⟩
  have bt6 : Blk W6 A 118 #[.int .i64 2, .int .i64 (a : Int), .int .i64 ((a : Int) + 1), .int .i64 0, .float .f64 0, .string ⟨#[]⟩] := by rw [hW6]; exact (BT.out.set_ 0 _).set_ 2 _
  have br6 : Blk W6 (A + 1) 118 #[.int .i64 0, .int .i64 0, .int .i64 0, .int .i64 0, .float .f64 0, .string ⟨#[]⟩] := by rw [hW6]; exact (BR.out.far (p := ⟨A, 0, none⟩) (by simp) _).far (p := ⟨A, 2, none⟩) (by simp) _
  have hb6 : Below w.heap.size w W6 := by rw [hW6]; exact (HBW.out.setCell (p := ⟨A, 0, none⟩) (by show w.heap.size ≤ A; have := HA.out; omega) _).setCell (p := ⟨A, 2, none⟩) (by show w.heap.size ≤ A; have := HA.out; omega) _
  have HW6 := Lib.hid hW6; have BT6 := Lib.hid bt6; have BR6 := Lib.hid br6; have HB6 := Lib.hid hb6
  clear hW6 bt6 br6 hb6 hc
  have hby : Hid (∀ h : a < s.size, (s[a]'h).toNat = c) := Lib.hid (fun h => by rw [byteAt_eq s a h]; exact HC.out)
  have HBY2 : Hid (∀ h : a + 1 < s.size, (s[a + 1]'h).toNat = byteAt s (a + 1)) := Lib.hid (fun h => byteAt_eq s (a + 1) h)
  have ecast : ((a + 1 : Nat) : Int) = (a : Int) + 1 := by omega
  rcases HPP.out with hp | ⟨hp, hp2⟩
  case' inl =>
    have h1 : decide (((a : Int) + 1) < (s.size : Int)) = false := by simp; omega
    have h2 : ¬ ((a : Int) + 1 < (s.size : Int)) := by omega
    clear hp
  case' inr =>
    have h1 : decide (((a : Int) + 1) < (s.size : Int)) = true := by simp; omega
    have h2 : (a : Int) + 1 < (s.size : Int) := by omega
    have h3 : (0 : Int) ≤ (a : Int) + 1 := by omega
    have h4 := HBY2.out hp
    have h5 : ((byteAt s (a + 1) : Int) == 112) = false := by simp; omega
    clear hp2
  all_goals
    rw [ecast]
    go_upto_region 15 with fail
    rw [← HW6.out]
    clear c0 c1 c2 c3 c4 c5 d0 d1 d2 d3 d4 d5 r0 r1 r2 r3 r4 r5 s0 s1 s2 s3 s4 s5
    have c0 := BT6.out.cell 0; have c1 := BT6.out.cell 1; have c2 := BT6.out.cell 2; have c3 := BT6.out.cell 3; have c4 := BT6.out.cell 4; have c5 := BT6.out.cell 5
    simp at c0 c1 c2 c3 c4 c5
    go_wp2_with fail
    go_loopw [10, 11] (fun nv iv wr => ∃ i m : Nat, nv = .int .u64 (m : Int) ∧ iv = .int .i64 (i : Int) ∧ ((i = a ∧ m = 0) ∨ (i = a + 1 ∧ m = N)) ∧ wr = W6) (fun _ iv _ => a + 1 - (intOf iv).toNat)
    case atStart => exact ⟨a, 0, rfl, rfl, .inl ⟨rfl, rfl⟩, rfl⟩
    case round =>
      obtain ⟨i, m, rfl, rfl, hi, rfl⟩ := hrel
      rcases hi with ⟨rfl, rfl⟩ | ⟨rfl, rfl⟩
      · have hA2 : (i : Int) < (s.size : Int) := by omega
        have h6 := hby.out ha
        have h7 : decide ((i : Int) < (i : Int) + 1) = true := by simp; omega
        have h8 : i < s.size := ha
        rcases hNN.out with ⟨rfl, rfl⟩ | ⟨rfl, rfl⟩
        all_goals
          go_wp2_with fail
          go_roundw
          case rel => exact ⟨i + 1, _, rfl, by go_num, .inr ⟨rfl, rfl⟩, trivial⟩
          case measure => simp [intOf]; try omega
      · have h7 : decide ((a : Int) + 1 < (a : Int) + 1) = false := by simp
        have h9 : decide ((9223372036854775808 : Int) ≤ (m : Int)) = false := by rcases hNN.out with ⟨_, rfl⟩ | ⟨_, rfl⟩ <;> decide
        have h10 : IntKind.i64.wrap (m : Int) = (m : Int) := by rcases hNN.out with ⟨_, rfl⟩ | ⟨_, rfl⟩ <;> decide
        clear c0 c1 c2 c3 c4 c5
        have c0 := BT6.out.cell 0; have c1 := BT6.out.cell 1; have c2 := BT6.out.cell 2; have c3 := BT6.out.cell 3; have c4 := BT6.out.cell 4; have c5 := BT6.out.cell 5
        have d0 := BT6.out.frozen 0; have d1 := BT6.out.frozen 1; have d2 := BT6.out.frozen 2; have d3 := BT6.out.frozen 3; have d4 := BT6.out.frozen 4; have d5 := BT6.out.frozen 5
        have r0 := BR6.out.cell 0; have r1 := BR6.out.cell 1; have r2 := BR6.out.cell 2; have r3 := BR6.out.cell 3; have r4 := BR6.out.cell 4; have r5 := BR6.out.cell 5
        have s0 := BR6.out.frozen 0; have s1 := BR6.out.frozen 1; have s2 := BR6.out.frozen 2; have s3 := BR6.out.frozen 3; have s4 := BR6.out.frozen 4; have s5 := BR6.out.frozen 5
        simp at c0 c1 c2 c3 c4 c5 r0 r1 r2 r3 r4 r5
        obtain ⟨W1, hW1⟩ : ∃ W1, W1 = (wr.setCell ⟨A, 3, none⟩ (.int .i64 (m : Int))) := ⟨_, rfl⟩
        have hb1 : Below w.heap.size w W1 := by rw [hW1]; exact (HB6.out.setCell (p := ⟨A, 3, none⟩) (by show w.heap.size ≤ A; have := HA.out; omega) (.int .i64 (m : Int)))
        have hk1 : Blk W1 (A + 1) 118 #[.int .i64 0, .int .i64 0, .int .i64 0, .int .i64 0, .float .f64 0, .string ⟨#[]⟩] := by rw [hW1]; exact (BR6.out.far (p := ⟨A, 3, none⟩) (by simp) (.int .i64 (m : Int)))
        have hbF := below6_set hb1 (g := A + 1) (by have := HA.out; omega) (.int .i64 2) (.int .i64 (a : Int)) (.int .i64 ((a : Int) + 1)) (.int .i64 (m : Int)) (.float .f64 0) (.string ⟨#[]⟩)
        have hkF := blk6_set hk1 (.int .i64 2) (.int .i64 (a : Int)) (.int .i64 ((a : Int) + 1)) (.int .i64 (m : Int)) (.float .f64 0) (.string ⟨#[]⟩)
        obtain ⟨WF, hWF⟩ : ∃ WF, WF = (((((W1.setCell ⟨A + 1, 0, none⟩ (.int .i64 2)).setCell ⟨A + 1, 1, none⟩ (.int .i64 (a : Int))).setCell ⟨A + 1, 2, none⟩ (.int .i64 ((a : Int) + 1))).setCell ⟨A + 1, 3, none⟩ (.int .i64 (m : Int))).setCell ⟨A + 1, 4, none⟩ (.float .f64 0)).setCell ⟨A + 1, 5, none⟩ (.string ⟨#[]⟩) := ⟨_, rfl⟩
        rw [← hWF] at hbF hkF
        rw [hW1] at hWF
        have HWF := Lib.hid hWF; have HBF := Lib.hid hbF; have HKF := Lib.hid hkF
        clear hWF hbF hkF hW1 hb1 hk1
        go_wp2_with fail
        rw [← HWF.out]
        have f0 := HKF.out.cell 0; have f1 := HKF.out.cell 1; have f2 := HKF.out.cell 2; have f3 := HKF.out.cell 3; have f4 := HKF.out.cell 4; have f5 := HKF.out.cell 5
        simp at f0 f1 f2 f3 f4 f5
        refine bodyPost_ret (v := .tuple #[.agg #[.int .i64 2, .int .i64 (a : Int), .int .i64 ((a : Int) + 1), .int .i64 (m : Int), .float .f64 0, .string ⟨#[]⟩], .int .i64 0]) (by simp [results, Tryz.results106, go_sem, f0, f1, f2, f3, f4, f5]) rfl ?_
        exact ⟨rfl, HBF.out⟩
end Go.Proofs.YtjpdbhhjlnmacaaGreat
