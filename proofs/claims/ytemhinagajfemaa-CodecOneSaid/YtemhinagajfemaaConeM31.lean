/- How two rows of names stand to one another. -/
import Derived.Test.YtemhinagajfemaaConeM30
namespace Go.Proofs.Ytemhinagajfemaa
set_option linter.unusedVariables false
open Go.RowKit

def ncmp : List ByteArray → List ByteArray → Int
  | [], [] => 0
  | [], _ :: _ => -1
  | _ :: _, [] => 1
  | a :: l, b :: m => if scmp a b ≠ 0 then scmp a b else ncmp l m
theorem ncmp_nil (ms : List ByteArray) : ncmp [] ms = if 0 < ms.length then -1 else 0 := by cases ms <;> simp [ncmp]
theorem ncmp_one {ns : List ByteArray} (h : 0 < ns.length) : ncmp ns [] = 1 := by cases ns; simp at h; simp [ncmp]
theorem NamesAt.slice {w : World} {a : Value} {ns : List ByteArray} (h : NamesAt w a ns) : ∃ p c, a = .slice p ns.length c := by
  rcases h with ⟨p, rfl, rfl⟩ | ⟨b, o, cap, rfl, _⟩
  · exact ⟨p, 0, rfl⟩
  · exact ⟨_, _, rfl⟩

set_option maxHeartbeats 2000000 in
set_option maxRecDepth 100000 in
theorem ncmp_any (a b : Value) (ns ms : List ByteArray) (w : World) (ha : NamesAt w a ns) (hb : NamesAt w b ms) (hn : ns.length ≤ 8796093021952) (hm : ms.length ≤ 8796093021952) :
    Calls Try.prog 128 #[a, b] w fun e w' => e = .returned (.int .i64 (ncmp ns ms)) ∧ w = w' := by
  rcases ha with ⟨pz, rfl, rfl⟩ | ⟨ab, ao, ac, rfl, a2, a3, a5, a4⟩
  · obtain ⟨p, c, rfl⟩ := hb.slice
    have hz := ncmp_nil ms
    obtain ⟨M, hM⟩ : ∃ M, M = ms.length := ⟨_, rfl⟩
    rw [← hM] at hz hm
    rw [← hM]
    have HZ := Lib.hid hz
    clear hz hM hb
    by_cases h0 : 0 < M
    · have i1 : decide ((0 : Int) < (M : Int)) = true := by simp; omega
      have HZ2 : Hid (ncmp [] ms = -1) := Lib.hid (by rw [HZ.out, if_pos h0])
      go_enter Try.func128, Try.ntmps128
      go_wp2_with fail
      go_loopw [11] (fun iv wr => iv = .int .i64 0 ∧ wr = w) (fun _ _ => 0)
      case atStart => exact ⟨rfl, rfl⟩
      case round =>
        obtain ⟨rfl, rfl⟩ := hrel
        go_wp2
        go_ret
        exact ⟨by rw [HZ2.out]; rfl, rfl⟩
    · have i1 : decide ((0 : Int) < (M : Int)) = false := by simp; omega
      have HZ2 : Hid (ncmp [] ms = 0) := Lib.hid (by rw [HZ.out, if_neg h0])
      go_enter Try.func128, Try.ntmps128
      go_wp2_with fail
      go_loopw [11] (fun iv wr => iv = .int .i64 0 ∧ wr = w) (fun _ _ => 0)
      case atStart => exact ⟨rfl, rfl⟩
      case round =>
        obtain ⟨rfl, rfl⟩ := hrel
        go_wp2
        go_ret
        exact ⟨by rw [HZ2.out]; rfl, rfl⟩
  · obtain ⟨L, hL⟩ : ∃ L, L = ns.length := ⟨_, rfl⟩
    have A4 := Lib.hid a4
    rw [← hL] at a2 hn a5
    rw [← hL]
    have HL := Lib.hid hL
    clear a4 hL
    have hsl := hb.slice
    obtain ⟨p, c, rfl⟩ := hsl
    obtain ⟨M, hM⟩ : ∃ M, M = ms.length := ⟨_, rfl⟩
    have B4 : Hid (∀ i, i < M → ∃ bb bo, p = some ⟨bb, bo, none⟩ ∧ w.cell? ⟨bb, bo + i, none⟩ = some (.string (ms.getD i ByteArray.empty)) ∧ M ≤ c) := Lib.hid (by
      intro i hi
      rcases hb with ⟨pz, h1, h2⟩ | ⟨bb, bo, bc, h1, h2, h3, h5, h4⟩
      · rw [h2] at hM; simp at hM; omega
      · injection h1 with q1 q2 q3
        subst q1
        exact ⟨bb, bo, rfl, h4 i (by omega), by omega⟩)
    rw [← hM] at hm
    rw [← hM]
    have HM := Lib.hid hM
    clear hb hM
    go_enter Try.func128, Try.ntmps128
    go_wp2_with fail
    go_loopw [11] (fun iv wr => ∃ i : Nat, iv = .int .i64 (i : Int) ∧ i ≤ L ∧ i ≤ M ∧ Hid (ncmp (ns.drop i) (ms.drop i) = ncmp ns ms) ∧ wr = w) (fun iv _ => L - (intOf iv).toNat)
    case atStart => exact ⟨0, rfl, by omega, by omega, Lib.hid rfl, rfl⟩
    case round =>
      obtain ⟨i, rfl, hi, hi2, HR, rfl⟩ := hrel
      by_cases hlt : i < L
      · have hil : i < ns.length := by rw [← HL.out]; exact hlt
        have hcell := A4.out i hil
        obtain ⟨s, hs⟩ : ∃ s, s = ns.getD i ByteArray.empty := ⟨_, rfl⟩
        rw [← hs] at hcell
        have hdr := drop_cons hil
        have hsi : ns[i]'hil = s := by rw [hs]; simp [hil]
        by_cases hlt2 : i < M
        · obtain ⟨bb, bo, rfl, hc2, hMc⟩ := B4.out i hlt2
          have hil2 : i < ms.length := by rw [← HM.out]; exact hlt2
          obtain ⟨t, ht⟩ : ∃ t, t = ms.getD i ByteArray.empty := ⟨_, rfl⟩
          rw [← ht] at hc2
          have hdr2 := drop_cons hil2
          have hti : ms[i]'hil2 = t := by rw [ht]; simp [hil2]
          have hst : ncmp ns ms = if scmp s t ≠ 0 then scmp s t else ncmp (ns.drop (i + 1)) (ms.drop (i + 1)) := by
            rw [← HR.out, hdr, hdr2, hsi, hti]; rfl
          have i2 : decide ((M : Int) ≤ (i : Int)) = false := by simp; omega
          have i2' : decide (M ≤ i) = false := by simp; omega
          have HST := Lib.hid hst
          obtain ⟨c3, hc3⟩ : ∃ c3, c3 = scmp s t := ⟨_, rfl⟩
          have HC := Lib.hid (cmp_str s t wr)
          rw [← hc3] at HC HST
          clear hst hs ht hsi hti hdr hdr2 HR hil hil2 hc3
          by_cases h0 : c3 = 0
          · have HR2 : Hid (ncmp (ns.drop (i + 1)) (ms.drop (i + 1)) = ncmp ns ms) := Lib.hid (by rw [HST.out, if_neg (by simp [h0])])
            subst h0
            go_wp2_with fail
            refine HC.out.mono ?_
            rintro e w' ⟨rfl, rfl⟩
            go_wp2
            go_roundw
            case rel => exact ⟨i + 1, by go_num, by omega, by omega, HR2, trivial⟩
            case measure => simp [intOf]; omega
          · have HR2 : Hid (ncmp ns ms = c3) := Lib.hid (by rw [HST.out, if_pos h0])
            have i3 : (c3 == 0) = false := by simpa using h0
            have i4 : (c3 != 0) = true := by simpa using h0
            clear h0 HST
            go_wp2_with fail
            refine HC.out.mono ?_
            rintro e w' ⟨rfl, rfl⟩
            go_wp2
            go_ret
            exact ⟨by rw [HR2.out]; rfl, rfl⟩
        · have HR2 : Hid (ncmp ns ms = 1) := Lib.hid (by
            rw [← HR.out, List.drop_eq_nil_of_le (show ms.length ≤ i by rw [← HM.out]; omega)]
            exact ncmp_one (by simp; omega))
          have i2 : decide ((M : Int) ≤ (i : Int)) = true := by simp; omega
          have i2' : decide (M ≤ i) = true := by simp; omega
          clear hs hsi hdr HR hil
          go_wp2
          go_ret
          exact ⟨by rw [HR2.out]; rfl, rfl⟩
      · have hz := ncmp_nil (ms.drop i)
        rw [← List.drop_eq_nil_of_le (show ns.length ≤ i by rw [← HL.out]; omega), HR.out] at hz
        by_cases h0 : i < M
        · have HZ2 : Hid (ncmp ns ms = -1) := Lib.hid (by rw [hz, if_pos (by simp; rw [← HM.out]; omega)])
          have i1 : decide ((L : Int) < (M : Int)) = true := by simp; omega
          have i1' : decide (L < M) = true := by simp; omega
          clear hz
          go_wp2
          go_ret
          exact ⟨by rw [HZ2.out]; rfl, rfl⟩
        · have HZ2 : Hid (ncmp ns ms = 0) := Lib.hid (by rw [hz, if_neg (by simp; rw [← HM.out]; omega)])
          have i1 : decide ((L : Int) < (M : Int)) = false := by simp; omega
          have i1' : decide (L < M) = false := by simp; omega
          clear hz
          go_wp2
          go_ret
          exact ⟨by rw [HZ2.out]; rfl, rfl⟩
end Go.Proofs.Ytemhinagajfemaa

/- How two values of one kind stand to one another, but for their items. -/
namespace Go.Proofs.Ytemhinagajfemaa
set_option linter.unusedVariables false
open Go.RowKit

def Val.row (v u : Val) : Int :=
  if v.k = 1 ∨ v.k = 2 then sgnI v.n u.n else if v.k = 3 then ford v.f u.f else if v.k = 4 then Lib.compareBytes v.s.data.toList u.s.data.toList else if v.k = 6 then ncmp v.ns u.ns else 0
def RowOut (c : Int) (w : World) (e : Ending) (w' : World) : Prop := e = .returned (.int .i64 c) ∧ ∃ n, w' = w.drewN n

set_option maxHeartbeats 4000000 in
set_option maxRecDepth 100000 in
theorem row_any (v u : Val) (b o b' o' : Nat) (w : World) (hv : PVal w b o v) (hu : PVal w b' o' u) (hk : 1 ≤ v.k ∧ v.k ≤ 6) :
    Calls Try.prog 119 #[.pointer (some ⟨b, o, none⟩), .pointer (some ⟨b', o', none⟩)] w fun e w' => RowOut (v.row u) w e w' := by
  have c0 := hv.c0
  obtain ⟨K, hK⟩ : ∃ K, K = v.k := ⟨_, rfl⟩
  have hr : v.row u = if K = 1 ∨ K = 2 then sgnI v.n u.n else if K = 3 then ford v.f u.f else if K = 4 then Lib.compareBytes v.s.data.toList u.s.data.toList else if K = 6 then ncmp v.ns u.ns else 0 := by rw [hK]; rfl
  rw [← hK] at c0 hk
  have hcases : K = 1 ∨ K = 2 ∨ K = 3 ∨ K = 4 ∨ K = 5 ∨ K = 6 := by omega
  clear hK hk
  rcases hcases with rfl | rfl | rfl | rfl | rfl | rfl
  · have c1 := hv.c1; have d1 := hu.c1
    have HR : Hid (v.row u = sgnI v.n u.n) := Lib.hid (by rw [hr]; rfl)
    clear hr hv hu
    go_enter Try.func119, Try.ntmps119
    go_wp2
    go_quiet ((go_at_call 126; exact quiet_left (cmp_int64 _ _ _)))
    go_wp2
    go_ret
    exact ⟨by rw [HR.out]; rfl, nq, rfl⟩
  · have c1 := hv.c1; have d1 := hu.c1
    have HR : Hid (v.row u = sgnI v.n u.n) := Lib.hid (by rw [hr]; rfl)
    clear hr hv hu
    go_enter Try.func119, Try.ntmps119
    go_wp2
    go_quiet ((go_at_call 126; exact quiet_left (cmp_int64 _ _ _)))
    go_wp2
    go_ret
    exact ⟨by rw [HR.out]; rfl, nq, rfl⟩
  · have c2 := hv.c2; have d2 := hu.c2
    have h1 := hv.in.ok.2.2.1; have h2 := hu.in.ok.2.2.1
    have HR : Hid (v.row u = ford v.f u.f) := Lib.hid (by rw [hr]; rfl)
    clear hr hv hu
    have HF := fun W : World => forder_any v.f u.f W h1 h2
    have HF' := Lib.hid HF
    clear HF h1 h2
    go_enter Try.func119, Try.ntmps119
    go_wp2
    go_quiet ((go_at_call 123; exact quiet_left (HF'.out _)))
    go_wp2
    go_ret
    exact ⟨by rw [HR.out]; rfl, nq, rfl⟩
  · have c3 := hv.c3; have d3 := hu.c3
    have HR : Hid (v.row u = Lib.compareBytes v.s.data.toList u.s.data.toList) := Lib.hid (by rw [hr]; rfl)
    clear hr hv hu
    go_enter Try.func119, Try.ntmps119
    go_wp2
    go_quiet ((go_at_call 127; exact quiet_left (strcmp_any _ _ _)))
    go_wp2
    go_ret
    exact ⟨by rw [HR.out]; rfl, nq, rfl⟩
  · have HR : Hid (v.row u = 0) := Lib.hid (by rw [hr]; rfl)
    clear hr hv hu
    go_enter Try.func119, Try.ntmps119
    go_wp2
    go_ret
    exact ⟨by rw [HR.out]; rfl, 0, rfl⟩
  · have c4 := hv.c4; have d4 := hu.c4
    have n1 := hv.in.ok.2.2.2.2.1; have n2 := hu.in.ok.2.2.2.2.1
    have HR : Hid (v.row u = ncmp v.ns u.ns) := Lib.hid (by rw [hr]; rfl)
    have HN := fun (k : Nat) => ncmp_any _ _ v.ns u.ns (w.drewN k) ((NamesAt.of hv.in).drewN k) ((NamesAt.of hu.in).drewN k) n1 n2
    obtain ⟨p4, q4, e4⟩ := hv.in.nslice
    obtain ⟨p5, q5, e5⟩ := hu.in.nslice
    rw [e4] at c4 HN
    rw [e5] at d4 HN
    have HN' := Lib.hid HN
    clear hr hv hu HN n1 n2 e4 e5
    go_enter Try.func119, Try.ntmps119
    go_wp2
    go_quiet ((go_at_call 128; exact quiet_left (HN'.out _)))
    go_wp2
    go_ret
    exact ⟨by rw [HR.out]; rfl, nq, rfl⟩
end Go.Proofs.Ytemhinagajfemaa
