/- Whether a value may be one: the whole tree. -/
import Derived.Test.YtaamihdibpioaaaGreatJkM8
import Derived.Deep.RegionHeld3
namespace Go.Proofs.YtaamihdibpioaaaGreat
set_option linter.unusedVariables false
open Go.RowKit

mutual
def Val.rightB : Val → Nat → Bool
  | .mk k n f s na ns xa xs, deep =>
    if 12 < deep then false
    else if k = 1 then bareB (.mk k n f s na ns xa xs) true false false false && (n / 2 == 0)
    else if k = 2 then bareB (.mk k n f s na ns xa xs) true false false false
    else if k = 3 then bareB (.mk k n f s na ns xa xs) false true false false
    else if k = 4 then bareB (.mk k n f s na ns xa xs) false false true false && decide (s.size ≤ 200)
    else if k = 5 then bareB (.mk k n f s na ns xa xs) false false false true && decide (ns.length = 0) && Val.rightAll xs (deep + 1)
    else if k = 6 then decide (ns.length = xs.length) && risingB ns && bareB (.mk k n f s na ns xa xs) false false false true && Val.rightAll xs (deep + 1)
    else false
def Val.rightAll : List Val → Nat → Bool
  | [], _ => true
  | x :: xs, deep => x.rightB deep && Val.rightAll xs deep
end
theorem Val.rightB_eq (v : Val) (deep : Nat) : v.rightB deep =
    if 12 < deep then false
    else if v.k = 1 then bareB v true false false false && (v.n / 2 == 0)
    else if v.k = 2 then bareB v true false false false
    else if v.k = 3 then bareB v false true false false
    else if v.k = 4 then bareB v false false true false && decide (v.s.size ≤ 200)
    else if v.k = 5 then bareB v false false false true && decide (v.ns.length = 0) && Val.rightAll v.xs (deep + 1)
    else if v.k = 6 then decide (v.ns.length = v.xs.length) && risingB v.ns && bareB v false false false true && Val.rightAll v.xs (deep + 1)
    else false := by
  cases v
  simp only [Val.rightB, Val.k, Val.n, Val.s, Val.ns, Val.xs]
  rfl

theorem NamesAt.of {w : World} {v : Val} (h : v.In w) : NamesAt w (v.na.val v.ns.length) v.ns := by
  have hx := ((Val.in_iff w v).1 h).2.1
  cases ha : v.na with
  | no =>
    rw [ha] at hx
    have : v.ns.length = 0 := by simpa [Sl.lies] using hx
    exact .none Option.none (by simp [Sl.val]) (by simpa using this)
  | odd a =>
    rw [ha] at hx
    have : v.ns.length = 0 := by simpa [Sl.lies] using hx
    exact .none (Option.some a) (by simp [Sl.val]) (by simpa using this)
  | at_ b o cap =>
    rw [ha] at hx
    refine .some b o cap rfl hx.1 hx.2.1 ?_ (fun i hl => ?_)
    · rcases Nat.eq_zero_or_pos v.ns.length with h0 | h0
      · exact .inl h0
      · exact .inr (hx.2.2 0 h0 0 (by omega)).2
    · have := (hx.2.2 i hl 0 (by omega)).1
      simp at this
      rw [this]
      simp [hl]
theorem NamesAt.drewN {w : World} {a : Value} {ns : List ByteArray} (h : NamesAt w a ns) (n : Nat) : NamesAt (w.drewN n) a ns := by
  rcases h with ⟨p, h1, h2⟩ | ⟨b, o, cap, h1, h2, h3, h5, h4⟩
  · exact .none p h1 h2
  · exact .some b o cap h1 h2 h3 h5 h4
theorem NamesAt.drew {w : World} {a : Value} {ns : List ByteArray} (h : NamesAt w a ns) : NamesAt w.drew a ns := by
  rcases h with ⟨p, h1, h2⟩ | ⟨b, o, cap, h1, h2, h3, h5, h4⟩
  · exact .none p h1 h2
  · exact .some b o cap h1 h2 h3 h5 h4

set_option maxHeartbeats 1000000 in
theorem right_deep (v : Val) (b o deep : Nat) (w : World) (hd : 12 < deep) : Calls Tryz.prog 145 #[.pointer (some ⟨b, o, none⟩), .int .i64 deep] w fun e w' => BoolBelow (v.rightB deep) w e w' := by
  have e : v.rightB deep = false := by rw [Val.rightB_eq, if_pos hd]
  have i1 : decide ((12 : Int) < (deep : Int)) = true := by simp; omega
  rw [e]
  clear e
  go_enter Tryz.func145, Tryz.ntmps145
  go_wp2
  go_ret
  exact ⟨rfl, Below.refl _ _⟩

set_option maxHeartbeats 2000000 in
theorem right_leaf (v : Val) (b o deep : Nat) (w : World) (hd : deep ≤ 12) (hp : PVal w b o v) (hk : v.k ≠ 5 ∧ v.k ≠ 6) : Calls Tryz.prog 145 #[.pointer (some ⟨b, o, none⟩), .int .i64 deep] w fun e w' => BoolBelow (v.rightB deep) w e w' := by
  have i1 : decide ((12 : Int) < (deep : Int)) = false := by simp; omega
  have e := Val.rightB_eq v deep
  rw [if_neg (by omega)] at e
  have c0 := hp.c0; have c1 := hp.c1; have c3 := hp.c3
  have HB := Lib.hid (fun bn bf bs br h => bare_any v b o w hp bn bf bs br h)
  have hso := hp.in.ok.2.2.2.1
  unfold strok at hso
  have hno := hp.in.ok.2.1
  unfold i64r at hno
  obtain ⟨hn1, hn2⟩ := hno
  obtain ⟨K, hK⟩ : ∃ K, K = v.k := ⟨_, rfl⟩
  obtain ⟨N, hN⟩ : ∃ N, N = v.n := ⟨_, rfl⟩
  obtain ⟨T, hT⟩ : ∃ T, T = v.s := ⟨_, rfl⟩
  rw [← hK] at c0 hk
  rw [← hN] at c1 hn1 hn2
  rw [← hT] at c3 hso
  rw [← hK, ← hN, ← hT] at e
  clear hK hN hT hp
  by_cases h1 : K = 1
  · subst h1
    rw [if_pos rfl] at e
    have HE := Lib.hid e
    clear e hk
    cases hb : bareB v true false false false with
    | false =>
      have HBB := Lib.hid (HB.out true false false false (.inl ⟨rfl, rfl, rfl, rfl⟩)); rw [hb] at HBB
      have HE2 : Hid (v.rightB deep = false) := Lib.hid (by rw [HE.out, hb]; rfl)
      clear hb HE HB
      go_enter Tryz.func145, Tryz.ntmps145
      go_wp2_with fail
      refine HBB.out.mono ?_
      rintro e w' ⟨rfl, rfl⟩
      go_wp2
      go_ret
      exact ⟨by rw [HE2.out]; rfl, Below.refl _ _⟩
    | true =>
      have HBB := Lib.hid (HB.out true false false false (.inl ⟨rfl, rfl, rfl, rfl⟩)); rw [hb] at HBB
      have HE2 : Hid (v.rightB deep = (N / 2 == 0)) := Lib.hid (by rw [HE.out, hb]; rfl)
      clear hb HE HB
      go_enter Tryz.func145, Tryz.ntmps145
      go_wp2_with fail
      refine HBB.out.mono ?_
      rintro e w' ⟨rfl, rfl⟩
      go_wp2
      go_ret
      exact ⟨by rw [HE2.out]; rfl, Below.refl _ _⟩
  · rw [if_neg h1] at e
    by_cases h2 : K = 2
    · subst h2
      rw [if_pos rfl] at e
      have HE := Lib.hid e
      have HBB := Lib.hid (HB.out true false false false (.inl ⟨rfl, rfl, rfl, rfl⟩))
      clear e hk h1 HB
      go_enter Tryz.func145, Tryz.ntmps145
      go_wp2_with fail
      refine HBB.out.mono ?_
      rintro e w' ⟨rfl, rfl⟩
      go_wp2
      go_ret
      exact ⟨by rw [HE.out]; rfl, Below.refl _ _⟩
    · rw [if_neg h2] at e
      by_cases h3 : K = 3
      · subst h3
        rw [if_pos rfl] at e
        have HE := Lib.hid e
        have HBB := Lib.hid (HB.out false true false false (.inr (.inl ⟨rfl, rfl, rfl, rfl⟩)))
        clear e hk h1 h2 HB
        go_enter Tryz.func145, Tryz.ntmps145
        go_wp2_with fail
        refine HBB.out.mono ?_
        rintro e w' ⟨rfl, rfl⟩
        go_wp2
        go_ret
        exact ⟨by rw [HE.out]; rfl, Below.refl _ _⟩
      · rw [if_neg h3] at e
        by_cases h4 : K = 4
        · subst h4
          rw [if_pos rfl] at e
          have HE := Lib.hid e
          clear e hk h1 h2 h3
          cases hb : bareB v false false true false with
          | false =>
            have HBB := Lib.hid (HB.out false false true false (.inr (.inr (.inl ⟨rfl, rfl, rfl, rfl⟩)))); rw [hb] at HBB
            have HE2 : Hid (v.rightB deep = false) := Lib.hid (by rw [HE.out, hb]; rfl)
            clear hb HE HB
            go_enter Tryz.func145, Tryz.ntmps145
            go_wp2_with fail
            refine HBB.out.mono ?_
            rintro e w' ⟨rfl, rfl⟩
            go_wp2
            go_ret
            exact ⟨by rw [HE2.out]; rfl, Below.refl _ _⟩
          | true =>
            have HBB := Lib.hid (HB.out false false true false (.inr (.inr (.inl ⟨rfl, rfl, rfl, rfl⟩)))); rw [hb] at HBB
            have HE2 : Hid (v.rightB deep = decide (T.size ≤ 200)) := Lib.hid (by rw [HE.out, hb]; rfl)
            clear hb HE HB
            go_enter Tryz.func145, Tryz.ntmps145
            go_wp2_with fail
            refine HBB.out.mono ?_
            rintro e w' ⟨rfl, rfl⟩
            go_wp2
            go_ret
            refine ⟨?_, Below.refl _ _⟩
            rw [HE2.out]
            refine ret_bool ?_
            by_cases hz : T.size ≤ 200 <;> simp [hz] <;> omega
        · rw [if_neg h4, if_neg hk.1, if_neg hk.2] at e
          have HE := Lib.hid e
          have j1 : (K == 1) = false := by simpa using h1
          have j2 : (K == 2) = false := by simpa using h2
          have j3 : (K == 3) = false := by simpa using h3
          have j4 : (K == 4) = false := by simpa using h4
          have j5 : (K == 5) = false := by simpa using hk.1
          have j6 : (K == 6) = false := by simpa using hk.2
          clear e hk h1 h2 h3 h4 HB
          go_enter Tryz.func145, Tryz.ntmps145
          go_wp2
          go_ret
          exact ⟨by rw [HE.out]; rfl, Below.refl _ _⟩





set_option maxHeartbeats 4000000 in
set_option maxRecDepth 100000 in
theorem right_list (v : Val) (b o deep : Nat) (w : World) (hd : deep ≤ 12) (hp : PVal w b o v) (hk : v.k = 5)
    (ih : ∀ x, x ∈ v.xs → ∀ (b o : Nat) (w : World), PVal w b o x → Calls Tryz.prog 145 #[.pointer (some ⟨b, o, none⟩), .int .i64 ((deep : Int) + 1)] w fun e w' => BoolBelow (x.rightB (deep + 1)) w e w') :
    Calls Tryz.prog 145 #[.pointer (some ⟨b, o, none⟩), .int .i64 deep] w fun e w' => BoolBelow (v.rightB deep) w e w' := by
  have i1 : decide ((12 : Int) < (deep : Int)) = false := by simp; omega
  have hdw : IntKind.i64.wrap ((deep : Int) + 1) = (deep : Int) + 1 := IntWalk.i64_in _ (by omega)
  have e := Val.rightB_eq v deep
  rw [if_neg (by omega), hk] at e
  simp only [show ((5 : Int) = 1) = False from by simp, show ((5 : Int) = 2) = False from by simp, show ((5 : Int) = 3) = False from by simp, show ((5 : Int) = 4) = False from by simp, if_false, if_true] at e
  have c0 := hp.c0; have c4 := hp.c4; have c5 := hp.c5
  rw [hk] at c0
  have HB5 := Lib.hid (fun (W : World) (h : PVal W b o v) => bare_any v b o W h false false false true (.inr (.inr (.inr ⟨rfl, rfl, rfl, rfl⟩))))
  have HIT := Lib.hid hp.in.items
  have HIH := Lib.hid ih
  obtain ⟨p4, q4, e4⟩ := hp.in.nslice
  obtain ⟨p5, q5, e5⟩ := hp.in.xslice
  have hnl := hp.in.ok.2.2.2.2.1
  have hxl := hp.in.ok.2.2.2.2.2.1
  rw [e4] at c4
  rw [e5] at c5
  obtain ⟨L, hL⟩ : ∃ L, L = v.ns.length := ⟨_, rfl⟩
  rw [← hL] at c4 hnl e
  have HL := Lib.hid hL
  have HP := Lib.hid hp
  have HE := Lib.hid e
  have E4 := Lib.hid e4
  clear hk ih e e4 e5 hp hL
  obtain ⟨M', hM'⟩ : ∃ M', M' = v.xs.length := ⟨_, rfl⟩
  rw [← hM'] at c5 hxl
  clear hM'
  cases hb : bareB v false false false true with
  | false =>
    have HBB := Lib.hid (HB5.out w HP.out); rw [hb] at HBB
    have HE2 : Hid (v.rightB deep = false) := Lib.hid (by rw [HE.out, hb]; simp)
    clear hb HE HB5
    go_enter Tryz.func145, Tryz.ntmps145
    go_wp2_with fail
    refine HBB.out.mono ?_
    rintro e w' ⟨rfl, rfl⟩
    go_wp2
    go_ret
    exact ⟨by rw [HE2.out]; rfl, Below.refl _ _⟩
  | true =>
    have HBB := Lib.hid (HB5.out w HP.out); rw [hb] at HBB
    by_cases h0 : L = 0
    · have HE3 : Hid (v.rightB deep = Val.rightAll v.xs (deep + 1)) := Lib.hid (by rw [HE.out, hb, h0]; simp)
      have j1 : decide ((0 : Int) < (L : Int)) = false := by simp; omega
      have j2 : decide (0 < L) = false := by simp; omega
      clear hb HE HB5 h0
      go_enter Tryz.func145, Tryz.ntmps145
      go_wp2_with fail
      refine HBB.out.mono ?_
      rintro e w' ⟨rfl, rfl⟩
      obtain ⟨WW, hWW⟩ : ∃ WW, WW = w := ⟨_, rfl⟩
      have HP2 := HP
      have HBW : Hid (Below w.heap.size w WW) := Lib.hid (by rw [hWW]; exact Below.refl _ _)
      rw [← hWW]
      rw [← hWW] at HP2 HIT c0 c4 c5
      clear hWW HBB HP
      clear c5
      rcases HIT.out with ⟨pz, x1, x2⟩ | ⟨xb, xo, cap, x1, x2, x3, x4⟩
      · have HE4 : Hid (v.rightB deep = true) := Lib.hid (by rw [HE3.out, x2]; simp [Val.rightAll])
        have d5 : WW.cell? ⟨b, o + 5, none⟩ = some (.slice pz 0 0) := by rw [HP2.out.c5, x1]
        clear x1 x2 HE3 HIH
        go_wp2_with fail
        go_loopw [90] (fun iv wr => iv = .int .i64 0 ∧ wr = WW) (fun _ _ => 0)
        case atStart => exact ⟨rfl, rfl⟩
        case round =>
          obtain ⟨rfl, rfl⟩ := hrel
          go_wp2
          go_ret
          exact ⟨by rw [HE4.out]; rfl, HBW.out⟩
      · have d5 : WW.cell? ⟨b, o + 5, none⟩ = some (.slice (some ⟨xb, xo, none⟩) v.xs.length cap) := by rw [HP2.out.c5, x1]
        obtain ⟨M, hM⟩ : ∃ M, M = v.xs.length := ⟨_, rfl⟩
        have hml := HP2.out.in.ok.2.2.2.2.2.1
        rw [← hM] at d5 x2 hml
        have HM := Lib.hid hM
        have HX4 := Lib.hid x4
        have hbW := HP2.out.2.1
        clear x1 hM x4
        go_wp2_with fail
        go_loopw [90] (fun iv wr => ∃ i : Nat, iv = .int .i64 (i : Int) ∧ i ≤ M ∧ Hid (Val.rightAll (v.xs.drop i) (deep + 1) = v.rightB deep) ∧ Hid (Below WW.heap.size WW wr)) (fun iv _ => M - (intOf iv).toNat)
        case atStart => exact ⟨0, rfl, by omega, Lib.hid (by rw [HE3.out]; rfl), Lib.hid (Below.refl _ _)⟩
        case round =>
          obtain ⟨i, rfl, hi, HR, HB⟩ := hrel
          have e5 : wr.cell? ⟨b, o + 5, none⟩ = some (.slice (some ⟨xb, xo, none⟩) M cap) := (HB.out.cell (p := ⟨b, o + 5, none⟩) hbW).trans d5
          by_cases hlt : i < M
          · have hil : i < v.xs.length := by rw [← HM.out]; exact hlt
            have hx := HX4.out i hil
            have hc := HIH.out (v.xs[i]'hil) (by simp) xb (xo + i * 6) wr (hx.below HB.out)
            have hdr := drop_cons hil
            cases hr : (v.xs[i]'hil).rightB (deep + 1) with
            | false =>
              rw [hr] at hc
              have HC := Lib.hid hc
              have HE4 : Hid (v.rightB deep = false) := Lib.hid (by rw [← HR.out, hdr]; simp [Val.rightAll, hr])
              clear hx hc hdr hr hil HR
              go_wp2_with fail
              refine HC.out.mono ?_
              rintro e w3 ⟨rfl, hb3⟩
              have HB3 := Lib.hid (HBW.out.trans ((HB.out.trans (hb3.mono HB.out.size)).mono HBW.out.size))
              clear hb3
              go_wp2
              go_ret
              exact ⟨by rw [HE4.out]; rfl, HB3.out⟩
            | true =>
              rw [hr] at hc
              have HC := Lib.hid hc
              have HR2 : Hid (Val.rightAll (v.xs.drop (i + 1)) (deep + 1) = v.rightB deep) := Lib.hid (by rw [← HR.out, hdr]; simp [Val.rightAll, hr])
              clear hx hc hdr hr hil HR
              go_wp2_with fail
              refine HC.out.mono ?_
              rintro e w3 ⟨rfl, hb3⟩
              have HB3 := Lib.hid (HB.out.trans (hb3.mono HB.out.size))
              clear hb3
              go_wp2
              go_roundw
              case rel => exact ⟨i + 1, by go_num, by omega, HR2, HB3⟩
              case measure => simp [intOf]; omega
          · have HE4 : Hid (v.rightB deep = true) := Lib.hid (by rw [← HR.out, List.drop_eq_nil_of_le (by rw [← HM.out]; omega)]; simp [Val.rightAll])
            have HB3 := Lib.hid (HBW.out.trans (HB.out.mono HBW.out.size))
            go_wp2
            go_ret
            exact ⟨by rw [HE4.out]; rfl, HB3.out⟩
    · have HE2 : Hid (v.rightB deep = false) := Lib.hid (by rw [HE.out, hb]; simp [h0])
      have j1 : decide ((0 : Int) < (L : Int)) = true := by simp; omega
      have j2 : decide (0 < L) = true := by simp; omega
      clear hb HE HB5 h0
      go_enter Tryz.func145, Tryz.ntmps145
      go_wp2_with fail
      refine HBB.out.mono ?_
      rintro e w' ⟨rfl, rfl⟩
      go_wp2
      go_ret
      exact ⟨by rw [HE2.out]; rfl, Below.refl _ _⟩

set_option maxHeartbeats 4000000 in
set_option maxRecDepth 100000 in
theorem right_rec (v : Val) (b o deep : Nat) (w : World) (hd : deep ≤ 12) (hp : PVal w b o v) (hk : v.k = 6)
    (ih : ∀ x, x ∈ v.xs → ∀ (b o : Nat) (w : World), PVal w b o x → Calls Tryz.prog 145 #[.pointer (some ⟨b, o, none⟩), .int .i64 ((deep : Int) + 1)] w fun e w' => BoolBelow (x.rightB (deep + 1)) w e w') :
    Calls Tryz.prog 145 #[.pointer (some ⟨b, o, none⟩), .int .i64 deep] w fun e w' => BoolBelow (v.rightB deep) w e w' := by
  have i1 : decide ((12 : Int) < (deep : Int)) = false := by simp; omega
  have hdw : IntKind.i64.wrap ((deep : Int) + 1) = (deep : Int) + 1 := IntWalk.i64_in _ (by omega)
  have e := Val.rightB_eq v deep
  rw [if_neg (by omega), hk] at e
  simp only [show ((6 : Int) = 1) = False from by simp, show ((6 : Int) = 2) = False from by simp, show ((6 : Int) = 3) = False from by simp, show ((6 : Int) = 4) = False from by simp, show ((6 : Int) = 5) = False from by simp, if_false, if_true] at e
  have c0 := hp.c0; have c4 := hp.c4; have c5 := hp.c5
  rw [hk] at c0
  have HB5 := Lib.hid (fun (W : World) (h : PVal W b o v) => bare_any v b o W h false false false true (.inr (.inr (.inr ⟨rfl, rfl, rfl, rfl⟩))))
  have HIT := Lib.hid hp.in.items
  have HIH := Lib.hid ih
  obtain ⟨p4, q4, e4⟩ := hp.in.nslice
  obtain ⟨p5, q5, e5⟩ := hp.in.xslice
  have hnl := hp.in.ok.2.2.2.2.1
  have hxl := hp.in.ok.2.2.2.2.2.1
  rw [e4] at c4
  rw [e5] at c5
  obtain ⟨L, hL⟩ : ∃ L, L = v.ns.length := ⟨_, rfl⟩
  rw [← hL] at c4 hnl e
  have HL := Lib.hid hL
  have HP := Lib.hid hp
  have HE := Lib.hid e
  have E4 := Lib.hid e4
  clear hk ih e e4 e5 hp hL
  have HNA := Lib.hid (NamesAt.of HP.out.in)
  have HNS := Lib.hid HP.out.in.ok.2.2.2.2.2.2
  obtain ⟨M', hM'⟩ : ∃ M', M' = v.xs.length := ⟨_, rfl⟩
  rw [← hM'] at c5 hxl
  rw [← hM'] at HE
  clear hM'
  by_cases hlm : L = M'
  · subst hlm
    have HRI := Lib.hid (rising_any (v.na.val v.ns.length) v.ns w.drew HNA.out.drew (by rw [← HL.out]; omega) HNS.out)
    rw [E4.out, ← HL.out] at HRI
    cases hr : risingB v.ns with
    | false =>
      rw [hr] at HRI
      have HE2 : Hid (v.rightB deep = false) := Lib.hid (by rw [HE.out, hr]; simp)
      clear hr HE HB5 HIT HIH
      go_enter Tryz.func145, Tryz.ntmps145
      go_wp2
      go_region_held3 (fun W => W.cell? ⟨b, o + 4, none⟩ = some (.slice p4 L q4) ∧ W.cell? ⟨b, o + 5, none⟩ = some (.slice p5 L q5)) (first | exact ⟨c4, c5⟩ | exact ⟨d4, d5⟩)
        (first
          | (go_at_call 174; refine HRI.out.mono ?_; rintro e w1 ⟨rfl, hb1⟩; have d4 := (hb1.cell (p := ⟨b, o + 4, none⟩) HP.out.2.1).trans c4; have d5 := (hb1.cell (p := ⟨b, o + 5, none⟩) HP.out.2.1).trans c5))
      have HBE := Lib.hid (((Below.refl w.heap.size w).drew).trans hb1)
      clear hb1
      go_wp2
      go_ret
      exact ⟨by rw [HE2.out]; rfl, HBE.out⟩
    | true =>
      rw [hr] at HRI
      have HE2 : Hid (v.rightB deep = (bareB v false false false true && Val.rightAll v.xs (deep + 1))) := Lib.hid (by rw [HE.out, hr]; simp)
      clear hr HE
      go_enter Tryz.func145, Tryz.ntmps145
      go_wp2
      go_region_held3 (fun W => W.cell? ⟨b, o + 4, none⟩ = some (.slice p4 L q4) ∧ W.cell? ⟨b, o + 5, none⟩ = some (.slice p5 L q5)) (first | exact ⟨c4, c5⟩ | exact ⟨d4, d5⟩)
        (first
          | (go_at_call 174; refine HRI.out.mono ?_; rintro e w1 ⟨rfl, hb1⟩; have d4 := (hb1.cell (p := ⟨b, o + 4, none⟩) HP.out.2.1).trans c4; have d5 := (hb1.cell (p := ⟨b, o + 5, none⟩) HP.out.2.1).trans c5))
      have hbe := ((Below.refl w.heap.size w).drew).trans hb1
      have HP2 := Lib.hid (HP.out.below hbe)
      have HIT := Lib.hid HP2.out.in.items
      have HBE := Lib.hid hbe
      have d0 := HP2.out.c0
      have HBB := Lib.hid (HB5.out w1 HP2.out)
      have hk6 : v.k = 6 := by have := HP.out.c0; rw [c0] at this; injection this with this; injection this with _ this; exact this.symm
      rw [hk6] at d0
      clear hb1 hbe hk6 HB5 d4 d5 c0 c4 c5
      cases hb : bareB v false false false true with
      | false =>
        rw [hb] at HBB
        have HE4 : Hid (v.rightB deep = false) := Lib.hid (by rw [HE2.out, hb]; simp)
        clear hb HE2 HIT HIH
        go_wp2_with fail
        refine HBB.out.mono ?_
        rintro e w' ⟨rfl, rfl⟩
        go_wp2
        go_ret
        exact ⟨by rw [HE4.out]; rfl, HBE.out⟩
      | true =>
        rw [hb] at HBB
        have HE3 : Hid (v.rightB deep = Val.rightAll v.xs (deep + 1)) := Lib.hid (by rw [HE2.out, hb]; simp)
        clear hb HE2
        go_wp2_with fail
        refine HBB.out.mono ?_
        rintro e WW ⟨rfl, rfl⟩
        have HBW := HBE
        clear HBB HRI
        obtain ⟨WW, hWW⟩ : ∃ WW, WW = w1 := ⟨_, rfl⟩
        rw [← hWW] at HP2 HIT HBW d0
        rw [← hWW]
        clear hWW
        rcases HIT.out with ⟨pz, x1, x2⟩ | ⟨xb, xo, cap, x1, x2, x3, x4⟩
        · have HE4 : Hid (v.rightB deep = true) := Lib.hid (by rw [HE3.out, x2]; simp [Val.rightAll])
          have d5 : WW.cell? ⟨b, o + 5, none⟩ = some (.slice pz 0 0) := by rw [HP2.out.c5, x1]
          clear x1 x2 HE3 HIH
          go_wp2_with fail
          go_loopw [90] (fun iv wr => iv = .int .i64 0 ∧ wr = WW) (fun _ _ => 0)
          case atStart => exact ⟨rfl, rfl⟩
          case round =>
            obtain ⟨rfl, rfl⟩ := hrel
            go_wp2
            go_ret
            exact ⟨by rw [HE4.out]; rfl, HBW.out⟩
        · have d5 : WW.cell? ⟨b, o + 5, none⟩ = some (.slice (some ⟨xb, xo, none⟩) v.xs.length cap) := by rw [HP2.out.c5, x1]
          obtain ⟨M, hM⟩ : ∃ M, M = v.xs.length := ⟨_, rfl⟩
          have hml := HP2.out.in.ok.2.2.2.2.2.1
          rw [← hM] at d5 x2 hml
          have HM := Lib.hid hM
          have HX4 := Lib.hid x4
          have hbW := HP2.out.2.1
          clear x1 hM x4
          go_wp2_with fail
          go_loopw [90] (fun iv wr => ∃ i : Nat, iv = .int .i64 (i : Int) ∧ i ≤ M ∧ Hid (Val.rightAll (v.xs.drop i) (deep + 1) = v.rightB deep) ∧ Hid (Below WW.heap.size WW wr)) (fun iv _ => M - (intOf iv).toNat)
          case atStart => exact ⟨0, rfl, by omega, Lib.hid (by rw [HE3.out]; rfl), Lib.hid (Below.refl _ _)⟩
          case round =>
            obtain ⟨i, rfl, hi, HR, HB⟩ := hrel
            have e5 : wr.cell? ⟨b, o + 5, none⟩ = some (.slice (some ⟨xb, xo, none⟩) M cap) := (HB.out.cell (p := ⟨b, o + 5, none⟩) hbW).trans d5
            by_cases hlt : i < M
            · have hil : i < v.xs.length := by rw [← HM.out]; exact hlt
              have hx := HX4.out i hil
              have hc := HIH.out (v.xs[i]'hil) (by simp) xb (xo + i * 6) wr (hx.below HB.out)
              have hdr := drop_cons hil
              cases hr : (v.xs[i]'hil).rightB (deep + 1) with
              | false =>
                rw [hr] at hc
                have HC := Lib.hid hc
                have HE4 : Hid (v.rightB deep = false) := Lib.hid (by rw [← HR.out, hdr]; simp [Val.rightAll, hr])
                clear hx hc hdr hr hil HR
                go_wp2_with fail
                refine HC.out.mono ?_
                rintro e w3 ⟨rfl, hb3⟩
                have HB3 := Lib.hid (HBW.out.trans ((HB.out.trans (hb3.mono HB.out.size)).mono HBW.out.size))
                clear hb3
                go_wp2
                go_ret
                exact ⟨by rw [HE4.out]; rfl, HB3.out⟩
              | true =>
                rw [hr] at hc
                have HC := Lib.hid hc
                have HR2 : Hid (Val.rightAll (v.xs.drop (i + 1)) (deep + 1) = v.rightB deep) := Lib.hid (by rw [← HR.out, hdr]; simp [Val.rightAll, hr])
                clear hx hc hdr hr hil HR
                go_wp2_with fail
                refine HC.out.mono ?_
                rintro e w3 ⟨rfl, hb3⟩
                have HB3 := Lib.hid (HB.out.trans (hb3.mono HB.out.size))
                clear hb3
                go_wp2
                go_roundw
                case rel => exact ⟨i + 1, by go_num, by omega, HR2, HB3⟩
                case measure => simp [intOf]; omega
            · have HE4 : Hid (v.rightB deep = true) := Lib.hid (by rw [← HR.out, List.drop_eq_nil_of_le (by rw [← HM.out]; omega)]; simp [Val.rightAll])
              have HB3 := Lib.hid (HBW.out.trans (HB.out.mono HBW.out.size))
              go_wp2
              go_ret
              exact ⟨by rw [HE4.out]; rfl, HB3.out⟩
  · have j1 : ((L : Int) != (M' : Int)) = true := by simp; omega
    have HE2 : Hid (v.rightB deep = false) := Lib.hid (by rw [HE.out]; simp [hlm])
    clear hlm HE HB5 HL
    go_enter Tryz.func145, Tryz.ntmps145
    go_wp2
    go_quiet (fail)
    go_wp2
    go_ret
    exact ⟨by rw [HE2.out]; rfl, below_drewN (Below.refl _ _) _⟩
end Go.Proofs.YtaamihdibpioaaaGreat
