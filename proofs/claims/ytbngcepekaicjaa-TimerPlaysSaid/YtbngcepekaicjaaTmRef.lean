/- The reference of layer 19: pairs in order, in a slice. -/
import Derived.Test.YtbngcepekaicjaaTmOnceP
import Derived.ArgAppend
namespace Go.Proofs.Ytbngcepekaicjaa
set_option linter.unusedVariables false
open Go.RowKit

/-- The reference's wheel at r holds L. -/
def RefW (w : World) (r : Nat) (L : List Wt) : Prop := ∃ sv, Blk w r 45 #[sv] ∧ PairsAt w 0 sv L
section
variable {w w' : World} {r : Nat} {L : List Wt} {B : Nat} {sv : Value}
theorem PairsAt.mono (h : PairsAt w B sv L) : PairsAt w 0 sv L := by
  refine ⟨h.1, ?_⟩
  rcases h.2 with h0 | ⟨b, cap, cur, e, hb, hg, hr⟩
  · exact .inl h0
  · exact .inr ⟨b, cap, cur, e, Nat.zero_le _, hg, hr⟩
theorem RefW.lt (h : RefW w r L) : r < w.heap.size := by
  obtain ⟨sv, h1, _⟩ := h
  exact h1.lt
theorem PairsAt.only (h : PairsAt w B sv L) {t : TypeId} {cs : Array Value} (hr : Blk w r t cs) (ht : t ≠ 36) (ho : Only w w' r) : PairsAt w' B sv L :=
  World.ownsRow.kept h ho (by
    rcases h.2 with ⟨rfl, _⟩ | ⟨b, cap, cur, rfl, hb, hg, _⟩
    · exact .inl rfl
    · refine .inr fun e => ?_
      injection e with e
      have e' : b = r := e
      subst e'
      exact absurd rfl (Blk.ne_ hr hg ht))
theorem RefW.below (h : RefW w r L) (hb : Below w.heap.size w w') : RefW w' r L := by
  obtain ⟨sv, h1, h2⟩ := h
  exact ⟨sv, h1.below hb h1.lt, h2.below hb⟩
theorem RefW.grown {B2 size n : Nat} {e : TypeId} {v : Value} {xs : List Value} (h : RefW w r L) (ho : w.ownsRow B2 e size v n xs) (hg : w.grownBy w' v.ownBlock) (h1 : e ≠ 45) (h2 : e ≠ 36) : RefW w' r L := by
  obtain ⟨sv, hb, hp⟩ := h
  refine ⟨sv, hb.grown hg (own_ne ho hb h1), World.ownsRow.kept hp hg ?_⟩
  rcases hv : sv.ownBlock with _ | k
  · exact .inl rfl
  · exact .inr (own_own_ne hp ho (fun e => h2 e.symm) k hv)
end
theorem own_lt' {w : World} {base n size k : Nat} {e : TypeId} {v : Value} {xs : List Value} (h : w.ownsRow base e size v n xs) (hk : v.ownBlock = some k) : k < w.heap.size := by
  rcases h.2 with ⟨rfl, _⟩ | ⟨g, cap, cur, rfl, hb, hg, _⟩
  · simp [Value.ownBlock] at hk
  · simp [Value.ownBlock] at hk
    rw [← hk]
    exact Blk.lt hg
theorem own_cap {w : World} {base n cap m size : Nat} {A : Option Addr} {e : TypeId} {xs : List Value} (h : w.ownsRow base e size (.slice A n cap) m xs) (hm : 0 < m) : m ≤ cap := by
  rcases h.2 with ⟨_, h0⟩ | ⟨g, cap', cur, hv, hb, hg, hc, _⟩
  · omega
  · injection hv with _ _ hv
    omega
theorem row_below {w w' : World} {B e size k : Nat} {sv : Value} {xs : List Value} (h : w.ownsRow B e size sv k xs) (hb : Below w.heap.size w w') : w'.ownsRow B e size sv k xs :=
  World.ownsRow.kept (row := none) h ⟨hb.os, hb.tape, hb.output, hb.size, fun k hk _ => hb.block k hk⟩ (by
    rcases hv : sv.ownBlock with _ | k
    · exact .inl rfl
    · exact .inr (by simp))
def BeforeOut (x y : Wt) (w : World) (e : Ending) (w' : World) : Prop := e = .returned (.bool (decide (ltW x y))) ∧ Below w.heap.size w w'
set_option maxRecDepth 100000 in
theorem before_any (x y : Wt) (w : World) : Calls Try.prog 29 #[.agg #[.int .i64 x.1, .int .i64 x.2], .agg #[.int .i64 y.1, .int .i64 y.2]] w fun e w' => BeforeOut x y w e w' := by
  unfold BeforeOut
  have hlt : decide (ltW x y) = (decide (x.2 < y.2) || ((x.2 == y.2) && decide (x.1 < y.1))) := by
    rw [Bool.eq_iff_iff, decide_eq_true_iff]; simp [ltW]
  rw [hlt]
  have hb := ((Below.refl w.heap.size w).alloc (Nat.le_refl _) (.cells #[.int .i64 x.1, .int .i64 x.2] 36)).alloc (by simp) (.cells #[.int .i64 y.1, .int .i64 y.2] 36)
  have HB := Lib.hid hb
  clear hb hlt
  by_cases h1 : x.2 < y.2
  · have d1 : decide (x.2 < y.2) = true := by simpa using h1
    clear h1
    rw [d1]
    go_enter Try.func29, Try.ntmps29
    go_wp2
    go_ret
    exact ⟨rfl, HB.out⟩
  · have d1 : decide (x.2 < y.2) = false := by simpa using h1
    by_cases h2 : x.2 = y.2
    · have d2 : (x.2 == y.2) = true := by simpa using h2
      rw [d1, d2]
      clear h1 h2
      go_enter Try.func29, Try.ntmps29
      go_wp2
      go_ret
      exact ⟨by simp, HB.out⟩
    · have d2 : (x.2 == y.2) = false := by simpa using h2
      rw [d1, d2]
      clear h1 h2
      go_enter Try.func29, Try.ntmps29
      go_wp2
      go_ret
      exact ⟨rfl, HB.out⟩
def RDueRel (r : Nat) (L : List Wt) (now : Int) (w : World) (sv : Value) (wr : World) : Prop := ∃ P M, L = P ++ M ∧ (∀ x, x ∈ P → x.2 ≤ now) ∧ RefW wr r M ∧ Only w wr r ∧ IntsAt wr w.heap.size sv (P.map (·.1))
def RDueOut (r : Nat) (L : List Wt) (now : Int) (w : World) (e : Ending) (w' : World) : Prop := ∃ sv, e = .returned sv ∧ IntsAt w' w.heap.size sv (dueO L now) ∧ RefW w' r (dueL L now) ∧ Only w w' r
theorem refLen {w : World} {r : Nat} {L : List Wt} (h : RefW w r L) : whLen w r = L.length := by
  obtain ⟨sv, h1, h2⟩ := h
  obtain ⟨A, c, rfl⟩ := h2.form
  have := h1.cell 0
  simp at this
  simp [whLen, this]
set_option maxHeartbeats 1000000 in
set_option maxRecDepth 100000 in
theorem ref_due (r : Nat) (L : List Wt) (now : Int) (w : World) (h : RefW w r L) (hl : L.length ≤ 200) : Calls Try.prog 18 #[.pointer (some ⟨r, 0, none⟩), .int .i64 now] w fun e w' => RDueOut r L now w e w' := by
  obtain ⟨i0, hi, hz0, hz1, hz2⟩ := info_parts int_facts
  obtain ⟨j0, hj, hy0, hy1, hy2⟩ := info_parts pair_facts
  have HW := Lib.hid h
  have HI := Lib.hid hi; have HZ0 := Lib.hid hz0; have HZ1 := Lib.hid hz1; have HZ2 := Lib.hid hz2
  have HJ := Lib.hid hj; have HY0 := Lib.hid hy0; have HY1 := Lib.hid hy1; have HY2 := Lib.hid hy2
  clear h hi hz0 hz1 hz2 hj hy0 hy1 hy2
  go_enter Try.func18, Try.ntmps18
  go_wp2
  go_loopw [5] (fun sv wr => RDueRel r L now w sv wr) (fun _ wr => whLen wr r)
  case atStart => exact ⟨[], L, rfl, fun x hx => by simp at hx, HW.out, .refl _ _, World.ownsRow_nil _ _ _ _⟩
  case round =>
    obtain ⟨P, M, hL, hP, hwr, ho, hown⟩ := hrel
    have hPM : P.length + M.length ≤ 200 := by rw [hL, List.length_append] at hl; exact hl
    have hml := refLen hwr
    obtain ⟨sv, hb, hp⟩ := hwr
    obtain ⟨A, cap, rfl⟩ := hp.form
    have cg := hb.cell 0
    simp only [List.getElem?_toArray, List.getElem?_cons_zero] at cg
    have hrlt := hb.lt
    have hrf := hb.frozen 0
    obtain ⟨A', cap', e', hrd⟩ := hp.rd
    have hA : A = A' := by injection e'
    subst hA
    clear e'
    obtain ⟨pl, hpl⟩ : ∃ pl, pl = (P.map (·.1)).length := ⟨_, rfl⟩
    have hpl2 : pl = P.length := by rw [hpl, List.length_map]
    obtain ⟨Ao, co, rfl⟩ := hown.form
    have HOWN : Hid (wr.ownsRow w.heap.size 3 1 (.slice Ao pl co) pl ((P.map (·.1)).map (Value.int .i64))) := Lib.hid (by rw [hpl]; exact hown)
    rw [← hpl]
    have hpl200 : pl + M.length ≤ 200 := by omega
    cases M with
    | nil =>
      have hds := due_split hP (.inl rfl)
      have HX := Lib.hid (show IntsAt wr w.heap.size (.slice Ao pl co) (dueO L now) ∧ RefW wr r (dueL L now) ∧ Only w wr r from ⟨by rw [hL, hds.1, hpl]; exact hown, by rw [hL, hds.2]; exact ⟨_, hb, hp⟩, ho⟩)
      clear hL hP ho hown hds hb hp hrd hpl hpl2 hml HOWN
      go_wp2
      go_ret
      exact ⟨_, rfl, HX.out⟩
    | cons x M =>
      obtain ⟨b, o, rfl, hbl, c0, c1⟩ := hrd 0 (by simp)
      simp only [Nat.zero_mul, Nat.add_zero] at c0 c1
      rw [show gW (x :: M) 0 = x from rfl] at c0 c1
      obtain ⟨n, hn⟩ : ∃ n, n = M.length := ⟨_, rfl⟩
      have hnn : (x :: M).length = n + 1 := by rw [hn]; rfl
      rw [hnn] at cg
      have hn200 : n ≤ 200 := by rw [hn]; simp at hPM; omega
      by_cases hx : x.2 ≤ now
      · have hd : decide (x.2 ≤ now) = true := by simpa using hx
        have hW1 := (show RefW wr r (x :: M) from ⟨_, hb, hp⟩).below ((Below.refl wr.heap.size wr).alloc (Nat.le_refl _) (.cells #[.int .i64 x.1] 3))
        have HX := Lib.hid (show L = P ++ x :: M ∧ (∀ y, y ∈ P → y.2 ≤ now) ∧ x.2 ≤ now ∧ Only w wr r ∧ wr.ownsRow 0 36 2 (.slice (some ⟨b, o, none⟩) (n + 1) cap) (n + 1) (wc (x :: M)) from ⟨hL, hP, hx, ho, by unfold PairsAt at hp; rw [hnn] at hp; exact hp⟩)
        have HB := Lib.hid hb; have HN := Lib.hid hn; have HPL := Lib.hid hpl
        have HSZ := Lib.hid ho.size
        have HO := Lib.hid ho
        have hcapn : n + 1 ≤ cap := by have := own_cap hp (by simp); rw [hnn] at this; exact this
        have HML := Lib.hid hml
        clear hL hP ho hown hb hp hrd hpl hml hx hW1 hn hl hpl2
        rw [hnn] at HB
        clear hnn
        have hnx : (0 : Int) < (n : Int) + 1 := by omega
        go_wp2_with (at_builtin; refine wpList_append_own _ rfl (.tmp 23) (.tmp 31) 22 rfl w.heap.size 3 i0 (.int .i64 0) 1 8 Try.underlying22 HI.out HZ0.out HZ1.out HZ2.out rfl (by decide) _ pl _ rfl (HOWN.out.alloc _) ⟨wr.heap.size, 0, none⟩ 1 1 [.int .i64 x.1] rfl rfl (cell_one_new _ _ _) ?c1 ?c2 ?c3 ?c4 ?_)
        case c1 => intro u hu; simp at hu; rw [hu]; rfl
        case c2 => unfold maxLen; omega
        case c3 => omega
        case c4 => have := HSZ.out; simp; omega
        intro sv2 w2 hown2 hgrow hnil
        have hb2 := (HB.out.alloc (.cells #[.int .i64 x.1] 3)).grown hgrow (own_ne (HOWN.out.alloc _) (HB.out.alloc (.cells #[.int .i64 x.1] 3)) (by decide))
        have hp2 : w2.ownsRow 0 36 2 (.slice (some ⟨b, o, none⟩) (n + 1) cap) (n + 1) (wc (x :: M)) := World.ownsRow.kept (HX.out.2.2.2.2.alloc (.cells #[.int .i64 x.1] 3)) hgrow (.inr (own_own_ne (HX.out.2.2.2.2.alloc (.cells #[.int .i64 x.1] 3)) (HOWN.out.alloc _) (by decide) _ rfl))
        have ho2 : Only w w2 r := ⟨(hgrow.os.trans rfl).trans HO.out.os, (hgrow.tape.trans rfl).trans HO.out.tape, (hgrow.output.trans rfl).trans HO.out.output, by have := hgrow.size; rw [World.size_alloc] at this; have := HSZ.out; omega, fun i hi hne => (hgrow.block i (by have := HSZ.out; simp; omega) (fun e => by have := own_ge HOWN.out e.symm; omega)).trans ((Below.heap_alloc _ _ _ (by have := HSZ.out; omega)).trans (HO.out.block i hi hne))⟩
        have cg2 := hb2.cell 0
        simp only [List.getElem?_toArray, List.getElem?_cons_zero] at cg2
        have hrf2 := hb2.frozen 0
        have hrlt2 := hb2.lt
        have HB2 := Lib.hid hb2; have HP2 := Lib.hid hp2; have HOWN2 := Lib.hid hown2
        clear hb2 hp2 hown2 hgrow hnil cg c0 c1 hrf
        have HRa := Lib.hid (show n = 0 → ∀ ad, Reads (w2.alloc (.cells #[] 36)) w2.heap.size 2 ad 0 (wc M) from fun e ad => ⟨by rw [wc_len, ← HN.out, e], fun h => absurd h (by omega)⟩)
        have HRb := Lib.hid (show Reads (w2.alloc (.cells #[] 36)) w2.heap.size 2 (some ⟨b, o + 2, none⟩) n (wc M) from ⟨by rw [wc_len, ← HN.out]; omega, fun h => ⟨_, rfl, own_lt' HP2.out rfl, fun j u hu => by
          obtain ⟨g', cp', hv', _, _⟩ := HP2.out.form (by omega)
          injection hv' with hv'
          injection hv' with hv'
          injection hv' with e1 e2
          subst e1 e2
          have hw : (wc (x :: M))[j + 2]? = some u := hu
          have := (HP2.out.alloc (.cells #[] 36)).cells (g := b) rfl (j + 2) u hw
          rw [Addr.add_lit] at this ⊢
          rw [← this]
          congr 2
          omega⟩⟩)
        have HO3 := Lib.hid (World.ownsRow_made (e := 36) (size := 2) w2 #[] 0 (Nat.le_refl _) (by unfold maxLen; omega) rfl)
        have HO2 := Lib.hid ho2
        have hzz := HSZ.out
        have hrne : r ≠ w2.heap.size := by omega
        clear ho2
        have hcase : (cap = 1 ∧ n = 0) ∨ cap ≠ 1 := by omega
        rcases hcase with ⟨rfl, rfl⟩ | hc1
        all_goals
          go_wp2_with (at_builtin; refine wpList_append_any _ rfl (.tmp 34) (.tmp 39) 33 rfl w2.heap.size 36 j0 (.agg #[.int .i64 0, .int .i64 0]) 2 16 Try.underlying33 HJ.out HY0.out HY1.out HY2.out rfl (by decide) _ 0 [] rfl HO3.out w2.heap.size _ _ _ (wc M) rfl (by first | exact HRb.out | exact HRa.out rfl _) (wc_one1 M) (by unfold maxLen; omega) (by omega) (by simp) ?_)
          intro v3 w3 hown3 hgrow3 hloc3
          have hp3 : PairsAt w3 w2.heap.size v3 M := by
            unfold PairsAt
            rw [← HN.out]
            simpa using hown3
          obtain ⟨A3, k3, rfl⟩ := hp3.form
          have hb3 := ((HB2.out.alloc (.cells #[] 36)).grown hgrow3 (fun e => by injection e with e; exact hrne e))
          have ho3 : Only w w3 r := ⟨(hgrow3.os.trans rfl).trans HO2.out.os, (hgrow3.tape.trans rfl).trans HO2.out.tape, (hgrow3.output.trans rfl).trans HO2.out.output, by have := hgrow3.size; rw [World.size_alloc] at this; have := HO2.out.size; omega, fun i hi hne => (hgrow3.block i (by have := HO2.out.size; simp; omega) (fun e => by injection e with e; have := HO2.out.size; have e' : i = w2.heap.size := e; omega)).trans ((Below.heap_alloc _ _ _ (by have := HO2.out.size; omega)).trans (HO2.out.block i hi hne))⟩
          have hi3 : IntsAt w3 w.heap.size sv2 ((P ++ [x]).map (·.1)) := by
            have h1 := row_below HOWN2.out ((Below.refl _ _).alloc (Nat.le_refl _) (.cells #[] 36))
            have h2 := World.ownsRow.kept h1 hgrow3 (by
              rcases hv : sv2.ownBlock with _ | k
              · exact .inl rfl
              · refine .inr fun e => ?_
                have := own_lt' HOWN2.out hv
                injection e with e
                have e' : k = w2.heap.size := e
                omega)
            unfold IntsAt
            rw [List.map_append, List.map_append, List.length_append, ← HPL.out, List.map_map]
            exact h2
          have f3 := hb3.frozen 0
          have c3 := hb3.cell 0
          have l3 := hb3.lt
          simp only [List.getElem?_toArray, List.getElem?_cons_zero] at c3
          have HB3 := Lib.hid hb3; have HP3 := Lib.hid hp3; have HO3' := Lib.hid ho3; have HI3 := Lib.hid hi3
          clear hb3 hgrow3 hown3 hloc3 cg2 hrf2 hp3 ho3 hi3
          go_wp2
          have hW : RefW (w3.setCell ⟨r, 0, none⟩ (.slice A3 M.length k3)) r M := ⟨_, HB3.out.set_ 0 _, (HP3.out.mono).only HB3.out (by decide) ((Only.refl w3 r).set_ (.inl rfl) _)⟩
          have hlen2 := refLen hW
          have HE := Lib.hid (show RDueRel r L now w sv2 (w3.setCell ⟨r, 0, none⟩ (.slice A3 M.length k3)) from
            ⟨P ++ [x], M, by rw [HX.out.1]; simp, fun y hy => by
              rcases List.mem_append.1 hy with h | h
              · exact HX.out.2.1 y h
              · rw [List.mem_singleton.1 h]; exact HX.out.2.2.1, hW, HO3'.out.set_ (.inl rfl) _, World.ownsRow.kept HI3.out ((Only.refl w3 r).set_ (.inl rfl) _) (by
              rcases hv : sv2.ownBlock with _ | k
              · exact .inl rfl
              · refine .inr fun e => ?_
                injection e with e
                subst e
                exact absurd rfl (own_ne HI3.out HB3.out (by decide) |> fun h => by rw [hv] at h; exact h)
              )⟩)
          refine ⟨HE.out, ?_⟩
          rw [hlen2, HML.out]
          simp
      · have hds := due_split hP (.inr ⟨x, M, rfl, by omega⟩)
        have HX := Lib.hid (show IntsAt wr w.heap.size (.slice Ao pl co) (dueO L now) ∧ RefW wr r (dueL L now) ∧ Only w wr r from ⟨by rw [hL, hds.1, hpl]; exact hown, by rw [hL, hds.2]; exact ⟨_, hb, hp⟩, ho⟩)
        have hd : decide (x.2 ≤ now) = false := by simpa using hx
        clear hL hP ho hown hds hb hp hrd hpl hpl2 hml HOWN hn hnn hx
        go_wp2
        go_ret
        exact ⟨_, rfl, HX.out⟩
end Go.Proofs.Ytbngcepekaicjaa
