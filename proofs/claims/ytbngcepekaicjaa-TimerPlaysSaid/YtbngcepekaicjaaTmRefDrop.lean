/- The reference of layer 19: Drop. -/
import Derived.Test.YtbngcepekaicjaaTmRef
import Derived.Deep.RegionLaw
namespace Go.Proofs.Ytbngcepekaicjaa
set_option linter.unusedVariables false
open Go.RowKit

def RefOut (r : Nat) (L' : List Wt) (v : Value) (w : World) (e : Ending) (w' : World) : Prop := e = .returned v ∧ RefW w' r L' ∧ Only w w' r
theorem dropL_at {L : List Wt} {i : Nat} {id : Int} (hn : (L.map (·.1)).Nodup) (hi : i < L.length) (he : (gW L i).1 = id) : dropL L id = L.take i ++ L.drop (i + 1) := by
  have hs : L = L.take i ++ gW L i :: L.drop (i + 1) := by
    rw [gW_eq hi, ← List.drop_eq_getElem_cons hi, List.take_append_drop]
  have hg : ∀ M : List Wt, (∀ y, y ∈ M → y.1 ≠ id) → M.filter (fun x => x.1 != id) = M := fun M h => filter_gone h
  rw [hs] at hn
  rw [List.map_append, List.map_cons, List.nodup_append, List.nodup_cons] at hn
  obtain ⟨_, ⟨h2, _⟩, h3⟩ := hn
  unfold dropL
  conv => lhs; rw [hs]
  rw [List.filter_append, List.filter_cons, if_neg (by simp [he]), hg _ (fun y hy e => ?_), hg _ (fun y hy e => ?_)]
  · exact h2 (by rw [he, ← e]; exact List.mem_map_of_mem hy)
  · exact h3 _ (List.mem_map_of_mem hy) _ List.mem_cons_self (by rw [he, e])
theorem hasW_at {L : List Wt} {i : Nat} {id : Int} (hi : i < L.length) (he : (gW L i).1 = id) : hasW L id = true := List.any_eq_true.2 ⟨_, gW_mem hi, by simp [he]⟩
def NoneTo (L : List Wt) (id : Int) (i : Nat) : Prop := ∀ j, j < i → (gW L j).1 ≠ id
theorem noneTo_all {L : List Wt} {id : Int} (h : NoneTo L id L.length) : hasW L id = false := by
  unfold hasW
  rw [List.any_eq_false]
  intro y hy e
  obtain ⟨j, hj, rfl⟩ := List.getElem_of_mem hy
  exact h j hj (by rw [gW_eq hj]; simpa using e)
theorem dropL_none {L : List Wt} {id : Int} (h : hasW L id = false) : dropL L id = L := filter_gone (hasW_false h)
/-- The rest of a row, read. -/
theorem row_rest {w : World} {b o cap n : Nat} {L : List Wt} (h : w.ownsRow 0 36 2 (.slice (some ⟨b, o, none⟩) n cap) n (wc L)) (hn : n = L.length) (k : Nat) (hk : k ≤ n) : Reads w w.heap.size 2 (some ⟨b, o + k * 2, none⟩) (n - k) (wc (L.drop k)) := by
  refine ⟨by rw [wc_len, List.length_drop, hn]; omega, fun h0 => ⟨_, rfl, own_lt' h rfl, fun j u hu => ?_⟩⟩
  obtain ⟨g', cp', hv', _, _⟩ := h.form (by omega)
  injection hv' with hv'
  injection hv' with hv'
  injection hv' with e1 e2
  subst e1 e2
  have hw : (wc L)[k * 2 + j]? = some u := by
    have e : wc L = wc (L.take k) ++ wc (L.drop k) := by rw [← wc_app, List.take_append_drop]
    rw [e, List.getElem?_append_right (by rw [wc_len, List.length_take]; omega)]
    rw [← hu]
    congr 1
    rw [wc_len, List.length_take]
    omega
  have := h.cells (g := b) rfl (k * 2 + j) u hw
  rw [Addr.add_lit] at this ⊢
  rw [← this]
  congr 2
  omega
theorem row_start {w : World} {b o cap n : Nat} {L : List Wt} (h : w.ownsRow 0 36 2 (.slice (some ⟨b, o, none⟩) n cap) n (wc L)) (hn : n = L.length) (k : Nat) (hk : k ≤ n) : Reads w w.heap.size 2 (some ⟨b, o, none⟩) k (wc (L.take k)) := by
  refine ⟨by rw [wc_len, List.length_take]; omega, fun h0 => ⟨_, rfl, own_lt' h rfl, fun j u hu => ?_⟩⟩
  obtain ⟨g', cp', hv', _, _⟩ := h.form (by omega)
  injection hv' with hv'
  injection hv' with hv'
  injection hv' with e1 e2
  subst e1 e2
  have hw : (wc L)[j]? = some u := by
    have e : wc L = wc (L.take k) ++ wc (L.drop k) := by rw [← wc_app, List.take_append_drop]
    have hj := (List.getElem?_eq_some_iff.1 hu).1
    rw [e, List.getElem?_append_left hj]
    exact hu
  exact h.cells (g := b) rfl j u hw
theorem PairsAt.form3 {w : World} {B : Nat} {sv : Value} {L : List Wt} (h : PairsAt w B sv L) : ∃ A cap m, m = L.length ∧ sv = .slice A m cap := by
  obtain ⟨A, c, e⟩ := h.form
  exact ⟨A, c, _, rfl, e⟩
theorem ref_end {w : World} {r B : Nat} {v x : Value} {cs : Value} {M : List Wt} (hb : Blk w r 45 #[cs]) (hp : PairsAt w B v M) (hv : v = x) : RefW (w.setCell ⟨r, 0, none⟩ x) r M := by
  subst hv
  exact ⟨_, hb.set_ 0 _, (hp.mono).only hb (by decide) ((Only.refl w r).set_ (.inl rfl) _)⟩
theorem only_app {w a b : World} {r : Nat} {row : Option Nat} (h : Only w a r) (hg : a.grownBy b row) (hr : ∀ k, row = some k → w.heap.size ≤ k) : Only w b r :=
  ⟨hg.os.trans h.os, hg.tape.trans h.tape, hg.output.trans h.output, Nat.le_trans h.size hg.size, fun i hi hne => (hg.block i (Nat.lt_of_lt_of_le hi h.size) (fun e => by have := hr i e.symm; omega)).trans (h.block i hi hne)⟩
theorem rest_row {w : World} {B n m i : Nat} {v : Value} {L : List Wt} (h : w.ownsRow B 36 2 v (0 + i + m) ([] ++ wc (L.take i) ++ wc (L.drop (i + 1)))) (hn : n = L.length) (hi : i + 1 ≤ n ∧ m = n - (i + 1)) : PairsAt w B v (L.take i ++ L.drop (i + 1)) := by
  unfold PairsAt
  rw [wc_app, List.length_append, List.length_take, List.length_drop, ← hn, Nat.min_eq_left (by omega)]
  have e : 0 + i + m = i + (n - (i + 1)) := by omega
  rw [e] at h
  exact h
set_option maxHeartbeats 2000000 in
set_option maxRecDepth 100000 in
theorem ref_drop (r : Nat) (L : List Wt) (id : Int) (w : World) (h : RefW w r L) (hok : OkW L) : Calls Try.prog 17 #[.pointer (some ⟨r, 0, none⟩), .int .i64 id] w fun e w' => RefOut r (dropL L id) (.bool (hasW L id)) w e w' := by
  unfold RefOut
  obtain ⟨j0, hj, hy0, hy1, hy2⟩ := info_parts pair_facts
  have HJ := Lib.hid hj; have HY0 := Lib.hid hy0; have HY1 := Lib.hid hy1; have HY2 := Lib.hid hy2
  have hW := h
  obtain ⟨sv, hb, hp⟩ := h
  obtain ⟨A, cap, rfl⟩ := hp.form
  have cg := hb.cell 0
  simp only [List.getElem?_toArray, List.getElem?_cons_zero] at cg
  have hrlt := hb.lt
  have hrf := hb.frozen 0
  obtain ⟨A', cap', e', hrd⟩ := hp.rd
  have hA : A = A' := by injection e'
  subst hA
  obtain ⟨n, hn⟩ : ∃ n, n = L.length := ⟨_, rfl⟩
  have hp' : w.ownsRow 0 36 2 (.slice A n cap) n (wc L) := by unfold PairsAt at hp; rw [hn]; exact hp
  rw [← hn] at cg
  have hn200 : n ≤ 200 := by rw [hn]; exact hok.len
  rw [← hn] at hb
  have HB := Lib.hid hb; have HP := Lib.hid hp'; have HN := Lib.hid hn; have HR := Lib.hid hrd; have HOK := Lib.hid hok; have HW := Lib.hid hW
  clear hj hy0 hy1 hy2 hW hb hp e' hn hp' hrd hok
  go_enter Try.func17, Try.ntmps17
  go_wp2
  go_loopw [5] (fun iv wr => ∃ i : Nat, i ≤ n ∧ iv = .int .i64 i ∧ NoneTo L id i ∧ wr = w) (fun iv _ => n - (intOf iv).toNat)
  case atStart => exact ⟨0, Nat.zero_le _, rfl, fun j hj => absurd hj (by omega), rfl⟩
  case round =>
    obtain ⟨i, hi, rfl, hno, rfl⟩ := hrel
    have HNO := Lib.hid hno
    clear hno
    by_cases hin : i < n
    · obtain ⟨b, o, rfl, hbl, c0, c1⟩ := HR.out i (by rw [← HN.out]; exact hin)
      have hi0 : (0 : Int) ≤ (i : Int) := by omega
      have hi1 : (i : Int) < (n : Int) := by omega
      have hiL : i < L.length := by rw [← HN.out]; exact hin
      by_cases he : (gW L i).1 = id
      · have hcapn : n ≤ cap := own_cap HP.out (by omega)
        have HD := Lib.hid (dropL_at HOK.out.ids hiL he)
        have HH := Lib.hid (hasW_at hiL he)
        rw [he] at c0
        clear he
        have hcase : (cap = i + 1 ∧ n = i + 1) ∨ cap ≠ i + 1 := by omega
        have hrne : r ≠ wr.heap.size := by omega
        have hbne : b ≠ wr.heap.size := by omega
        have hown1 := (World.ownsRow_made (e := 36) (size := 2) wr #[] 0 (Nat.le_refl _) (by unfold maxLen; omega) rfl)
        have HO1 : Hid ((wr.alloc (.cells #[] 36)).drew.ownsRow wr.heap.size 36 2 (.slice (some ⟨wr.heap.size, 0, none⟩) 0 0) 0 []) := Lib.hid hown1
        have HR1 := Lib.hid ((row_start (HP.out.alloc (.cells #[] 36)) HN.out i (Nat.le_of_lt hin)).drew)
        have cga := (HB.out.alloc (.cells #[] 36)).cell 0
        simp only [List.getElem?_toArray, List.getElem?_cons_zero] at cga
        clear hown1
        have q1 : (i : Int) ≤ (i : Int) + 1 := by omega
        have q2 : i ≤ cap := by omega
        have q3 : IntKind.i64.wrap ((i : Int) + 1) = (i : Int) + 1 := IntWalk.i64_in _ (by omega)
        have q4 : (i : Int) + 1 ≤ (n : Int) := by omega
        have q5 : (n : Int) ≤ (cap : Int) := by omega
        have q6 : (0 : Int) ≤ (i : Int) + 1 := by omega
        have q7 : i + 1 ≤ n := by omega
        have q8 : (i : Int) ≤ (cap : Int) := by omega
        go_wp2_with fail
        rcases hcase with ⟨rfl, rfl⟩ | hc1
        all_goals
          go_region_law (first
            | (refine step_append_any (w := (wr.alloc (.cells #[] 36)).drew) rfl (.tmp 26) (.tmp 32) 33 rfl wr.heap.size 36 j0 (.agg #[.int .i64 0, .int .i64 0]) 2 16 Try.underlying33 HJ.out HY0.out HY1.out HY2.out rfl (by decide) (.slice (some ⟨wr.heap.size, 0, none⟩) 0 0) 0 [] rfl HO1.out _ _ _ _ _ rfl HR1.out (wc_one1 _) (by unfold maxLen; omega) (by omega) (by simp) ?_;
               intro v2 w2 hown2 hgrow2 hat2;
               have hb2 := ((HB.out.alloc (.cells #[] 36)).drew).grown hgrow2 (fun e => by injection e with e; exact hrne e);
               have hp2 : w2.ownsRow 0 36 2 _ _ (wc L) := World.ownsRow.kept ((HP.out.alloc (.cells #[] 36)).drew) hgrow2 (.inr (fun e => by injection e with e; exact hbne e));
               have cg2 := hb2.cell 0;
               simp only [List.getElem?_toArray, List.getElem?_cons_zero] at cg2;
               have HB2 := Lib.hid hb2; have HP2 := Lib.hid hp2; have HO2 := Lib.hid hown2; have HG2 := Lib.hid hgrow2;
               clear hb2 hp2 hown2 hgrow2 hat2)
            | (refine step_append_any (w := w2) rfl (.tmp 33) (.tmp 40) 33 rfl wr.heap.size 36 j0 (.agg #[.int .i64 0, .int .i64 0]) 2 16 Try.underlying33 HJ.out HY0.out HY1.out HY2.out rfl (by decide) v2 (0 + i) _ rfl HO2.out w2.heap.size _ _ _ (wc (L.drop (i + 1))) rfl (by first | exact row_rest HP2.out HN.out (i + 1) (by omega) | exact ⟨by rw [wc_len, List.length_drop, ← HN.out]; omega, fun h => absurd h (by omega)⟩) (wc_one1 _) (by unfold maxLen; omega) (by omega) (by have := HG2.out.size; simp at this; omega) ?_;
               intro v3 w3 hown3 hgrow3 hat3;
               have hb3 := HB2.out.grown hgrow3 (own_ne HO2.out HB2.out (by decide));
               have hp3 := rest_row hown3 HN.out (by omega);
               obtain ⟨A3, k3, m3, hm3, hv3⟩ := hp3.form3;
               have cg3 := hb3.cell 0;
               simp only [List.getElem?_toArray, List.getElem?_cons_zero] at cg3;
               have fg3 := hb3.frozen 0;
               have lg3 := hb3.lt;
               have HB3 := Lib.hid hb3; have HP3 := Lib.hid hp3; have HG3 := Lib.hid hgrow3; have HV3 := Lib.hid hv3;
               rw [hv3];
               clear hb3 hp3 hown3 hgrow3 hat3 hv3 hm3))
        all_goals
          go_wp2
          go_ret
          exact ⟨ret_bool HH.out.symm, by rw [HD.out]; exact ref_end HB3.out HP3.out HV3.out, (only_app (only_app ((Only.refl wr r).alloc (.cells #[] 36)).drew HG2.out (fun k hk => by injection hk with hk; exact Nat.le_of_eq hk)) HG3.out (fun k hk => own_ge HO2.out hk)).set_ (.inl rfl) _⟩
      · have hid : ((gW L i).1 == id) = false := by simpa using he
        have HNX := Lib.hid (show NoneTo L id (i + 1) from fun j hj => by
          rcases (by omega : j < i ∨ j = i) with h | h
          · exact HNO.out j h
          · rw [h]; exact he)
        clear he
        go_wp2
        exact ⟨⟨i + 1, hin, by go_num, HNX.out, trivial⟩, by simp [intOf]; omega⟩
    · obtain rfl : i = n := by omega
      have hno := HNO.out
      rw [HN.out] at hno
      have HF := Lib.hid (noneTo_all hno)
      go_wp2
      go_ret
      exact ⟨ret_bool HF.out.symm, by rw [dropL_none HF.out]; exact HW.out, .refl _ _⟩
end Go.Proofs.Ytbngcepekaicjaa
