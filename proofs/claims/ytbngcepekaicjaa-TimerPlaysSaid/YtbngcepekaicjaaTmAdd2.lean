/- Somebody is added to a wheel. -/
import Derived.Test.YtbngcepekaicjaaTmAdd
namespace Go.Proofs.Ytbngcepekaicjaa
set_option linter.unusedVariables false
open Go.RowKit

/-- Somebody was added. -/
def Added (g : Nat) (F : Option Nat) (L : List Wt) (w : World) (e : Ending) (w' : World) : Prop := e = .returned (.int .i64 0) ∧ TurnedTo g F L w w'
theorem reads_new (W : World) (x : Wt) (t : TypeId) : Reads (W.alloc (.cells #[.int .i64 x.1, .int .i64 x.2] t)).drew (W.heap.size + 1) 2 (some ⟨W.heap.size, 0, none⟩) 1 [.int .i64 x.1, .int .i64 x.2] :=
  ⟨rfl, fun _ => ⟨_, rfl, by show W.heap.size < _; omega, cells_new W [.int .i64 x.1, .int .i64 x.2] t⟩⟩
theorem own_ne {w : World} {base size n g : Nat} {e t : TypeId} {v : Value} {xs : List Value} {cs : Array Value} (h : w.ownsRow base e size v n xs) (hg : Blk w g t cs) (hne : e ≠ t) : some g ≠ v.ownBlock := by
  rcases h.2 with ⟨rfl, _⟩ | ⟨b, cap, cur, rfl, _, hb, _⟩
  · intro e; cases e
  · intro e
    injection e with e
    simp only [] at e
    subst e
    exact Blk.ne_ hg hb (fun e' => hne e'.symm) rfl
theorem wc_one (l : List Wt) (id at_ : Int) : wc l ++ [.int .i64 id, .int .i64 at_] = wc (l ++ [(id, at_)]) := by rw [wc_app]; rfl
/-- The wheel behind the append. -/
theorem add_mid {w2 : World} {g k2 cap2 n : Nat} {l : List Wt} {id at_ : Int} {v2 v0 : Value} (h : w2.ownsRow 0 57 2 v2 (n + 1) (wc l ++ [.int .i64 id, .int .i64 at_])) (hn : n = l.length) (hv : v2 = .slice (some ⟨k2, 0, none⟩) (n + 1) cap2) (hg : Blk w2 g 54 #[v0]) :
    ∃ r, HBk (w2.setCell ⟨g, 0, none⟩ v2) k2 (l ++ [(id, at_)]) r ∧ n + 1 ≤ cap2 ∧ (wc (l ++ [(id, at_)]) ++ r).length = cap2 * 2 ∧ cap2 ≤ maxLen ∧ some g ≠ v2.ownBlock ∧ Blk (w2.setCell ⟨g, 0, none⟩ v2) g 54 #[v2] := by
  rw [wc_one] at h
  have hne := own_ne h hg (by decide)
  have h' : w2.ownsRow 0 57 2 v2 (l ++ [(id, at_)]).length (wc (l ++ [(id, at_)])) := by rw [List.length_append, List.length_singleton, ← hn]; exact h
  have hs : Blk (w2.setCell ⟨g, 0, none⟩ v2) g 54 #[v2] := hg.set_ 0 v2
  have hk : (w2.setCell ⟨g, 0, none⟩ v2).ownsRow 0 57 2 v2 (l ++ [(id, at_)]).length (wc (l ++ [(id, at_)])) :=
    h'.kept ((Only.refl w2 g).set_ (.inl rfl) v2) (.inr (fun e => hne e.symm))
  obtain ⟨b, cap, r, e, _, hb, hc, hlen, hm⟩ := WhAt.row (w := w2.setCell ⟨g, 0, none⟩ v2) ⟨hs, hk⟩ (by simp)
  have e2 := hv.symm.trans e
  injection e2 with e3 e4 e5
  injection e3 with e3
  injection e3 with e3
  subst e3 e5
  exact ⟨r, hb, by simpa [← hn] using hc, hlen, hm, hne, hs⟩
/-- The wheel behind Add. -/
theorem add_end {w w1 w2 w4 : World} {g k2 cap2 n : Nat} {l L : List Wt} {x : Wt} {v v2 : Value} {r : List Value} (hv : v2 = .slice (some ⟨k2, 0, none⟩) (n + 1) cap2) (hn : n = l.length)
    (hg : Blk (w2.setCell ⟨g, 0, none⟩ v2) g 54 #[v2]) (hne : some g ≠ v2.ownBlock) (hc : n + 1 ≤ cap2) (hlen : (wc (l ++ [x]) ++ r).length = cap2 * 2) (hm : cap2 ≤ maxLen)
    (ho : Only (w2.setCell ⟨g, 0, none⟩ v2) w4 k2) (hb : HBk w4 k2 (upF (l ++ [x]) n) r) (hr : Hp (upF (l ++ [x]) l.length) ∧ (upF (l ++ [x]) l.length).Perm (insW L x)) (hok : OkW (insW L x))
    (hbel : Below w.heap.size w w1) (hgr : (w1.alloc (.cells #[.int .i64 x.1, .int .i64 x.2] 57)).drew.grownBy w2 v.ownBlock) (hat : v2.ownBlock = v.ownBlock ∨ v2.ownBlock = some (w1.alloc (.cells #[.int .i64 x.1, .int .i64 x.2] 57)).drew.heap.size) :
    TurnedTo g v.ownBlock (insW L x) w w4 := by
  have hk2 : v2.ownBlock = some k2 := by rw [hv]; rfl
  have hnew : NewF w v.ownBlock v2.ownBlock := by
    rcases hat with e | e
    · exact .inl e
    · exact .inr ⟨_, by have := hbel.size; show w.heap.size ≤ (w1.alloc _).heap.size; simp; omega, e⟩
  have hul : (upF (l ++ [x]) n).length = n + 1 := by rw [upF_len]; simp [hn]
  have hg4 := hg.grown ho (by rw [← hk2]; exact hne)
  refine ⟨v2.ownBlock, ⟨v2, upF (l ++ [x]) n, ?_, rfl, by rw [hn]; exact hr.1, by rw [hn]; exact hr.2, hok⟩, ?_, hnew⟩
  · rw [hv] at hg4 ⊢
    rw [← hul] at hg4 ⊢
    exact WhAt.mk' hg4 hb (Nat.zero_le _) (by rw [hul]; exact hc) hm (by rw [List.length_append, wc_len, upF_len, ← wc_len, ← List.length_append]; exact hlen)
  · have k1 : KeptF w (w1.alloc (.cells #[.int .i64 x.1, .int .i64 x.2] 57)).drew g v.ownBlock := .of_below ((hbel.alloc hbel.size _).drew) g _
    have k2' := k1.grown hgr (.inl rfl)
    have k3 := k2'.grown ((Only.refl w2 g).set_ (p := ⟨g, 0, none⟩) (.inl rfl) v2) (.inr (.inl rfl))
    refine k3.grown ho ?_
    rw [← hk2]
    rcases hnew with e | e
    · exact .inl e
    · exact .inr (.inr e)
set_option maxHeartbeats 2000000 in
set_option maxRecDepth 100000 in
theorem add_ok (g : Nat) (v : Value) (l : List Wt) (id at_ : Int) (L : List Wt) (w : World) (h : WhAt w g 0 v l) (hh : Hp l) (hp : l.Perm L) (hok : OkW L) (hid : id ≤ 9223372036854775807) (he : addE L id at_ = 0) :
    Calls Try.prog 10 #[.pointer (some ⟨g, 0, none⟩), .int .i64 id, .int .i64 at_] w fun e w' => Added g v.ownBlock (insW L (id, at_)) w e w' := by
  have hnp : ∀ (W : World) (a : Addr), (binOp .eql 25 (.pointer (some a)) (.pointer none)).run Try.prog W = .ok (.bool false) W := fun _ _ => rfl
  obtain ⟨hb, hno, hlen⟩ := addE_0 he
  have hok' := addL_ok hok (id := id) (at_ := at_) hid
  unfold addL at hok'
  rw [if_pos he] at hok'
  rw [← hasW_perm hp] at hno
  rw [← hp.length_eq] at hlen
  obtain ⟨h1, h2, h3⟩ : decide (id < 0) = false ∧ decide (at_ < 0) = false ∧ decide (2199023255552 < at_) = false := by unfold badW at hb; simp at hb ⊢; omega
  obtain ⟨A, cap, rfl, hr, hcap⟩ := h.lie
  obtain ⟨i0, hi, hz0, hz1, hz2⟩ := info_parts wait_facts
  have hgl := h.1.lt
  have hne : g ≠ w.heap.size := by omega
  have cg := h.1.cell 0
  simp only [List.getElem?_toArray, List.getElem?_cons_zero] at cg
  have hco := cont_any A cap l w.heap.size id (w.alloc (.cells #[.int .i64 id] 3)) (hr.below ((Below.refl _ _).alloc (Nat.le_refl _) _)) (by omega) ((Blk.new w 3 #[.int .i64 id]).cell 0) (by simp)
  rw [hno] at hco
  have hrest := add_rest hh hp (id, at_)
  obtain ⟨n, hn⟩ : ∃ n, n = l.length := ⟨_, rfl⟩
  have hw : WhAt w g 0 (.slice A n cap) l := by rw [hn]; exact h
  rw [← hn] at hco cg hlen hcap
  have HN := Lib.hid hn; have HCO := Lib.hid hco; have HW := Lib.hid hw; have HREST := Lib.hid hrest; have HOK := Lib.hid hok'
  clear hn hco hb h hr hno he hh hp hok hok' hrest
  go_enter Try.func10, Try.ntmps10
  go_wp2_with fail
  refine HCO.out.mono ?_
  rintro e w1 ⟨rfl, hl1⟩
  have hbel := ((Below.refl w.heap.size w).alloc (Nat.le_refl _) (.cells #[.int .i64 id] 3)).trans (hl1.mono (by simp))
  have hw1 : WhAt w1 g 0 (.slice A n cap) l := HW.out.keep fun i hi _ => hbel.block i hi
  have cg1 := hw1.1.cell 0
  simp only [List.getElem?_toArray, List.getElem?_cons_zero] at cg1
  have cb1 := ((Blk.new w 3 #[.int .i64 id]).below hl1 (by simp)).cell 0
  simp only [List.getElem?_toArray, List.getElem?_cons_zero] at cb1
  have hz1' := hl1.size
  rw [World.size_alloc] at hz1'
  have hgne : g ≠ w1.heap.size := by omega
  have hBne : w.heap.size ≠ w1.heap.size := by omega
  have hn200 : (n : Int) < 200 := by omega
  have hn0 : (0 : Int) ≤ (n : Int) := by omega
  have hown : ((w1.alloc (.cells #[.int .i64 id, .int .i64 at_] 57)).drew).ownsRow 0 57 2 (.slice A n cap) n (wc l) := by
    have := (hw1.2).alloc (.cells #[.int .i64 id, .int .i64 at_] 57)
    rw [← HN.out] at this
    exact this
  have hgb : Blk ((w1.alloc (.cells #[.int .i64 id, .int .i64 at_] 57)).drew) g 54 #[.slice A n cap] := (hw1.1.alloc _).drew
  have hre := reads_new w1 (id, at_) 57
  have cga := hgb.cell 0
  simp only [List.getElem?_toArray, List.getElem?_cons_zero] at cga
  have cga' : (w1.alloc (.cells #[.int .i64 id, .int .i64 at_] 57)).cell? ⟨g, 0, none⟩ = some (.slice A n cap) := cga
  clear cga
  have HOWN := Lib.hid hown; have HGB := Lib.hid hgb; have HRE := Lib.hid hre; have HBEL := Lib.hid hbel; have HW1 := Lib.hid hw1
  have HI := Lib.hid hi; have HZ0 := Lib.hid hz0; have HZ1 := Lib.hid hz1; have HZ2 := Lib.hid hz2
  clear hown hgb hre hbel hw1 hl1 HCO hi hz0 hz1 hz2
  go_wp2_with fail
  go_region_law (
    (refine step_append_any (w := (w1.alloc (.cells #[.int .i64 id, .int .i64 at_] 57)).drew) rfl (.tmp 39) (.tmp 43) 52 rfl 0 57 i0 (.agg #[.int .i64 0, .int .i64 0]) 2 16 Try.underlying52 HI.out HZ0.out HZ1.out HZ2.out rfl (by decide) (.slice A n cap) n (wc l) rfl HOWN.out (w1.heap.size + 1) (some ⟨w1.heap.size, 0, none⟩) 1 1 [.int .i64 id, .int .i64 at_] rfl HRE.out (by simp [Value.oneCell']) (by unfold maxLen; omega) (by omega) (Nat.zero_le _) ?_;
     intro v2 w2 hown2 hgrow hat;
     obtain ⟨k2, cap2, hv2, hk2, hk2lt⟩ := hown2.form (by omega);
     have hgb2 := HGB.out.grown hgrow (own_ne HOWN.out HGB.out (by decide));
     have cg2 := hgb2.cell 0;
     simp only [List.getElem?_toArray, List.getElem?_cons_zero] at cg2;
     have fg2 := hgb2.frozen 0;
     have HOWN2 := Lib.hid hown2; have HGROW := Lib.hid hgrow; have HAT := Lib.hid hat; have HGB2 := Lib.hid hgb2; have HV2 := Lib.hid hv2;
     rw [hv2];
     clear hown2 hgrow hat hgb2 hv2))
  all_goals
    obtain ⟨r, hb3, hc3, hlen3, hm3, hne3, hg3⟩ := add_mid HOWN2.out HN.out HV2.out HGB2.out
    have HM := Lib.hid (And.intro hc3 (And.intro hlen3 (And.intro hm3 (And.intro hne3 hg3))))
    rw [HV2.out] at hb3 hg3
    have cg3 := hg3.cell 0
    simp only [List.getElem?_toArray, List.getElem?_cons_zero] at cg3
    clear cg2 fg2 cga' cg1 cb1 hc3 hlen3 hm3 hne3
    have en : ((n + 1 : Nat) : Int) - 1 = (n : Int) := by omega
    have en2 : ((n : Int) + 1) - 1 = (n : Int) := by omega
    have hn1 : ((n + 1 : Nat) : Int) ≤ 201 := by omega
    have hxl : (l ++ [(id, at_)]).length = n + 1 := by rw [List.length_append, ← HN.out]; rfl
    have hup := up_any g k2 cap2 n (l ++ [(id, at_)]) r _ (by rw [hxl]; exact hg3) hb3 (by rw [hxl]; omega) (by rw [hxl]; omega)
    have HUP := Lib.hid hup
    clear hup hg3 hb3 hxl
    go_wp2_with fail
    refine HUP.out.mono ?_
    rintro e w4 ⟨rfl, ho4, hb4⟩
    have HE := Lib.hid (And.intro ho4 hb4)
    clear HUP ho4 hb4 cg3
    go_wp2
    go_ret
    obtain ⟨hc3, hlen3, hm3, hne3, hg3⟩ := HM.out
    exact ⟨rfl, by rw [show (Value.slice A l.length cap).ownBlock = (Value.slice A n cap).ownBlock from by cases A <;> rfl]; exact add_end (v := .slice A n cap) HV2.out HN.out hg3 hne3 hc3 hlen3 hm3 (by rw [HV2.out]; exact HE.out.1) HE.out.2 HREST.out HOK.out HBEL.out HGROW.out HAT.out⟩
def AddOut (g : Nat) (F : Option Nat) (L : List Wt) (id at_ : Int) (w : World) (e : Ending) (w' : World) : Prop := e = .returned (.int .i64 (addE L id at_)) ∧ TurnedTo g F (addL L id at_) w w'
theorem add_any (g : Nat) (F : Option Nat) (L : List Wt) (id at_ : Int) (w : World) (h : Wheel w g F L) (hid : id ≤ 9223372036854775807) :
    Calls Try.prog 10 #[.pointer (some ⟨g, 0, none⟩), .int .i64 id, .int .i64 at_] w fun e w' => AddOut g F L id at_ w e w' := by
  have hW := h
  obtain ⟨v, l, hw, rfl, hh, hp, hok⟩ := h
  unfold AddOut
  by_cases h0 : addE L id at_ = 0
  · rw [h0]
    have : addL L id at_ = insW L (id, at_) := by unfold addL; rw [if_pos h0]
    rw [this]
    exact add_ok g v l id at_ L w hw hh hp hok hid h0
  · have hl : addL L id at_ = L := by unfold addL; rw [if_neg h0]
    rw [hl]
    cases hb : badW id at_
    · have e1 : addE L id at_ = if hasW L id = true then 17 else if 200 ≤ L.length then 4 else 0 := by unfold addE; rw [hb]; simp
      have hc : hasW L id = true ∨ 200 ≤ L.length := by
        rw [e1] at h0
        by_cases ht : hasW L id = true
        · exact .inl ht
        · rw [if_neg ht] at h0
          by_cases h2 : 200 ≤ L.length
          · exact .inr h2
          · rw [if_neg h2] at h0; exact absurd rfl h0
      have e2 : addE L id at_ = if hasW L id = true then 17 else 4 := by
        rw [e1]
        by_cases ht : hasW L id = true
        · rw [if_pos ht, if_pos ht]
        · rw [if_neg ht, if_neg ht]
          rcases hc with hc | hc
          · exact absurd hc ht
          · rw [if_pos hc]
      rw [e2, ← hasW_perm hp]
      rw [← hasW_perm hp, ← hp.length_eq] at hc
      exact (add_once g v l id at_ w hw (by rw [hp.length_eq]; exact hok.len) hb hc).mono fun e w' ⟨he, hb'⟩ => ⟨he, .of_below hW hb'⟩
    · have e1 : addE L id at_ = 2 := by unfold addE; rw [hb]; simp
      rw [e1]
      exact (add_bad g id at_ w hb).mono fun e w' ⟨he, hb'⟩ => ⟨he, .of_below hW hb'⟩
end Go.Proofs.Ytbngcepekaicjaa
