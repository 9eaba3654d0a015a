/- Somebody is dropped; the first second; those whose second has come. -/
import Derived.Test.YtbngcepekaicjaaTmAdd2
namespace Go.Proofs.Ytbngcepekaicjaa
set_option linter.unusedVariables false
open Go.RowKit

theorem takeF_len {l : List Wt} {i : Nat} : (takeF l i).length = l.length - 1 := by
  unfold takeF
  split
  · rw [(downF_perm _ _ _ (Nat.le_refl _)).length_eq, upF_len, cutF_len]
  · rw [cutF_len]
theorem taken_wheel {g b cap i : Nat} {l L' : List Wt} {r r' : List Value} {w w' : World} (hg : Blk w' g 54 #[.slice (some ⟨b, 0, none⟩) (l.length - 1) cap]) (hb : HBk w' b (takeF l i) r') (hr : r'.length = r.length + 2)
    (hk : Kept w w' g (.slice (some ⟨b, 0, none⟩) l.length cap)) (hl : 0 < l.length) (hc : l.length ≤ cap) (hlen : (wc l ++ r).length = cap * 2) (hm : cap ≤ maxLen) (ht : Hp (takeF l i) ∧ (takeF l i).Perm L') (hok : OkW L') :
    TurnedTo g (some b) L' w w' := by
  have e : l.length - 1 = (takeF l i).length := takeF_len.symm
  refine ⟨some b, ⟨.slice (some ⟨b, 0, none⟩) (l.length - 1) cap, takeF l i, ?_, rfl, ht.1, ht.2, hok⟩, hk.f rfl, .inl rfl⟩
  rw [e] at hg ⊢
  refine WhAt.mk' hg hb (Nat.zero_le _) (by rw [← e]; omega) hm ?_
  rw [List.length_append, wc_len] at hlen ⊢
  rw [hr, ← e]; omega

theorem drop_nil (id : Int) (w : World) : Calls Try.prog 15 #[.pointer none, .int .i64 id] w fun e w' => BoolBelow false w e w' := by
  have hnp : ∀ (W : World), (binOp .eql 25 (.pointer none) (.pointer none)).run Try.prog W = .ok (.bool true) W := fun _ => rfl
  go_enter Try.func15, Try.ntmps15
  go_wp2
  go_ret
  exact ⟨rfl, (Below.refl _ _).alloc (Nat.le_refl _) _⟩
def DropOut (g : Nat) (F : Option Nat) (L : List Wt) (id : Int) (w : World) (e : Ending) (w' : World) : Prop := e = .returned (.bool (hasW L id)) ∧ TurnedTo g F (dropL L id) w w'
theorem Kept.comp {w w1 w2 : World} {g b n cap : Nat} (h : Below w.heap.size w w1) (k : Kept w1 w2 g (.slice (some ⟨b, 0, none⟩) n cap)) : Kept w w2 g (.slice (some ⟨b, 0, none⟩) n cap) :=
  ⟨k.os.trans h.os, k.tape.trans h.tape, k.output.trans h.output, Nat.le_trans h.size k.size, fun i hi h1 h2 => (k.block i (Nat.lt_of_lt_of_le hi h.size) h1 h2).trans (h.block i hi)⟩
set_option maxHeartbeats 2000000 in
set_option maxRecDepth 100000 in
theorem drop_any (g : Nat) (F : Option Nat) (L : List Wt) (id : Int) (w : World) (h : Wheel w g F L) : Calls Try.prog 15 #[.pointer (some ⟨g, 0, none⟩), .int .i64 id] w fun e w' => DropOut g F L id w e w' := by
  have hW := h
  obtain ⟨v, l, hw, rfl, hh, hp, hok⟩ := h
  have hnp : ∀ (W : World) (a : Addr), (binOp .eql 25 (.pointer (some a)) (.pointer none)).run Try.prog W = .ok (.bool false) W := fun _ _ => rfl
  have hl : l.length ≤ 300 := by rw [hp.length_eq]; have := hok.len; omega
  obtain ⟨A, cap, e, hr, hcap⟩ := hw.lie
  have hgl := hw.1.lt
  have hne : g ≠ w.heap.size := by omega
  have cg := hw.1.cell 0
  simp only [List.getElem?_toArray, List.getElem?_cons_zero, e] at cg
  have hr2 := hr.below ((Below.refl w.heap.size w).alloc (Nat.le_refl _) (.cells #[.int .i64 id] 3))
  have hbx := (Blk.new w 3 #[.int .i64 id]).cell 0
  simp only [List.getElem?_toArray, List.getElem?_cons_zero] at hbx
  cases hh' : hasW l id
  · have hno : hasW L id = false := by rw [← hasW_perm hp]; exact hh'
    have hL : dropL L id = L := filter_gone (hasW_false hno)
    unfold DropOut
    rw [hno, hL]
    have hco := drop_no A cap l w.heap.size id (w.alloc (.cells #[.int .i64 id] 3)) hr2 hl hbx (by simp) hh'
    obtain ⟨n, hn⟩ : ∃ n, n = l.length := ⟨_, rfl⟩
    rw [← hn] at hco cg
    have HCO := Lib.hid hco; have HW := Lib.hid hW
    clear hco hr hr2 hbx hh' hno hL hw hW hh hp hok hn e
    go_enter Try.func15, Try.ntmps15
    go_wp2_with fail
    refine HCO.out.mono ?_
    rintro e w1 ⟨rfl, hl1⟩
    have HL := Lib.hid (((Below.refl w.heap.size w).alloc (Nat.le_refl _) (.cells #[.int .i64 id] 3)).trans (hl1.mono (by simp)))
    clear hl1 cg
    go_wp2
    go_ret
    exact ⟨rfl, .of_below HW.out HL.out⟩
  · have hyes : hasW L id = true := by rw [← hasW_perm hp]; exact hh'
    unfold DropOut
    rw [hyes]
    have hco := drop_yes A cap l w.heap.size id (w.alloc (.cells #[.int .i64 id] 3)) hr2 hl hbx (by simp) hh'
    obtain ⟨n, hn⟩ : ∃ n, n = l.length := ⟨_, rfl⟩
    have hl0 : 0 < l.length := by
      rcases Nat.eq_zero_or_pos l.length with h0 | h0
      · have : l = [] := List.eq_nil_of_length_eq_zero h0
        subst this; cases hh'
      · exact h0
    obtain ⟨b, cap', rb, e2, _, hb, hc, hlen, hm⟩ := hw.row hl0
    have hAe : (Value.slice A l.length cap) = .slice (some ⟨b, 0, none⟩) l.length cap' := e.symm.trans e2
    injection hAe with hA1 hA2 hA3
    subst hA1 hA3
    have hgw := hw.1
    rw [e2] at hgw
    have hkey : ∀ i, i < l.length → (gW l i).1 = id → Hp (takeF l i) ∧ (takeF l i).Perm (dropL L id) := fun i hi he => drop_rest hh hp hok.ids hi he
    have hok' := dropL_ok hok id
    rw [show v.ownBlock = some b from by rw [e]; rfl]
    have HC := Lib.hid (And.intro hl0 (And.intro hc (And.intro hlen hm))); have HKEY := Lib.hid hkey; have HOK := Lib.hid hok'; have HB := Lib.hid hb; have HG := Lib.hid hgw
    rw [← hn] at hco cg
    have HN := Lib.hid hn; have HCO := Lib.hid hco
    have hl3 : l.length ≤ 300 := hl
    clear hco hr hr2 hbx hh' hyes hw hW hh hp hok hn e e2 hl0 hc hlen hm hkey hok' hb hgw
    go_enter Try.func15, Try.ntmps15
    go_wp2_with fail
    refine HCO.out.mono ?_
    rintro e w1 ⟨k, hk, hke, rfl, hl1⟩
    have hbel := ((Below.refl w.heap.size w).alloc (Nat.le_refl _) (.cells #[.int .i64 id] 3)).trans (hl1.mono (by simp))
    have hg1 := HG.out.below hbel hgl
    have hb1 : HBk w1 b l rb := Blk.below HB.out hbel (Blk.lt HB.out)
    have ht := take_any g b cap k l rb w1 hg1 hb1 hk hl3 HC.out.2.1
    have HT := Lib.hid ht; have HBEL := Lib.hid hbel; have HKE := Lib.hid hke; have HKL := Lib.hid hk
    have hk0 : (0 : Int) ≤ (k : Int) := by omega
    clear ht hl1 hbel hke hg1 hb1 cg
    go_wp2_with fail
    refine HT.out.mono ?_
    rintro e w2 ⟨rfl, hg2, ⟨r', hb2, hr'⟩, hk2⟩
    have HE := Lib.hid (taken_wheel (w := w) hg2 hb2 hr' (hk2.comp HBEL.out) HC.out.1 HC.out.2.1 HC.out.2.2.1 HC.out.2.2.2 (HKEY.out k HKL.out HKE.out) HOK.out)
    clear hg2 hb2 hr' hk2 HT
    go_wp2
    go_ret
    exact ⟨rfl, HE.out⟩
end Go.Proofs.Ytbngcepekaicjaa
