/- Two wheels at once. -/
import Derived.Test.YtbngcepekaicjaaTmOpen
namespace Go.Proofs.Ytbngcepekaicjaa
set_option linter.unusedVariables false
open Go.RowKit

/-- Two wheels that were made behind world w0 and share nothing. -/
def Two (w0 : World) (ga gb : Nat) (La Lb : List Wt) (w : World) : Prop :=
  ∃ Fa Fb, Wheel w ga Fa La ∧ Wheel w gb Fb Lb ∧ ga ≠ gb ∧ (∀ k, Fa = some k → Fb ≠ some k) ∧ (w0.heap.size ≤ ga ∧ w0.heap.size ≤ gb) ∧ (∀ k, Fa = some k → w0.heap.size ≤ k) ∧ (∀ k, Fb = some k → w0.heap.size ≤ k) ∧ Below w0.heap.size w0 w
section
variable {w0 w w' : World} {ga gb g : Nat} {La Lb L L' : List Wt}
theorem Two.swap (h : Two w0 ga gb La Lb w) : Two w0 gb ga Lb La w := by
  obtain ⟨Fa, Fb, h1, h2, h3, h4, h5, h6, h7, h8⟩ := h
  exact ⟨Fb, Fa, h2, h1, fun e => h3 e.symm, fun k hk hk' => h4 k hk' hk, ⟨h5.2, h5.1⟩, h7, h6, h8⟩
theorem Two.all (h : Two w0 ga gb La Lb w) : Below w0.heap.size w0 w := by obtain ⟨_, _, _, _, _, _, _, _, _, h⟩ := h; exact h
theorem Two.below (h : Two w0 ga gb La Lb w) (hb : Below w.heap.size w w') : Two w0 ga gb La Lb w' := by
  obtain ⟨Fa, Fb, h1, h2, h3, h4, h5, h6, h7, h8⟩ := h
  exact ⟨Fa, Fb, h1.below hb, h2.below hb, h3, h4, h5, h6, h7, h8.trans (hb.mono h8.size)⟩
theorem Wheel.fne {F : Option Nat} {x : Nat} {t : TypeId} {cs : Array Value} (h : Wheel w g F L) (hb : Blk w x t cs) (hne : t ≠ 57) : F ≠ some x := by
  obtain ⟨v, l, hw, rfl, _⟩ := h
  exact fun e => own_ne hw.2 hb (fun e' => hne e'.symm) e.symm
theorem Wheel.blk {F : Option Nat} (h : Wheel w g F L) : ∃ v, Blk w g 54 #[v] := by
  obtain ⟨v, l, hw, rfl, _⟩ := h
  exact ⟨v, hw.1⟩
theorem Two.turn {Fa Fb : Option Nat} (ha : Wheel w ga Fa La) (hb : Wheel w gb Fb Lb) (hne : ga ≠ gb) (hd : ∀ k, Fa = some k → Fb ≠ some k) (hg : w0.heap.size ≤ ga ∧ w0.heap.size ≤ gb) (hfa : ∀ k, Fa = some k → w0.heap.size ≤ k)
    (hfb : ∀ k, Fb = some k → w0.heap.size ≤ k) (hbel : Below w0.heap.size w0 w) (ht : TurnedTo ga Fa L' w w') : Two w0 ga gb L' Lb w' ∧ StepW ga w w' := by
  obtain ⟨F', hW, hk, hn⟩ := ht
  obtain ⟨va, hva⟩ := ha.blk
  have hz := hbel.size
  have hb' : Wheel w' gb Fb Lb := hb.keep fun i hi hc => hk.block i hi (by
    rcases hc with rfl | hc
    · exact fun e => hne e.symm
    · exact fun e => hb.fne hva (by decide) (by rw [← hc, e])) (by
    rcases hc with rfl | hc
    · obtain ⟨vb, hvb⟩ := hb.blk
      exact fun e => ha.fne hvb (by decide) e.symm
    · exact fun e => hd i e.symm hc.symm)
  refine ⟨⟨F', Fb, hW, hb', hne, ?_, hg, ?_, hfb, ?_⟩, Fa, La, ha, hk⟩
  · intro k hk' hk2
    rcases hn with e | ⟨x, hx, e⟩
    · exact hd k (by rw [← e, hk']) hk2
    · have := hb.flt k hk2
      rw [e] at hk'
      injection hk' with hk'
      omega
  · intro k hk'
    rcases hn with e | ⟨x, hx, e⟩
    · exact hfa k (by rw [← e, hk'])
    · rw [e] at hk'
      injection hk' with hk'
      omega
  · exact hbel.trans ⟨hk.os, hk.tape, hk.output, hk.size, fun i hi => hk.block i (by omega) (by omega) (fun e => by have := hfa i e.symm; omega)⟩
theorem StepW.pairs (h : StepW g w w') {B : Nat} {sv : Value} {O : List Wt} (hi : PairsAt w B sv O) : PairsAt w' B sv O := by
  obtain ⟨F, L, hW, hk⟩ := h
  exact own_keptF hi hW hk (by decide) (by decide)
theorem StepW.blk {x : Nat} {t : TypeId} {cs : Array Value} (h : StepW g w w') (hb : Blk w x t cs) (h1 : t ≠ 54) (h2 : t ≠ 57) : Blk w' x t cs := by
  obtain ⟨F, L, hW, hk⟩ := h
  obtain ⟨v, hv⟩ := hW.blk
  exact (hk.block x hb.lt (hb.ne_ hv h1) (fun e => hW.fne hb h2 e.symm)).trans hb
theorem StepW.size (h : StepW g w w') : w.heap.size ≤ w'.heap.size := by
  obtain ⟨F, L, hW, hk⟩ := h
  exact hk.size
theorem PairsAt.below {B : Nat} {sv : Value} {O : List Wt} (hi : PairsAt w B sv O) (hb : Below w.heap.size w w') : PairsAt w' B sv O :=
  World.ownsRow.kept (row := none) hi ⟨hb.os, hb.tape, hb.output, hb.size, fun k hk _ => hb.block k hk⟩ (by
    rcases hv : sv.ownBlock with _ | k
    · exact .inl rfl
    · exact .inr (by simp))
end
def TwoAdd (w0 : World) (ga gb : Nat) (La Lb : List Wt) (id at_ : Int) (w : World) (e : Ending) (w' : World) : Prop := e = .returned (.int .i64 (addE La id at_)) ∧ Two w0 ga gb (addL La id at_) Lb w' ∧ StepW ga w w'
theorem two_add (w0 : World) (ga gb : Nat) (La Lb : List Wt) (id at_ : Int) (w : World) (h : Two w0 ga gb La Lb w) (hid : id ≤ 9223372036854775807) :
    Calls Try.prog 10 #[.pointer (some ⟨ga, 0, none⟩), .int .i64 id, .int .i64 at_] w fun e w' => TwoAdd w0 ga gb La Lb id at_ w e w' := by
  obtain ⟨Fa, Fb, h1, h2, h3, h4, h5, h6, h7, h8⟩ := h
  exact (add_any ga Fa La id at_ w h1 hid).mono fun e w' ⟨he, ht⟩ => ⟨he, Two.turn h1 h2 h3 h4 h5 h6 h7 h8 ht⟩
def TwoDrop (w0 : World) (ga gb : Nat) (La Lb : List Wt) (id : Int) (w : World) (e : Ending) (w' : World) : Prop := e = .returned (.bool (hasW La id)) ∧ Two w0 ga gb (dropL La id) Lb w' ∧ StepW ga w w'
theorem two_drop (w0 : World) (ga gb : Nat) (La Lb : List Wt) (id : Int) (w : World) (h : Two w0 ga gb La Lb w) : Calls Try.prog 15 #[.pointer (some ⟨ga, 0, none⟩), .int .i64 id] w fun e w' => TwoDrop w0 ga gb La Lb id w e w' := by
  obtain ⟨Fa, Fb, h1, h2, h3, h4, h5, h6, h7, h8⟩ := h
  exact (drop_any ga Fa La id w h1).mono fun e w' ⟨he, ht⟩ => ⟨he, Two.turn h1 h2 h3 h4 h5 h6 h7 h8 ht⟩
def TwoDue (w0 : World) (ga gb : Nat) (La Lb : List Wt) (now : Int) (w : World) (e : Ending) (w' : World) : Prop := ∃ sv, e = .returned sv ∧ IntsAt w' w.heap.size sv (dueO La now) ∧ Two w0 ga gb (dueL La now) Lb w' ∧ StepW ga w w'
theorem two_due (w0 : World) (ga gb : Nat) (La Lb : List Wt) (now : Int) (w : World) (h : Two w0 ga gb La Lb w) : Calls Try.prog 11 #[.pointer (some ⟨ga, 0, none⟩), .int .i64 now] w fun e w' => TwoDue w0 ga gb La Lb now w e w' := by
  obtain ⟨Fa, Fb, h1, h2, h3, h4, h5, h6, h7, h8⟩ := h
  exact (due_any ga Fa La now w h1).mono fun e w' ⟨sv, he, hi, ht⟩ => ⟨sv, he, hi, Two.turn h1 h2 h3 h4 h5 h6 h7 h8 ht⟩
def TwoWaits (w0 : World) (ga gb : Nat) (La Lb : List Wt) (w : World) (e : Ending) (w' : World) : Prop := ∃ sv, e = .returned sv ∧ PairsAt w' w.heap.size sv La ∧ Two w0 ga gb La Lb w' ∧ Below w.heap.size w w'
theorem two_waits (w0 : World) (ga gb : Nat) (La Lb : List Wt) (w : World) (h : Two w0 ga gb La Lb w) : Calls Try.prog 12 #[.pointer (some ⟨ga, 0, none⟩)] w fun e w' => TwoWaits w0 ga gb La Lb w e w' := by
  have hT := h
  obtain ⟨Fa, Fb, h1, _⟩ := h
  exact (waits_any ga Fa La w h1).mono fun e w' ⟨sv, he, hi, hb⟩ => ⟨sv, he, hi, hT.below hb, hb⟩
/-- Two new wheels. -/
theorem two_new {w0 w1 w2 w3 : World} (h0 : Below w0.heap.size w0 w1) (ha : Wheel w2 w1.heap.size none []) (hb1 : Below w1.heap.size w1 w2) (hb : Wheel w3 w2.heap.size none []) (hb2 : Below w2.heap.size w2 w3) : Two w0 w1.heap.size w2.heap.size [] [] w3 :=
  ⟨none, none, ha.below hb2, hb, Nat.ne_of_lt ha.lt, (fun k hk => by cases hk), ⟨h0.size, Nat.le_trans h0.size hb1.size⟩, (fun k hk => by cases hk), (fun k hk => by cases hk),
    (h0.trans (hb1.mono h0.size)).trans (hb2.mono (Nat.le_trans h0.size hb1.size))⟩

/-! What adding some in order gives. -/
def foldA (L : List Wt) : List Wt := L.foldl (fun M x => addL M x.1 x.2) []
theorem foldA_snoc (L : List Wt) (x : Wt) : foldA (L ++ [x]) = addL (foldA L) x.1 x.2 := by simp [foldA]
theorem addL_len (M : List Wt) (id at_ : Int) : (addL M id at_).length ≤ M.length + 1 := by
  unfold addL
  split
  · rw [(insW_perm M (id, at_)).length_eq]; simp
  · omega
theorem foldA_len (L : List Wt) : ∀ k, k ≤ L.length → (foldA (L.take k)).length ≤ k
  | 0, _ => by simp [foldA]
  | k + 1, h => by
    rw [take_next h, foldA_snoc]
    have h1 := foldA_len L k (by omega)
    have h2 := addL_len (foldA (L.take k)) (gW L k).1 (gW L k).2
    omega
theorem foldA_ok (L : List Wt) (hb : ∀ x, x ∈ L → x.1 ≤ 9223372036854775807) : ∀ k, k ≤ L.length → OkW (foldA (L.take k))
  | 0, _ => okW_nil
  | k + 1, h => by
    rw [take_next h, foldA_snoc]
    exact addL_ok (foldA_ok L hb k (by omega)) (hb _ (gW_mem h))
theorem has_drop {M : List Wt} {id gone : Int} (h : id ≠ gone) : hasW (dropL M gone) id = hasW M id := by
  rw [Bool.eq_iff_iff]
  simp only [hasW, dropL, List.any_eq_true, List.mem_filter]
  constructor
  · rintro ⟨x, ⟨hx, _⟩, e⟩; exact ⟨x, hx, e⟩
  · rintro ⟨x, hx, e⟩
    refine ⟨x, ⟨hx, ?_⟩, e⟩
    have : x.1 = id := by simpa using e
    simp [this, h]
theorem add_drop {M : List Wt} (hM : OkW M) (hl : M.length < 200) (x : Wt) (hx : x.1 ≤ 9223372036854775807) (gone : Int) : dropL (addL M x.1 x.2) gone = if x.1 = gone then dropL M gone else addL (dropL M gone) x.1 x.2 := by
  by_cases h : x.1 = gone
  · rw [if_pos h]
    unfold addL
    split
    · have hp := (insW_perm M (x.1, x.2)).filter (fun y => y.1 != gone)
      rw [List.filter_cons, if_neg (by simp [h])] at hp
      rename_i h0
      have hok := addL_ok hM (id := x.1) (at_ := x.2) hx
      unfold addL at hok
      rw [if_pos h0] at hok
      exact perm_sorted_eq hp (hok.sorted.filter _) (hM.sorted.filter _)
    · rfl
  · rw [if_neg h]
    have hE : addE (dropL M gone) x.1 x.2 = addE M x.1 x.2 := by
      unfold addE
      rw [has_drop h]
      have hl2 : (dropL M gone).length < 200 := Nat.lt_of_le_of_lt (List.length_filter_le _ _) hl
      rw [if_neg (show ¬ 200 ≤ M.length by omega), if_neg (show ¬ 200 ≤ (dropL M gone).length by omega)]
    by_cases h0 : addE M x.1 x.2 = 0
    · have hok := addL_ok hM (id := x.1) (at_ := x.2) hx
      have hok2 := addL_ok (dropL_ok hM gone) (id := x.1) (at_ := x.2) hx
      unfold addL at hok hok2 ⊢
      rw [hE] at hok2 ⊢
      rw [if_pos h0] at hok hok2 ⊢
      rw [if_pos h0]
      have hp := (insW_perm M (x.1, x.2)).filter (fun y => y.1 != gone)
      rw [List.filter_cons, if_pos (by simp [h])] at hp
      exact perm_sorted_eq (hp.trans (insW_perm (dropL M gone) (x.1, x.2)).symm) (hok.sorted.filter _) hok2.sorted
    · unfold addL
      rw [hE, if_neg h0, if_neg h0]
end Go.Proofs.Ytbngcepekaicjaa
