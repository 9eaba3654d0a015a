/- Layer 19's answers that the document fixes. -/
import Derived.Test.YtbngcepekaicjaaTmAwake
namespace Go.Proofs.Ytbngcepekaicjaa
set_option linter.unusedVariables false
open Go.RowKit

/-- A wheel that was made behind world w0 holds L. -/
def St (w0 : World) (g : Nat) (L : List Wt) (w : World) : Prop := TurnedTo g none L w0 w
/-- What a call on the wheel at g may have changed. -/
def StepW (g : Nat) (w w' : World) : Prop := ∃ F L, Wheel w g F L ∧ KeptF w w' g F
section
variable {w0 w w' : World} {g : Nat} {L : List Wt}
theorem StepW.ints (h : StepW g w w') {B : Nat} {sv : Value} {O : List Int} (hi : IntsAt w B sv O) : IntsAt w' B sv O := by
  obtain ⟨F, L, hW, hk⟩ := h
  exact own_keptF hi hW hk (by decide) (by decide)
theorem IntsAt.below {B : Nat} {sv : Value} {O : List Int} (hi : IntsAt w B sv O) (hb : Below w.heap.size w w') : IntsAt w' B sv O :=
  World.ownsRow.kept (row := none) hi ⟨hb.os, hb.tape, hb.output, hb.size, fun k hk _ => hb.block k hk⟩ (by
    rcases hv : sv.ownBlock with _ | k
    · exact .inl rfl
    · exact .inr (by simp))
theorem St.below (h : St w0 g L w) (hb : Below w.heap.size w w') : St w0 g L w' := h.trans fun F' hW => .of_below hW hb
theorem St.all (h : St w0 g L w) {B : Nat} (hg : B ≤ g) (hB : B ≤ w0.heap.size) : Below B w0 w := by
  obtain ⟨F, _, hk, _⟩ := h
  exact ⟨hk.os, hk.tape, hk.output, hk.size, fun i hi => hk.block i (by omega) (by omega) (fun e => by cases e)⟩
end
def NewSt (w : World) (e : Ending) (w' : World) : Prop := e = .returned (.pointer (some ⟨w.heap.size, 0, none⟩)) ∧ St w' w.heap.size [] w' ∧ Below w.heap.size w w'
theorem new_st (w : World) : Calls Try.prog 9 #[] w fun e w' => NewSt w e w' :=
  (new_any w).mono fun e w' ⟨he, hW, hb⟩ => ⟨he, ⟨none, hW, .refl _ _ _, .inl rfl⟩, hb⟩
def AddSt (w0 : World) (g : Nat) (L : List Wt) (id at_ : Int) (w : World) (e : Ending) (w' : World) : Prop := e = .returned (.int .i64 (addE L id at_)) ∧ St w0 g (addL L id at_) w' ∧ StepW g w w'
theorem add_st (w0 : World) (g : Nat) (L : List Wt) (id at_ : Int) (w : World) (h : St w0 g L w) (hid : id ≤ 9223372036854775807) : Calls Try.prog 10 #[.pointer (some ⟨g, 0, none⟩), .int .i64 id, .int .i64 at_] w fun e w' => AddSt w0 g L id at_ w e w' := by
  obtain ⟨F, hW, hk, hn⟩ := h
  refine (add_any g F L id at_ w hW hid).mono fun e w' ⟨he, ht⟩ => ⟨he, ?_, F, L, hW, ?_⟩
  · exact TurnedTo.trans (w' := w) ⟨F, hW, hk, hn⟩ fun F' hW' => by
      obtain ⟨F2, h2, h3, h4⟩ := ht
      obtain ⟨v, l, hw, rfl, _⟩ := hW
      obtain ⟨v', l', hw', rfl, _⟩ := hW'
      have : v = v' := by
        have h1 := hw.1.symm.trans hw'.1
        injection h1 with h1
        injection h1 with h1
        simpa using h1
      subst this
      exact ⟨F2, h2, h3, h4⟩
  · obtain ⟨F2, h2, h3, h4⟩ := ht
    exact h3
theorem St.turn {w0 w w' : World} {g : Nat} {L L' : List Wt} {F : Option Nat} (hW : Wheel w g F L) (hk : KeptF w0 w g none) (hn : NewF w0 none F) (ht : TurnedTo g F L' w w') : St w0 g L' w' ∧ StepW g w w' := by
  obtain ⟨F2, h2, h3, h4⟩ := ht
  exact ⟨⟨F2, h2, hk.trans h3 hn, hn.trans h4 hk.size⟩, F, L, hW, h3⟩
def DueSt (w0 : World) (g : Nat) (L : List Wt) (now : Int) (w : World) (e : Ending) (w' : World) : Prop := ∃ sv, e = .returned sv ∧ IntsAt w' w.heap.size sv (dueO L now) ∧ St w0 g (dueL L now) w' ∧ StepW g w w'
theorem due_st (w0 : World) (g : Nat) (L : List Wt) (now : Int) (w : World) (h : St w0 g L w) : Calls Try.prog 11 #[.pointer (some ⟨g, 0, none⟩), .int .i64 now] w fun e w' => DueSt w0 g L now w e w' := by
  obtain ⟨F, hW, hk, hn⟩ := h
  exact (due_any g F L now w hW).mono fun e w' ⟨sv, he, hi, ht⟩ => ⟨sv, he, hi, St.turn hW hk hn ht⟩
def DropSt (w0 : World) (g : Nat) (L : List Wt) (id : Int) (w : World) (e : Ending) (w' : World) : Prop := e = .returned (.bool (hasW L id)) ∧ St w0 g (dropL L id) w' ∧ StepW g w w'
theorem drop_st (w0 : World) (g : Nat) (L : List Wt) (id : Int) (w : World) (h : St w0 g L w) : Calls Try.prog 15 #[.pointer (some ⟨g, 0, none⟩), .int .i64 id] w fun e w' => DropSt w0 g L id w e w' := by
  obtain ⟨F, hW, hk, hn⟩ := h
  exact (drop_any g F L id w hW).mono fun e w' ⟨he, ht⟩ => ⟨he, St.turn hW hk hn ht⟩
theorem drew_below {w w' : World} (h : Drawn w w') : Below w.heap.size w w' := by
  obtain ⟨n, rfl⟩ := h
  exact below_drewN (Below.refl _ _) n

set_option maxHeartbeats 2000000 in
set_option maxRecDepth 100000 in
theorem awake19_any (w : World) : Calls Try.prog 8 #[] w fun e w' => TrueBelow w e w' := by
  have hnp : ∀ (W : World) (a : Addr), (binOp .eql 25 (.pointer (some a)) (.pointer none)).run Try.prog W = .ok (.bool false) W := fun _ _ => rfl
  go_enter Try.func8, Try.ntmps8
  go_wp2_with fail
  refine (new_st _).mono ?_
  rintro e w0 ⟨rfl, hst, hl⟩
  obtain ⟨g, hg⟩ : ∃ g, g = w.heap.size := ⟨_, rfl⟩
  rw [← hg] at hst ⊢
  have HG := Lib.hid hg; have HL := Lib.hid hl; have HS := Lib.hid hst
  clear hg hl hst
  have HC := Lib.hid (add_st w0 g [] 7 3 w0 HS.out (by omega))
  go_wp2_with fail
  refine HC.out.mono ?_
  rintro e a0 ⟨rfl, hs, hk⟩
  have ea : addL [] 7 3 = [(7, 3)] := by decide
  have ee : addE [] 7 3 = 0 := by decide
  rw [ea] at hs
  rw [ee]
  clear HS HC ea ee hk
  have HS := Lib.hid hs
  clear hs
  have HC := Lib.hid (add_st w0 g [(7, 3)] 2 3 a0 HS.out (by omega))
  go_wp2_with fail
  refine HC.out.mono ?_
  rintro e a1 ⟨rfl, hs, hk⟩
  have ea : addL [(7, 3)] 2 3 = [(2, 3), (7, 3)] := by decide
  have ee : addE [(7, 3)] 2 3 = 0 := by decide
  rw [ea] at hs
  rw [ee]
  clear HS HC ea ee hk
  have HS := Lib.hid hs
  clear hs
  have HC := Lib.hid (add_st w0 g [(2, 3), (7, 3)] 5 1 a1 HS.out (by omega))
  go_wp2_with fail
  refine HC.out.mono ?_
  rintro e a2 ⟨rfl, hs, hk⟩
  have ea : addL [(2, 3), (7, 3)] 5 1 = [(5, 1), (2, 3), (7, 3)] := by decide
  have ee : addE [(2, 3), (7, 3)] 5 1 = 0 := by decide
  rw [ea] at hs
  rw [ee]
  clear HS HC ea ee hk
  have HS := Lib.hid hs
  clear hs
  have HC := Lib.hid (due_st w0 g [(5, 1), (2, 3), (7, 3)] 2 a2 HS.out)
  go_wp2_with fail
  refine HC.out.mono ?_
  rintro e d0 ⟨sv0, rfl, hi, hs, hk⟩
  have ea : dueL [(5, 1), (2, 3), (7, 3)] 2 = [(2, 3), (7, 3)] := by decide
  have eo : dueO [(5, 1), (2, 3), (7, 3)] 2 = [5] := by decide
  rw [ea] at hs
  rw [eo] at hi
  clear HS HC ea eo
  have HS := Lib.hid hs
  have HR0 := Lib.hid hi
  clear hs hi hk
  have HC := Lib.hid (due_st w0 g [(2, 3), (7, 3)] 3 d0 HS.out)
  go_wp2_with fail
  refine HC.out.mono ?_
  rintro e d1 ⟨sv1, rfl, hi, hs, hk⟩
  have ea : dueL [(2, 3), (7, 3)] 3 = [] := by decide
  have eo : dueO [(2, 3), (7, 3)] 3 = [2, 7] := by decide
  rw [ea] at hs
  rw [eo] at hi
  clear HS HC ea eo
  have HX := Lib.hid (hk.ints HR0.out); clear HR0; have HR0 := HX; clear HX
  have HS := Lib.hid hs
  have HR1 := Lib.hid hi
  clear hs hi hk
  have HC := Lib.hid (due_st w0 g [] 9 d1 HS.out)
  go_wp2_with fail
  refine HC.out.mono ?_
  rintro e d2 ⟨sv2, rfl, hi, hs, hk⟩
  have ea : dueL [] 9 = [] := by decide
  have eo : dueO [] 9 = [] := by decide
  rw [ea] at hs
  rw [eo] at hi
  clear HS HC ea eo
  have HX := Lib.hid (hk.ints HR0.out); clear HR0; have HR0 := HX; clear HX
  have HX := Lib.hid (hk.ints HR1.out); clear HR1; have HR1 := HX; clear HX
  have HS := Lib.hid hs
  have HR2 := Lib.hid hi
  clear hs hi hk
  obtain ⟨A0, c0, e0, r0⟩ := HR0.out.rd
  obtain ⟨A1, c1, e1, r1⟩ := HR1.out.rd
  obtain ⟨A2, c2, e2, r2⟩ := HR2.out.rd
  subst e0 e1 e2
  have R0 := Lib.hid r0; have R1 := Lib.hid r1
  clear r0 r1 r2 HR0 HR1 HR2
  go_wp2_with fail
  have k1 := same_any A0 (some ⟨d2.heap.size, 0, none⟩) [5] [5] c0 1 _ (R0.out.below ((Below.refl d2.heap.size d2).alloc (Nat.le_refl _) _)) (RdI.new d2 [5] 3) (by simp)
  have HK1 := Lib.hid k1
  clear k1
  refine HK1.out.mono ?_
  rintro e b1 ⟨rfl, hd⟩
  have hb1 := ((Below.refl d2.heap.size d2).alloc (Nat.le_refl _) (.cells (([5] : List Int).map (Value.int .i64)).toArray 3)).trans ((drew_below hd).mono (by simp))
  have HB1 := Lib.hid hb1
  clear HK1 hd hb1
  rw [show decide (([5] : List Int) = [5]) = true from rfl]
  go_wp2_with fail
  have k1 := same_any A1 (some ⟨b1.heap.size, 0, none⟩) [2, 7] [2, 7] c1 2 _ ((R1.out.below HB1.out).below ((Below.refl b1.heap.size b1).alloc (Nat.le_refl _) _)) (RdI.new b1 [2, 7] 3) (by simp)
  have HK1 := Lib.hid k1
  clear k1
  refine HK1.out.mono ?_
  rintro e b2 ⟨rfl, hd⟩
  have hb2 := HB1.out.trans ((((Below.refl b1.heap.size b1).alloc (Nat.le_refl _) (.cells (([2, 7] : List Int).map (Value.int .i64)).toArray 3)).trans ((drew_below hd).mono (by simp))).mono HB1.out.size)
  have HB2 := Lib.hid hb2
  clear HK1 hd hb2
  rw [show decide (([2, 7] : List Int) = [2, 7]) = true from rfl]
  have HC := Lib.hid (add_st w0 g [] (-1) 0 b2 (HS.out.below HB2.out) (by omega))
  go_wp2_with fail
  refine HC.out.mono ?_
  rintro e b3 ⟨rfl, hs, hk⟩
  rw [show addE [] (-1) 0 = 2 from by decide]
  have HE := Lib.hid (HL.out.trans ((hs.all (B := w.heap.size) (by rw [HG.out]; exact Nat.le_refl _) HL.out.size)))
  clear HC hs hk HS
  go_wp2
  go_ret
  exact ⟨rfl, HE.out⟩
end Go.Proofs.Ytbngcepekaicjaa
