/- codec.reads at any closure: what it read, or the error that was given up with. -/
import Derived.Test.YtemhinagajfemaaConeM25
namespace Go.Proofs.Ytemhinagajfemaa
set_option linter.unusedVariables false
open Go.RowKit

/-- What a reading closure did: Q holds behind a reading, Z where it gave up. -/
def CloDid (r : Except Int Nat) (s : ByteArray) (g m : Nat) (Q Z : World → Prop) (w : World) (e : Ending) (w' : World) : Prop :=
  ∃ w1, Only w w1 g ∧ Only w1 w' m ∧ match r with
    | .ok q => e = .returned (.tuple #[]) ∧ (∃ parts : Int, At w' g s q parts) ∧ Q w'
    | .error k => e = gives k ∧ Z w'
def ReadsDid (r : Except Int Nat) (m : Nat) (Q Z : World → Prop) (w : World) (e : Ending) (w' : World) : Prop :=
  Only w w' m ∧ match r with
    | .ok q => e = .returned (.tuple #[.int .i64 q, .int .i64 0]) ∧ Q w'
    | .error k => e = .returned (.tuple #[.int .i64 0, .int .i64 k]) ∧ Z w'

/-- A property of memory that stores into the two result cells leave alone. -/
def Apart2 (b : Nat) (Q : World → Prop) : Prop := ∀ (W : World) (p : Addr) (u : Value), (p.block = b ∨ p.block = b + 1) → Q W → Q (W.setCell p u)

set_option maxHeartbeats 1000000 in
set_option maxRecDepth 20000 in
theorem reads_any (CLO : FuncId) (caps : Array Value) (r : Except Int Nat) (s : ByteArray) (p : Nat) (m : Nat) (Q Z : World → Prop) (w : World) (hs : s.size ≤ 100000) (hp : p ≤ s.size) (hm : m < w.heap.size)
    (henter : ∀ (args : Array Value) (W : World), (callFunc CLO args).run Try.prog W = .ok (.enter CLO args) W) (hQ : Apart2 w.heap.size Q) (hZ : Apart2 w.heap.size Z)
    (hclo : ∀ W, Below w.heap.size w W → W.heap.size = w.heap.size + 1 + 1 + 1 → At W (w.heap.size + 1 + 1) s p 0 → Calls Try.prog CLO (#[.pointer (some ⟨w.heap.size + 1 + 1, 0, none⟩)] ++ caps) W fun e w' => CloDid r s (w.heap.size + 1 + 1) m Q Z W e w') :
    Calls Try.prog 50 #[.string s, .int .i64 p, .func (Fn.func CLO) #[] caps] w fun e w' => ReadsDid r m Q Z w e w' := by
  have hmf : ∀ (fn : Fn) (first cap : Array Value) (w : World), (Instr.makeFunc fn first cap).run Try.prog w = .ok (.func fn first cap) w := fun _ _ _ _ => rfl
  have hd : decide ((s.size : Int) < (p : Int)) = false := by simp; omega
  have hd2 : decide (s.size < p) = false := by simp; omega
  obtain ⟨W, hW⟩ : ∃ W, W = ((w.alloc (.cells #[.int .i64 0] 3)).alloc (.cells #[.int .i64 0] 27)).alloc (.cells #[.string s, .int .i64 p, .int .i64 0] 128) := ⟨_, rfl⟩
  have b0 : Blk W w.heap.size 3 #[.int .i64 0] := by rw [hW]; exact ((Blk.new w 3 _).alloc _).alloc _
  have b1 : Blk W (w.heap.size + 1) 27 #[.int .i64 0] := by
    rw [hW]
    have := Blk.new (w.alloc (.cells #[.int .i64 0] 3)) 27 #[.int .i64 0]
    rw [alloc_size'] at this
    exact this.alloc _
  have b2 : At W (w.heap.size + 1 + 1) s p 0 := by
    rw [hW]
    have := Blk.new ((w.alloc (.cells #[.int .i64 0] 3)).alloc (.cells #[.int .i64 0] 27)) 128 #[.string s, .int .i64 p, .int .i64 0]
    rw [alloc_size', alloc_size'] at this
    exact this
  have hO : Only w W m := by rw [hW]; exact (((Only.refl w m).alloc _).alloc _).alloc _
  have hBW : Below w.heap.size w W := by rw [hW]; exact (((Below.refl _ w).alloc (Nat.le_refl _) _).alloc (by simp) _).alloc (by simp; omega) _
  have hc := hclo W hBW (by rw [hW]; simp) b2
  have HW := Lib.hid hW; have B0 := Lib.hid b0; have B1 := Lib.hid b1; have HO := Lib.hid hO; have HC := Lib.hid hc; have HQ := Lib.hid hQ; have HZ := Lib.hid hZ
  clear hW b0 b1 b2 hO hc hclo hBW hQ hZ
  cases hu : r with
  | ok q =>
    have HU := Lib.hid hu
    clear hu
    go_enter_defers Try.func50, Try.ntmps50
    go_wp2_with fail
    rw [← HW.out]
    refine HC.out.mono ?_
    rw [HU.out]
    rintro e w2 ⟨w1, ho1, ho2, rfl, ⟨parts, ha⟩, hq⟩
    have b0 := (B0.out.grown ho1 (by simp; omega)).grown ho2 (by simp; omega)
    have b1 := (B1.out.grown ho1 (by simp)).grown ho2 (by simp; omega)
    have c2 := ha.cell 1
    have c0 := b0.cell 0
    have f0 := b0.frozen 0
    have c1 := b1.cell 0
    have f1 := b1.frozen 0
    simp at c0 c1 c2
    have d1 := (Blk.far b1 (p := ⟨w.heap.size, 0, none⟩) (by simp) (.int .i64 q)).cell 0
    have g1 := (Blk.far b1 (p := ⟨w.heap.size, 0, none⟩) (by simp) (.int .i64 q)).frozen 0
    simp at d1
    have hO2 : Only w w2 m := by
      have h1 : Only w w1 m := ⟨ho1.os.trans HO.out.os, ho1.tape.trans HO.out.tape, ho1.output.trans HO.out.output, Nat.le_trans HO.out.size ho1.size, fun i hi hne => (ho1.block i (Nat.lt_of_lt_of_le hi HO.out.size) (by simp; omega)).trans (HO.out.block i hi hne)⟩
      exact h1.trans ho2
    have hq3 : Q ((w2.setCell ⟨w.heap.size, 0, none⟩ (.int .i64 q)).setCell ⟨w.heap.size + 1, 0, none⟩ (.int .i64 0)) :=
      HQ.out _ ⟨w.heap.size + 1, 0, none⟩ _ (.inr rfl) (HQ.out _ ⟨w.heap.size, 0, none⟩ _ (.inl rfl) hq)
    have hO3 : Only w ((w2.setCell ⟨w.heap.size, 0, none⟩ (.int .i64 q)).setCell ⟨w.heap.size + 1, 0, none⟩ (.int .i64 0)) m :=
      (hO2.set_ (p := ⟨w.heap.size, 0, none⟩) (.inr (by simp)) _).set_ (p := ⟨w.heap.size + 1, 0, none⟩) (.inr (by simp)) _
    have e0 := ((b0.set_ 0 (.int .i64 q)).far (p := ⟨w.heap.size + 1, 0, none⟩) (by simp) (.int .i64 0)).cell 0
    have e1 := ((Blk.far b1 (p := ⟨w.heap.size, 0, none⟩) (by simp) (.int .i64 q)).set_ 0 (.int .i64 0)).cell 0
    simp at e0 e1
    have HB := Lib.hid hq3; have HO3 := Lib.hid hO3; have E0 := Lib.hid e0; have E1 := Lib.hid e1
    clear b0 b1 ha hq ho1 ho2 hO2 hq3 hO3 HC B0 B1 HO e0 e1 HW
    go_wp2
    refine leaves_cons (f := 86) (args := #[.pointer (some ⟨w.heap.size, 0, none⟩), .pointer (some ⟨w.heap.size + 1, 0, none⟩)]) (by simp) (by simp [go_sem]) ?_
    refine (catch_idle _ _ _).mono ?_
    rintro e u' w'' ⟨rfl, rfl, rfl⟩
    have e0 := E0.out; have e1 := E1.out
    simp [Leaves, settle, results, Try.results50, go_sem, e0, e1]
    exact ⟨HO3.out, rfl, HB.out⟩
  | error k =>
    have HU := Lib.hid hu
    clear hu
    go_enter_defers Try.func50, Try.ntmps50
    go_wp2_with fail
    rw [← HW.out]
    refine HC.out.mono ?_
    rw [HU.out]
    rintro e w2 ⟨w1, ho1, ho2, rfl, hz⟩
    have b0 := (B0.out.grown ho1 (by simp; omega)).grown ho2 (by simp; omega)
    have b1 := (B1.out.grown ho1 (by simp)).grown ho2 (by simp; omega)
    have c0 := b0.cell 0
    have f0 := b0.frozen 0
    have d1 := (Blk.far b1 (p := ⟨w.heap.size, 0, none⟩) (by simp) (.int .i64 0)).cell 0
    have g1 := (Blk.far b1 (p := ⟨w.heap.size, 0, none⟩) (by simp) (.int .i64 0)).frozen 0
    simp at c0 d1
    have hO2 : Only w w2 m := by
      have h1 : Only w w1 m := ⟨ho1.os.trans HO.out.os, ho1.tape.trans HO.out.tape, ho1.output.trans HO.out.output, Nat.le_trans HO.out.size ho1.size, fun i hi hne => (ho1.block i (Nat.lt_of_lt_of_le hi HO.out.size) (by simp; omega)).trans (HO.out.block i hi hne)⟩
      exact h1.trans ho2
    have hq3 : Z ((w2.setCell ⟨w.heap.size, 0, none⟩ (.int .i64 0)).setCell ⟨w.heap.size + 1, 0, none⟩ (.int .i64 k)) :=
      HZ.out _ ⟨w.heap.size + 1, 0, none⟩ _ (.inr rfl) (HZ.out _ ⟨w.heap.size, 0, none⟩ _ (.inl rfl) hz)
    have hO3 : Only w ((w2.setCell ⟨w.heap.size, 0, none⟩ (.int .i64 0)).setCell ⟨w.heap.size + 1, 0, none⟩ (.int .i64 k)) m :=
      (hO2.set_ (p := ⟨w.heap.size, 0, none⟩) (.inr (by simp)) _).set_ (p := ⟨w.heap.size + 1, 0, none⟩) (.inr (by simp)) _
    have e0 := ((b0.set_ 0 (.int .i64 0)).far (p := ⟨w.heap.size + 1, 0, none⟩) (by simp) (.int .i64 k)).cell 0
    have e1 := ((Blk.far b1 (p := ⟨w.heap.size, 0, none⟩) (by simp) (.int .i64 0)).set_ 0 (.int .i64 k)).cell 0
    simp at e0 e1
    have HB := Lib.hid hq3; have HO3 := Lib.hid hO3; have E0 := Lib.hid e0; have E1 := Lib.hid e1
    clear b0 b1 hz ho1 ho2 hO2 hq3 hO3 HC B0 B1 HO e0 e1 HW
    unfold gives
    go_wp2
    refine leaves_cons (f := 86) (args := #[.pointer (some ⟨w.heap.size, 0, none⟩), .pointer (some ⟨w.heap.size + 1, 0, none⟩)]) (by simp) (by simp [go_sem]) ?_
    refine (catch_panicking _ _ k _ _ [] _ c0 f0 d1 g1).mono ?_
    rintro e u' w'' ⟨rfl, rfl, rfl⟩
    have e0 := E0.out; have e1 := E1.out
    simp [Leaves, settle, results, Try.results50, go_sem, e0, e1]
    exact ⟨HO3.out, rfl, HB.out⟩

/-- Out of the bytes nothing is read. -/
theorem reads_out (CLO : FuncId) (caps : Array Value) (s : ByteArray) (at_ : Int) (w : World) (hs : s.size ≤ 100000) (hp : at_ < 0 ∨ (s.size : Int) < at_) :
    Calls Try.prog 50 #[.string s, .int .i64 at_, .func (Fn.func CLO) #[] caps] w fun e w' => e = .returned (.tuple #[.int .i64 0, .int .i64 3]) ∧ Below w.heap.size w w' := by
  obtain ⟨W, hW⟩ : ∃ W, W = ((w.alloc (.cells #[.int .i64 0] 3)).alloc (.cells #[.int .i64 3] 27)) := ⟨_, rfl⟩
  have b0 : Blk W w.heap.size 3 #[.int .i64 0] := by rw [hW]; exact (Blk.new w 3 _).alloc _
  have b1 : Blk W (w.heap.size + 1) 27 #[.int .i64 3] := by
    rw [hW]
    have := Blk.new (w.alloc (.cells #[.int .i64 0] 3)) 27 #[.int .i64 3]
    rw [alloc_size'] at this
    exact this
  have hBW : Below w.heap.size w W := by rw [hW]; exact ((Below.refl _ w).alloc (Nat.le_refl _) _).alloc (by simp) _
  have e0 := b0.cell 0; have e1 := b1.cell 0
  simp at e0 e1
  have HW := Lib.hid hW; have HB := Lib.hid hBW; have E0 := Lib.hid e0; have E1 := Lib.hid e1
  clear hW hBW e0 e1 b0 b1
  by_cases hz : at_ < 0
  · have i1 : decide (at_ < 0) = true := by simp; omega
    go_enter_defers Try.func50, Try.ntmps50
    go_wp2
    rw [← HW.out]
    have e0 := E0.out; have e1 := E1.out
    simp [bodyPostD, Leaves, settle, results, Try.results50, go_sem, e0, e1]
    exact HB.out
  · have i1 : decide (at_ < 0) = false := by simp; omega
    have i2 : decide ((s.size : Int) < at_) = true := by simp; omega
    go_enter_defers Try.func50, Try.ntmps50
    go_wp2
    rw [← HW.out]
    have e0 := E0.out; have e1 := E1.out
    simp [bodyPostD, Leaves, settle, results, Try.results50, go_sem, e0, e1]
    exact HB.out
end Go.Proofs.Ytemhinagajfemaa
