/- How a reader is run, and what it gives up with caught: ReadUint. -/
import Derived.Test.YtemhinagajfemaaConeM3
import Derived.Defers
import Derived.Recover
import Derived.Laws.Pointers
namespace Go.Proofs.Ytemhinagajfemaa
set_option linter.unusedVariables false
open Go.RowKit

theorem alloc_size' (w : World) (o : Obj) : (w.alloc o).heap.size = w.heap.size + 1 := by simp
theorem as_errno (W : World) (v : Value) : (Instr.typeAssert (.iface 27 v) 20 27 true).run Try.prog W = .ok (.tuple #[v, .bool true]) W := by kernel_rfl
theorem as_nil (W : World) : (Instr.typeAssert .nilIface 20 27 true).run Try.prog W = .ok (.tuple #[.int .i64 0, .bool false]) W := by kernel_rfl

set_option maxHeartbeats 1000000 in
set_option maxRecDepth 20000 in
theorem catch_panicking (p q : Addr) (k : Int) (x y : Value) (older : List PanicEntry) (w : World) (hc : w.cell? p = some x) (hz : w.frozen? p = false)
    (hd : (w.setCell p (.int .i64 0)).cell? q = some y) (hy : (w.setCell p (.int .i64 0)).frozen? q = false) :
    CallsD Try.prog 86 #[.pointer (some p), .pointer (some q)] (.panicking ({ v := .iface 27 (.int .i64 k), recovered := false } :: older)) w fun e u' w' =>
      e = .returned (.tuple #[]) ∧ u' = .panicking ({ v := .iface 27 (.int .i64 k), recovered := true } :: older) ∧ w' = (w.setCell p (.int .i64 0)).setCell q (.int .i64 k) := by
  refine callsD_of_wpS Try.func86 rfl fun c₀ cs hu => ?_
  apply wpS_seq
  apply wpS_region
  simp [wpOpsS, go_sem, recoverD, hu, Try.ntmps86, Exit.thenS, as_errno]
  apply wpS_seq
  apply wpS_region
  simp [wpOpsS, go_sem, Exit.thenS]
  refine wpS_cond (t := true) (by simp [Act.eval]) ?_
  simp only [if_true]
  apply wpS_region
  simp [wpOpsS, go_sem, hc, hz, hd, hy, bodyPostS, results, Try.results86]

set_option maxHeartbeats 1000000 in
set_option maxRecDepth 20000 in
theorem catch_idle (p q : Addr) (w : World) :
    CallsD Try.prog 86 #[.pointer (some p), .pointer (some q)] .returning w fun e u' w' => e = .returned (.tuple #[]) ∧ u' = .returning ∧ w' = w := by
  refine callsD_of_wpS Try.func86 rfl fun c₀ cs hu => ?_
  apply wpS_seq
  apply wpS_region
  simp [wpOpsS, go_sem, recoverD, hu, Try.ntmps86, Exit.thenS, as_nil]
  apply wpS_seq
  apply wpS_region
  simp [wpOpsS, go_sem, Exit.thenS]
  refine wpS_cond (t := false) (by simp [Act.eval]) ?_
  simp only [Bool.false_eq_true, if_false]
  refine wpS_of_wp (wp_skip ?_)
  cases c₀
  simp_all [bodyPostS, results, Try.results86]

/-- What the closure did: the reader's block first, then the number's. -/
def CloRead (r : Except Int (Nat × Nat)) (s : ByteArray) (parts : Int) (g m : Nat) (w : World) (e : Ending) (w' : World) : Prop :=
  ∃ w1, Only w w1 g ∧ Only w1 w' m ∧ match r with
    | .ok (n, q) => e = .returned (.tuple #[]) ∧ At w' g s q parts ∧ Blk w' m 22 #[.int .u64 n]
    | .error k => e = gives k ∧ w1 = w'

set_option maxHeartbeats 1000000 in
theorem clo_any (s : ByteArray) (p : Nat) (parts : Int) (g m : Nat) (w : World) (hs : s.size ≤ 100000) (hp : p ≤ s.size) (h : At w g s p parts) (hm : Blk w m 22 #[.int .u64 0]) (hgm : g ≠ m) :
    Calls Try.prog 51 #[.pointer (some ⟨g, 0, none⟩), .pointer (some ⟨m, 0, none⟩)] w fun e w' => CloRead (readU s p 0 0) s parts g m w e w' := by
  have hr := ruint_any s p parts g w hs hp h
  have HR := Lib.hid hr
  cases hu : readU s p 0 0 with
  | ok nq =>
    obtain ⟨n, q⟩ := nq
    rw [hu] at hr
    have HR := Lib.hid hr
    have HM := Lib.hid hm
    clear hr hu h hm
    go_enter Try.func51, Try.ntmps51
    go_wp2_with fail
    refine HR.out.mono ?_
    rintro e w2 ⟨rfl, ha2, ho2⟩
    have hm2 : Blk w2 m 22 #[.int .u64 0] := HM.out.grown ho2 (by simp; omega)
    have c0 := hm2.cell 0
    have f0 := hm2.frozen 0
    simp at c0
    have hm3 := hm2.set_ 0 (.int .u64 n)
    have ha3 := Blk.far ha2 (p := ⟨m, 0, none⟩) hgm (.int .u64 n)
    have HM3 := Lib.hid hm3; have HA3 := Lib.hid ha3; have HO2 := Lib.hid ho2
    clear hm3 ha3 ho2 hm2 ha2
    go_wp2
    go_end0
    exact ⟨w2, HO2.out, (Only.refl w2 m).set_ (p := ⟨m, 0, none⟩) (.inl rfl) _, rfl, HA3.out, HM3.out⟩
  | error k =>
    rw [hu] at hr
    have HR := Lib.hid hr
    clear hr hu h hm
    go_enter Try.func51, Try.ntmps51
    go_wp2_with fail
    refine HR.out.mono ?_
    rintro e w2 ⟨rfl, ho2⟩
    unfold gives
    go_wp2
    exact ⟨rfl, w2, ho2, Only.refl w2 m, rfl, rfl⟩

def ReadsRes (r : Except Int (Nat × Nat)) (m : Nat) (w : World) (e : Ending) (w' : World) : Prop :=
  Only w w' m ∧ match r with
    | .ok (n, q) => e = .returned (.tuple #[.int .i64 q, .int .i64 0]) ∧ Blk w' m 22 #[.int .u64 n]
    | .error k => e = .returned (.tuple #[.int .i64 0, .int .i64 k]) ∧ Blk w' m 22 #[.int .u64 0]

set_option maxHeartbeats 1000000 in
set_option maxRecDepth 20000 in
theorem reads_uint (s : ByteArray) (p : Nat) (m : Nat) (w : World) (hs : s.size ≤ 100000) (hp : p ≤ s.size) (hm : Blk w m 22 #[.int .u64 0]) :
    Calls Try.prog 50 #[.string s, .int .i64 p, .func (Fn.func 51) #[] #[.pointer (some ⟨m, 0, none⟩)]] w fun e w' => ReadsRes (readU s p 0 0) m w e w' := by
  have hmf : ∀ (fn : Fn) (first cap : Array Value) (w : World), (Instr.makeFunc fn first cap).run Try.prog w = .ok (.func fn first cap) w := fun _ _ _ _ => rfl
  have hd : decide ((s.size : Int) < (p : Int)) = false := by simp; omega
  have hd2 : decide (s.size < p) = false := by simp; omega
  obtain ⟨W, hW⟩ : ∃ W, W = ((w.alloc (.cells #[.int .i64 0] 3)).alloc (.cells #[.int .i64 0] 27)).alloc (.cells #[.string s, .int .i64 p, .int .i64 0] 128) := ⟨_, rfl⟩
  have hmlt := hm.lt
  have b0 : Blk W w.heap.size 3 #[.int .i64 0] := by rw [hW]; exact ((Blk.new w 3 _).alloc _).alloc _
  have b1 : Blk W (w.heap.size + 1) 27 #[.int .i64 0] := by
    rw [hW]
    have := Blk.new (w.alloc (.cells #[.int .i64 0] 3)) 27 #[.int .i64 0]
    rw [alloc_size'] at this
    exact this.alloc _
  have b2 : At W (w.heap.size + 1 + 1) s p 0 := by
    rw [hW]
    have := Blk.new ((w.alloc (.cells #[.int .i64 0] 3)).alloc (.cells #[.int .i64 0] 27)) 128 #[.string s, .int .i64 p, .int .i64 0]
    rw [alloc_size', alloc_size'] at this
    exact this
  have bm : Blk W m 22 #[.int .u64 0] := by rw [hW]; exact ((hm.alloc _).alloc _).alloc _
  have hO : Only w W m := by rw [hW]; exact (((Only.refl w m).alloc _).alloc _).alloc _
  have hclo := clo_any s p 0 (w.heap.size + 1 + 1) m W hs hp b2 bm (by omega)
  have HW := Lib.hid hW; have B0 := Lib.hid b0; have B1 := Lib.hid b1; have HO := Lib.hid hO; have HC := Lib.hid hclo; have HBM := Lib.hid bm
  clear hm hW b0 b1 b2 bm hO hclo
  cases hu : readU s p 0 0 with
  | ok nq =>
    obtain ⟨n, q⟩ := nq
    have HU := Lib.hid hu
    clear hu
    go_enter_defers Try.func50, Try.ntmps50
    go_wp2_with fail
    rw [← HW.out]
    refine HC.out.mono ?_
    rw [HU.out]
    rintro e w2 ⟨w1, ho1, ho2, rfl, ha, hb⟩
    have b0 := (B0.out.grown ho1 (by simp; omega)).grown ho2 (by simp; omega)
    have b1 := (B1.out.grown ho1 (by simp)).grown ho2 (by simp; omega)
    have c2 := ha.cell 1
    have c0 := b0.cell 0
    have f0 := b0.frozen 0
    have c1 := b1.cell 0
    have f1 := b1.frozen 0
    simp at c0 c1 c2
    have d1 := (Blk.far b1 (p := ⟨w.heap.size, 0, none⟩) (by simp) (.int .i64 q)).cell 0
    have g1 := (Blk.far b1 (p := ⟨w.heap.size, 0, none⟩) (by simp) (.int .i64 q)).frozen 0
    simp at d1
    have hO2 : Only w w2 m := by
      have h1 : Only w w1 m := ⟨ho1.os.trans HO.out.os, ho1.tape.trans HO.out.tape, ho1.output.trans HO.out.output, Nat.le_trans HO.out.size ho1.size, fun i hi hne => (ho1.block i (Nat.lt_of_lt_of_le hi HO.out.size) (by simp; omega)).trans (HO.out.block i hi hne)⟩
      exact h1.trans ho2
    have hbm : Blk ((w2.setCell ⟨w.heap.size, 0, none⟩ (.int .i64 q)).setCell ⟨w.heap.size + 1, 0, none⟩ (.int .i64 0)) m 22 #[.int .u64 n] :=
      Blk.far (Blk.far hb (p := ⟨w.heap.size, 0, none⟩) (by simp; omega) _) (p := ⟨w.heap.size + 1, 0, none⟩) (by simp; omega) _
    have hO3 : Only w ((w2.setCell ⟨w.heap.size, 0, none⟩ (.int .i64 q)).setCell ⟨w.heap.size + 1, 0, none⟩ (.int .i64 0)) m :=
      (hO2.set_ (p := ⟨w.heap.size, 0, none⟩) (.inr (by simp)) _).set_ (p := ⟨w.heap.size + 1, 0, none⟩) (.inr (by simp)) _
    have e0 := ((b0.set_ 0 (.int .i64 q)).far (p := ⟨w.heap.size + 1, 0, none⟩) (by simp) (.int .i64 0)).cell 0
    have e1 := ((Blk.far b1 (p := ⟨w.heap.size, 0, none⟩) (by simp) (.int .i64 q)).set_ 0 (.int .i64 0)).cell 0
    simp at e0 e1
    have HB := Lib.hid hbm; have HO3 := Lib.hid hO3; have E0 := Lib.hid e0; have E1 := Lib.hid e1
    clear b0 b1 ha hb ho1 ho2 hO2 hbm hO3 HC B0 B1 HO e0 e1 HW
    go_wp2
    refine leaves_cons (f := 86) (args := #[.pointer (some ⟨w.heap.size, 0, none⟩), .pointer (some ⟨w.heap.size + 1, 0, none⟩)]) (by simp) (by simp [go_sem]) ?_
    refine (catch_idle _ _ _).mono ?_
    rintro e u' w'' ⟨rfl, rfl, rfl⟩
    have e0 := E0.out; have e1 := E1.out
    simp [Leaves, settle, results, Try.results50, go_sem, e0, e1]
    exact ⟨HO3.out, rfl, HB.out⟩
  | error k =>
    have HU := Lib.hid hu
    clear hu
    go_enter_defers Try.func50, Try.ntmps50
    go_wp2_with fail
    rw [← HW.out]
    refine HC.out.mono ?_
    rw [HU.out]
    rintro e w2 ⟨w1, ho1, ho2, rfl, rfl⟩
    have b0 := B0.out.grown ho1 (by simp; omega)
    have b1 := B1.out.grown ho1 (by simp)
    have bm := HBM.out.grown ho1 (by simp; omega)
    have c0 := b0.cell 0
    have f0 := b0.frozen 0
    have d1 := (Blk.far b1 (p := ⟨w.heap.size, 0, none⟩) (by simp) (.int .i64 0)).cell 0
    have g1 := (Blk.far b1 (p := ⟨w.heap.size, 0, none⟩) (by simp) (.int .i64 0)).frozen 0
    simp at c0 d1
    have hO2 : Only w w1 m := ⟨ho1.os.trans HO.out.os, ho1.tape.trans HO.out.tape, ho1.output.trans HO.out.output, Nat.le_trans HO.out.size ho1.size, fun i hi hne => (ho1.block i (Nat.lt_of_lt_of_le hi HO.out.size) (by simp; omega)).trans (HO.out.block i hi hne)⟩
    have hbm : Blk ((w1.setCell ⟨w.heap.size, 0, none⟩ (.int .i64 0)).setCell ⟨w.heap.size + 1, 0, none⟩ (.int .i64 k)) m 22 #[.int .u64 0] :=
      Blk.far (Blk.far bm (p := ⟨w.heap.size, 0, none⟩) (by simp; omega) _) (p := ⟨w.heap.size + 1, 0, none⟩) (by simp; omega) _
    have hO3 : Only w ((w1.setCell ⟨w.heap.size, 0, none⟩ (.int .i64 0)).setCell ⟨w.heap.size + 1, 0, none⟩ (.int .i64 k)) m :=
      (hO2.set_ (p := ⟨w.heap.size, 0, none⟩) (.inr (by simp)) _).set_ (p := ⟨w.heap.size + 1, 0, none⟩) (.inr (by simp)) _
    have e0 := ((b0.set_ 0 (.int .i64 0)).far (p := ⟨w.heap.size + 1, 0, none⟩) (by simp) (.int .i64 k)).cell 0
    have e1 := ((Blk.far b1 (p := ⟨w.heap.size, 0, none⟩) (by simp) (.int .i64 0)).set_ 0 (.int .i64 k)).cell 0
    simp at e0 e1
    have HB := Lib.hid hbm; have HO3 := Lib.hid hO3; have E0 := Lib.hid e0; have E1 := Lib.hid e1
    clear b0 b1 bm ho1 ho2 hO2 hbm hO3 HC B0 B1 HO e0 e1 HW
    unfold gives
    go_wp2
    refine leaves_cons (f := 86) (args := #[.pointer (some ⟨w.heap.size, 0, none⟩), .pointer (some ⟨w.heap.size + 1, 0, none⟩)]) (by simp) (by simp [go_sem]) ?_
    refine (catch_panicking _ _ k _ _ [] _ c0 f0 d1 g1).mono ?_
    rintro e u' w'' ⟨rfl, rfl, rfl⟩
    have e0 := E0.out; have e1 := E1.out
    simp [Leaves, settle, results, Try.results50, go_sem, e0, e1]
    exact ⟨HO3.out, rfl, HB.out⟩

def UintRead (r : Except Int (Nat × Nat)) (w : World) (e : Ending) (w' : World) : Prop :=
  Below w.heap.size w w' ∧ match r with
    | .ok (n, q) => e = .returned (.tuple #[.int .u64 n, .int .i64 q, .int .i64 0])
    | .error k => e = .returned (.tuple #[.int .u64 0, .int .i64 0, .int .i64 k])

set_option maxHeartbeats 1000000 in
theorem readuint_any (s : ByteArray) (p : Nat) (w : World) (hs : s.size ≤ 100000) (hp : p ≤ s.size) :
    Calls Try.prog 14 #[.string s, .int .i64 p] w fun e w' => UintRead (readU s p 0 0) w e w' := by
  have hmf : ∀ (fn : Fn) (first cap : Array Value) (w : World), (Instr.makeFunc fn first cap).run Try.prog w = .ok (.func fn first cap) w := fun _ _ _ _ => rfl
  obtain ⟨W, hW⟩ : ∃ W, W = w.alloc (.cells #[.int .u64 0] 22) := ⟨_, rfl⟩
  have bm : Blk W w.heap.size 22 #[.int .u64 0] := by rw [hW]; exact Blk.new w 22 _
  have hB : Below w.heap.size w W := by rw [hW]; exact (Below.refl _ _).alloc (Nat.le_refl _) _
  have hr := reads_uint s p w.heap.size W hs hp bm
  have HW := Lib.hid hW; have HB := Lib.hid hB; have HR := Lib.hid hr
  clear hW bm hB hr
  cases hu : readU s p 0 0 with
  | ok nq =>
    obtain ⟨n, q⟩ := nq
    have HU := Lib.hid hu
    clear hu
    go_enter Try.func14, Try.ntmps14
    go_wp2_with fail
    rw [← HW.out]
    refine HR.out.mono ?_
    rw [HU.out]
    rintro e w2 ⟨ho, rfl, hb⟩
    have c0 := hb.cell 0
    have f0 := hb.frozen 0
    have c1 := (hb.set_ 0 (.int .u64 n)).cell 0
    simp at c0 c1
    have hl := (Go.Proofs.Ytemhinagajfemaa.Below.only HB.out ho (Nat.le_refl _) HB.out.size).setCell (p := ⟨w.heap.size, 0, none⟩) (Nat.le_refl _) (.int .u64 n)
    have HL := Lib.hid hl
    clear hl ho hb HR HB HW
    go_wp2
    refine bodyPost_ret (v := .tuple #[.int .u64 n, .int .i64 q, .int .i64 0]) (by simp [results, Try.results14, go_sem, c1]) rfl ?_
    exact ⟨HL.out, rfl⟩
  | error k =>
    have HU := Lib.hid hu
    clear hu
    go_enter Try.func14, Try.ntmps14
    go_wp2_with fail
    rw [← HW.out]
    refine HR.out.mono ?_
    rw [HU.out]
    rintro e w2 ⟨ho, rfl, hb⟩
    have c0 := hb.cell 0
    have f0 := hb.frozen 0
    have c1 := (hb.set_ 0 (.int .u64 0)).cell 0
    simp at c0 c1
    have hl := (Go.Proofs.Ytemhinagajfemaa.Below.only HB.out ho (Nat.le_refl _) HB.out.size).setCell (p := ⟨w.heap.size, 0, none⟩) (Nat.le_refl _) (.int .u64 0)
    have HL := Lib.hid hl
    clear hl ho hb HR HB HW
    go_wp2
    refine bodyPost_ret (v := .tuple #[.int .u64 0, .int .i64 0, .int .i64 k]) (by simp [results, Try.results14, go_sem, c1]) rfl ?_
    exact ⟨HL.out, rfl⟩
end Go.Proofs.Ytemhinagajfemaa
