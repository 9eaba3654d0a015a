/- What a reader reads as a string. -/
import Derived.Test.YtaamihdibpioaaaGreatJkM16
import Derived.Defers
import Derived.Recover
import Derived.Laws.Pointers
namespace Go.Proofs.YtaamihdibpioaaaGreat
set_option linter.unusedVariables false
open Go.RowKit

/-- A string of at most so many bytes: the string and the place behind it; or the error. -/
def readS (s : ByteArray) (p : Nat) (most : Int) : Except Int (ByteArray × Nat) :=
  match readU s p 0 0 with
  | .error k => .error k
  | .ok (n, q) => if (n : Int) ≤ most then (if n ≤ s.size - q then .ok (s.extract q (q + n), q + n) else .error 14) else .error 5

def StrRead (r : Except Int (ByteArray × Nat)) (s : ByteArray) (parts : Int) (g : Nat) (w : World) (e : Ending) (w' : World) : Prop :=
  match r with
  | .ok (t, q) => e = .returned (.string t) ∧ At w' g s q parts ∧ Only w w' g
  | .error k => e = gives k ∧ Only w w' g

set_option maxHeartbeats 1000000 in
set_option maxRecDepth 100000 in
theorem rstr_any (s : ByteArray) (p : Nat) (parts most : Int) (g : Nat) (w : World) (hs : s.size ≤ 100000) (hp : p ≤ s.size) (hm1 : -9223372036854775808 ≤ most) (hm2 : most ≤ 9223372036854775807) (h : At w g s p parts) :
    Calls Tryz.prog 178 #[.pointer (some ⟨g, 0, none⟩), .int .i64 most] w fun e w' => StrRead (readS s p most) s parts g w e w' := by
  have hr := ruint_any s p parts g w hs hp h
  clear h
  cases hu : readU s p 0 0 with
  | error k =>
    rw [hu] at hr
    have he : readS s p most = .error k := by unfold readS; rw [hu]
    have HE := Lib.hid he
    have HR := Lib.hid hr
    clear hr hu he
    go_enter Tryz.func178, Tryz.ntmps178
    go_wp2_with fail
    refine HR.out.mono ?_
    rintro e w2 ⟨rfl, ho2⟩
    unfold gives
    go_wp2
    refine ⟨rfl, ?_⟩
    unfold StrRead
    rw [HE.out]
    exact ⟨rfl, ho2⟩
  | ok nq =>
    obtain ⟨n, q⟩ := nq
    rw [hu] at hr
    obtain ⟨hn, hpq, hqs⟩ := readU_lt s p 0 0 (by decide) (by omega) n q hu
    have hre : readS s p most = if (n : Int) ≤ most then (if n ≤ s.size - q then .ok (s.extract q (q + n), q + n) else .error 14) else .error 5 := by unfold readS; rw [hu]
    have HR := Lib.hid hr
    clear hr hu
    by_cases hb : (n : Int) ≤ most
    · have hge : decide ((0 : Int) ≤ most) = true := by simp; omega
      have hcv : IntKind.u64.wrap most = most := by rw [IntKind.wrap_u64]; omega
      have hle : decide ((n : Int) ≤ most) = true := by simp; omega
      have hin : IntKind.i64.wrap (n : Int) = (n : Int) := IntWalk.i64_in _ (by omega)
      rw [if_pos hb] at hre
      by_cases hc : n ≤ s.size - q
      · rw [if_pos hc] at hre
        have HE := Lib.hid hre
        have hd : decide ((n : Int) ≤ (s.size : Int) - (q : Int)) = true := by simp; omega
        have hsub : IntKind.i64.wrap ((s.size : Int) - (q : Int)) = (s.size : Int) - (q : Int) := IntWalk.i64_in _ (by omega)
        have hsum : IntKind.i64.wrap ((q : Int) + (n : Int)) = (q : Int) + (n : Int) := IntWalk.i64_in _ (by omega)
        have hback : IntKind.i64.wrap ((q : Int) + (n : Int) - (n : Int)) = (q : Int) := by rw [IntWalk.i64_in _ (by omega)]; omega
        have hext : s.extract (q + n - n) (q + n) = s.extract q (q + n) := by rw [Nat.add_sub_cancel]
        have HX := Lib.hid hsum; have HY := Lib.hid hback
        clear hre hsum hback hext
        go_enter Tryz.func178, Tryz.ntmps178
        go_wp2_with fail
        refine HR.out.mono ?_
        rintro e w2 ⟨rfl, ha2, ho2⟩
        obtain ⟨W, hW⟩ : ∃ W, W = (w2.setCell ⟨g, 1, none⟩ (.int .i64 ((q : Int) + (n : Int)))).drew := ⟨_, rfl⟩
        have h2 : At W g s (q + n) parts := by
          rw [hW]
          exact (Blk.set_ ha2 1 (.int .i64 ((q : Int) + (n : Int))))
        have hO : Only w W g := by rw [hW]; exact (ho2.set_ (p := ⟨g, 1, none⟩) (.inl rfl) _).drew
        have h0 := ha2.cell 0
        have h1 := ha2.cell 1
        have hf := ha2.frozen 1
        have g0 := h2.cell 0
        have g1 := h2.cell 1
        simp at h0 h1 g0 g1
        have H2 := Lib.hid h2; have HO := Lib.hid hO; have HW := Lib.hid hW
        clear ha2 ho2 HR h2 hO hW
        go_wp2_with fail
        refine (must_ok _ _).mono ?_
        rintro e w' ⟨rfl, rfl⟩
        go_wp2_with fail
        go_still_tail 13, (by kernel_rfl)
        change wpList _ _ _ _ _ w2.drew
        go_wp2_with fail
        refine (must_ok _ _).mono ?_
        rintro e w' ⟨rfl, rfl⟩
        go_wp2
        rw [← HW.out]
        go_quiet (fail)
        go_wp2
        go_ret
        unfold StrRead
        rw [HE.out]
        exact ⟨rfl, Blk.drewN H2.out nq, HO.out.drewN nq⟩
      · rw [if_neg hc] at hre
        have HE := Lib.hid hre
        have hd : decide ((n : Int) ≤ (s.size : Int) - (q : Int)) = false := by simp; omega
        have hsub : IntKind.i64.wrap ((s.size : Int) - (q : Int)) = (s.size : Int) - (q : Int) := IntWalk.i64_in _ (by omega)
        clear hre
        go_enter Tryz.func178, Tryz.ntmps178
        go_wp2_with fail
        refine HR.out.mono ?_
        rintro e w2 ⟨rfl, ha2, ho2⟩
        have h0 := ha2.cell 0
        have h1 := ha2.cell 1
        simp at h0 h1
        have HO := Lib.hid ho2
        clear ha2 ho2 HR
        go_wp2_with fail
        refine (must_ok _ _).mono ?_
        rintro e w' ⟨rfl, rfl⟩
        go_wp2_with fail
        go_still_tail 13, (by kernel_rfl)
        change wpList _ _ _ _ _ w2.drew
        go_wp2_with fail
        refine (must_bad _ _).mono ?_
        rintro e w' ⟨rfl, rfl⟩
        go_wp2
        refine ⟨rfl, ?_⟩
        unfold StrRead
        rw [HE.out]
        exact ⟨rfl, HO.out.drew⟩
    · rw [if_neg hb] at hre
      have HE := Lib.hid hre
      clear hre
      by_cases hz : 0 ≤ most
      · have hge : decide ((0 : Int) ≤ most) = true := by simp; omega
        have hcv : IntKind.u64.wrap most = most := by rw [IntKind.wrap_u64]; omega
        have hle : decide ((n : Int) ≤ most) = false := by simp; omega
        go_enter Tryz.func178, Tryz.ntmps178
        go_wp2_with fail
        refine HR.out.mono ?_
        rintro e w2 ⟨rfl, ha2, ho2⟩
        have HO := Lib.hid ho2
        clear ha2 ho2 HR
        go_wp2_with fail
        refine (must_bad _ _).mono ?_
        rintro e w' ⟨rfl, rfl⟩
        go_wp2
        refine ⟨rfl, ?_⟩
        unfold StrRead
        rw [HE.out]
        exact ⟨rfl, HO.out⟩
      · have hge : decide ((0 : Int) ≤ most) = false := by simp; omega
        go_enter Tryz.func178, Tryz.ntmps178
        go_wp2_with fail
        refine HR.out.mono ?_
        rintro e w2 ⟨rfl, ha2, ho2⟩
        have HO := Lib.hid ho2
        clear ha2 ho2 HR
        go_wp2_with fail
        refine (must_bad _ _).mono ?_
        rintro e w' ⟨rfl, rfl⟩
        go_wp2
        refine ⟨rfl, ?_⟩
        unfold StrRead
        rw [HE.out]
        exact ⟨rfl, HO.out⟩
end Go.Proofs.YtaamihdibpioaaaGreat

/- How a reader is run, and what it gives up with caught: ReadUint. -/
namespace Go.Proofs.YtaamihdibpioaaaGreat
set_option linter.unusedVariables false
open Go.RowKit

theorem alloc_size' (w : World) (o : Obj) : (w.alloc o).heap.size = w.heap.size + 1 := by simp
theorem as_errno (W : World) (v : Value) : (Instr.typeAssert (.iface 25 v) 20 25 true).run Tryz.prog W = .ok (.tuple #[v, .bool true]) W := by kernel_rfl
theorem as_nil (W : World) : (Instr.typeAssert .nilIface 20 25 true).run Tryz.prog W = .ok (.tuple #[.int .i64 0, .bool false]) W := by kernel_rfl

set_option maxHeartbeats 1000000 in
set_option maxRecDepth 20000 in
theorem catch_panicking (p q : Addr) (k : Int) (x y : Value) (older : List PanicEntry) (w : World) (hc : w.cell? p = some x) (hz : w.frozen? p = false)
    (hd : (w.setCell p (.int .i64 0)).cell? q = some y) (hy : (w.setCell p (.int .i64 0)).frozen? q = false) :
    CallsD Tryz.prog 149 #[.pointer (some p), .pointer (some q)] (.panicking ({ v := .iface 25 (.int .i64 k), recovered := false } :: older)) w fun e u' w' =>
      e = .returned (.tuple #[]) ∧ u' = .panicking ({ v := .iface 25 (.int .i64 k), recovered := true } :: older) ∧ w' = (w.setCell p (.int .i64 0)).setCell q (.int .i64 k) := by
  refine callsD_of_wpS Tryz.func149 rfl fun c₀ cs hu => ?_
  apply wpS_seq
  apply wpS_region
  simp [wpOpsS, go_sem, recoverD, hu, Tryz.ntmps149, Exit.thenS, as_errno]
  apply wpS_seq
  apply wpS_region
  simp [wpOpsS, go_sem, Exit.thenS]
  refine wpS_cond (t := true) (by simp [Act.eval]) ?_
  simp only [if_true]
  apply wpS_region
  simp [wpOpsS, go_sem, hc, hz, hd, hy, bodyPostS, results, Tryz.results149]

set_option maxHeartbeats 1000000 in
set_option maxRecDepth 20000 in
theorem catch_idle (p q : Addr) (w : World) :
    CallsD Tryz.prog 149 #[.pointer (some p), .pointer (some q)] .returning w fun e u' w' => e = .returned (.tuple #[]) ∧ u' = .returning ∧ w' = w := by
  refine callsD_of_wpS Tryz.func149 rfl fun c₀ cs hu => ?_
  apply wpS_seq
  apply wpS_region
  simp [wpOpsS, go_sem, recoverD, hu, Tryz.ntmps149, Exit.thenS, as_nil]
  apply wpS_seq
  apply wpS_region
  simp [wpOpsS, go_sem, Exit.thenS]
  refine wpS_cond (t := false) (by simp [Act.eval]) ?_
  simp only [Bool.false_eq_true, if_false]
  refine wpS_of_wp (wp_skip ?_)
  cases c₀
  simp_all [bodyPostS, results, Tryz.results149]

/-- What the closure did: the reader's block first, then the number's. -/
def CloRead (r : Except Int (Nat × Nat)) (s : ByteArray) (parts : Int) (g m : Nat) (w : World) (e : Ending) (w' : World) : Prop :=
  ∃ w1, Only w w1 g ∧ Only w1 w' m ∧ match r with
    | .ok (n, q) => e = .returned (.tuple #[]) ∧ At w' g s q parts ∧ Blk w' m 147 #[.int .u64 n]
    | .error k => e = gives k ∧ w1 = w'

set_option maxHeartbeats 1000000 in
theorem clo_any (s : ByteArray) (p : Nat) (parts : Int) (g m : Nat) (w : World) (hs : s.size ≤ 100000) (hp : p ≤ s.size) (h : At w g s p parts) (hm : Blk w m 147 #[.int .u64 0]) (hgm : g ≠ m) :
    Calls Tryz.prog 125 #[.pointer (some ⟨g, 0, none⟩), .pointer (some ⟨m, 0, none⟩)] w fun e w' => CloRead (readU s p 0 0) s parts g m w e w' := by
  have hr := ruint_any s p parts g w hs hp h
  have HR := Lib.hid hr
  cases hu : readU s p 0 0 with
  | ok nq =>
    obtain ⟨n, q⟩ := nq
    rw [hu] at hr
    have HR := Lib.hid hr
    have HM := Lib.hid hm
    clear hr hu h hm
    go_enter Tryz.func125, Tryz.ntmps125
    go_wp2_with fail
    refine HR.out.mono ?_
    rintro e w2 ⟨rfl, ha2, ho2⟩
    have hm2 : Blk w2 m 147 #[.int .u64 0] := HM.out.grown ho2 (by simp; omega)
    have c0 := hm2.cell 0
    have f0 := hm2.frozen 0
    simp at c0
    have hm3 := hm2.set_ 0 (.int .u64 n)
    have ha3 := Blk.far ha2 (p := ⟨m, 0, none⟩) hgm (.int .u64 n)
    have HM3 := Lib.hid hm3; have HA3 := Lib.hid ha3; have HO2 := Lib.hid ho2
    clear hm3 ha3 ho2 hm2 ha2
    go_wp2
    go_end0
    exact ⟨w2, HO2.out, (Only.refl w2 m).set_ (p := ⟨m, 0, none⟩) (.inl rfl) _, rfl, HA3.out, HM3.out⟩
  | error k =>
    rw [hu] at hr
    have HR := Lib.hid hr
    clear hr hu h hm
    go_enter Tryz.func125, Tryz.ntmps125
    go_wp2_with fail
    refine HR.out.mono ?_
    rintro e w2 ⟨rfl, ho2⟩
    unfold gives
    go_wp2
    exact ⟨rfl, w2, ho2, Only.refl w2 m, rfl, rfl⟩

def ReadsRes (r : Except Int (Nat × Nat)) (m : Nat) (w : World) (e : Ending) (w' : World) : Prop :=
  Only w w' m ∧ match r with
    | .ok (n, q) => e = .returned (.tuple #[.int .i64 q, .int .i64 0]) ∧ Blk w' m 147 #[.int .u64 n]
    | .error k => e = .returned (.tuple #[.int .i64 0, .int .i64 k]) ∧ Blk w' m 147 #[.int .u64 0]

set_option maxHeartbeats 1000000 in
set_option maxRecDepth 20000 in
theorem reads_uint (s : ByteArray) (p : Nat) (m : Nat) (w : World) (hs : s.size ≤ 100000) (hp : p ≤ s.size) (hm : Blk w m 147 #[.int .u64 0]) :
    Calls Tryz.prog 124 #[.string s, .int .i64 p, .func (Fn.func 125) #[] #[.pointer (some ⟨m, 0, none⟩)]] w fun e w' => ReadsRes (readU s p 0 0) m w e w' := by
  have hmf : ∀ (fn : Fn) (first cap : Array Value) (w : World), (Instr.makeFunc fn first cap).run Tryz.prog w = .ok (.func fn first cap) w := fun _ _ _ _ => rfl
  have hd : decide ((s.size : Int) < (p : Int)) = false := by simp; omega
  have hd2 : decide (s.size < p) = false := by simp; omega
  obtain ⟨W, hW⟩ : ∃ W, W = ((w.alloc (.cells #[.int .i64 0] 3)).alloc (.cells #[.int .i64 0] 25)).alloc (.cells #[.string s, .int .i64 p, .int .i64 0] 220) := ⟨_, rfl⟩
  have hmlt := hm.lt
  have b0 : Blk W w.heap.size 3 #[.int .i64 0] := by rw [hW]; exact ((Blk.new w 3 _).alloc _).alloc _
  have b1 : Blk W (w.heap.size + 1) 25 #[.int .i64 0] := by
    rw [hW]
    have := Blk.new (w.alloc (.cells #[.int .i64 0] 3)) 25 #[.int .i64 0]
    rw [alloc_size'] at this
    exact this.alloc _
  have b2 : At W (w.heap.size + 1 + 1) s p 0 := by
    rw [hW]
    have := Blk.new ((w.alloc (.cells #[.int .i64 0] 3)).alloc (.cells #[.int .i64 0] 25)) 220 #[.string s, .int .i64 p, .int .i64 0]
    rw [alloc_size', alloc_size'] at this
    exact this
  have bm : Blk W m 147 #[.int .u64 0] := by rw [hW]; exact ((hm.alloc _).alloc _).alloc _
  have hO : Only w W m := by rw [hW]; exact (((Only.refl w m).alloc _).alloc _).alloc _
  have hclo := clo_any s p 0 (w.heap.size + 1 + 1) m W hs hp b2 bm (by omega)
  have HW := Lib.hid hW; have B0 := Lib.hid b0; have B1 := Lib.hid b1; have HO := Lib.hid hO; have HC := Lib.hid hclo; have HBM := Lib.hid bm
  clear hm hW b0 b1 b2 bm hO hclo
  cases hu : readU s p 0 0 with
  | ok nq =>
    obtain ⟨n, q⟩ := nq
    have HU := Lib.hid hu
    clear hu
    go_enter_defers Tryz.func124, Tryz.ntmps124
    go_wp2_with fail
    rw [← HW.out]
    refine HC.out.mono ?_
    rw [HU.out]
    rintro e w2 ⟨w1, ho1, ho2, rfl, ha, hb⟩
    have b0 := (B0.out.grown ho1 (by simp; omega)).grown ho2 (by simp; omega)
    have b1 := (B1.out.grown ho1 (by simp)).grown ho2 (by simp; omega)
    have c2 := ha.cell 1
    have c0 := b0.cell 0
    have f0 := b0.frozen 0
    have c1 := b1.cell 0
    have f1 := b1.frozen 0
    simp at c0 c1 c2
    have d1 := (Blk.far b1 (p := ⟨w.heap.size, 0, none⟩) (by simp) (.int .i64 q)).cell 0
    have g1 := (Blk.far b1 (p := ⟨w.heap.size, 0, none⟩) (by simp) (.int .i64 q)).frozen 0
    simp at d1
    have hO2 : Only w w2 m := by
      have h1 : Only w w1 m := ⟨ho1.os.trans HO.out.os, ho1.tape.trans HO.out.tape, ho1.output.trans HO.out.output, Nat.le_trans HO.out.size ho1.size, fun i hi hne => (ho1.block i (Nat.lt_of_lt_of_le hi HO.out.size) (by simp; omega)).trans (HO.out.block i hi hne)⟩
      exact h1.trans ho2
    have hbm : Blk ((w2.setCell ⟨w.heap.size, 0, none⟩ (.int .i64 q)).setCell ⟨w.heap.size + 1, 0, none⟩ (.int .i64 0)) m 147 #[.int .u64 n] :=
      Blk.far (Blk.far hb (p := ⟨w.heap.size, 0, none⟩) (by simp; omega) _) (p := ⟨w.heap.size + 1, 0, none⟩) (by simp; omega) _
    have hO3 : Only w ((w2.setCell ⟨w.heap.size, 0, none⟩ (.int .i64 q)).setCell ⟨w.heap.size + 1, 0, none⟩ (.int .i64 0)) m :=
      (hO2.set_ (p := ⟨w.heap.size, 0, none⟩) (.inr (by simp)) _).set_ (p := ⟨w.heap.size + 1, 0, none⟩) (.inr (by simp)) _
    have e0 := ((b0.set_ 0 (.int .i64 q)).far (p := ⟨w.heap.size + 1, 0, none⟩) (by simp) (.int .i64 0)).cell 0
    have e1 := ((Blk.far b1 (p := ⟨w.heap.size, 0, none⟩) (by simp) (.int .i64 q)).set_ 0 (.int .i64 0)).cell 0
    simp at e0 e1
    have HB := Lib.hid hbm; have HO3 := Lib.hid hO3; have E0 := Lib.hid e0; have E1 := Lib.hid e1
    clear b0 b1 ha hb ho1 ho2 hO2 hbm hO3 HC B0 B1 HO e0 e1 HW
    go_wp2
    refine leaves_cons (f := 149) (args := #[.pointer (some ⟨w.heap.size, 0, none⟩), .pointer (some ⟨w.heap.size + 1, 0, none⟩)]) (by simp) (by simp [go_sem]) ?_
    refine (catch_idle _ _ _).mono ?_
    rintro e u' w'' ⟨rfl, rfl, rfl⟩
    have e0 := E0.out; have e1 := E1.out
    simp [Leaves, settle, results, Tryz.results124, go_sem, e0, e1]
    exact ⟨HO3.out, rfl, HB.out⟩
  | error k =>
    have HU := Lib.hid hu
    clear hu
    go_enter_defers Tryz.func124, Tryz.ntmps124
    go_wp2_with fail
    rw [← HW.out]
    refine HC.out.mono ?_
    rw [HU.out]
    rintro e w2 ⟨w1, ho1, ho2, rfl, rfl⟩
    have b0 := B0.out.grown ho1 (by simp; omega)
    have b1 := B1.out.grown ho1 (by simp)
    have bm := HBM.out.grown ho1 (by simp; omega)
    have c0 := b0.cell 0
    have f0 := b0.frozen 0
    have d1 := (Blk.far b1 (p := ⟨w.heap.size, 0, none⟩) (by simp) (.int .i64 0)).cell 0
    have g1 := (Blk.far b1 (p := ⟨w.heap.size, 0, none⟩) (by simp) (.int .i64 0)).frozen 0
    simp at c0 d1
    have hO2 : Only w w1 m := ⟨ho1.os.trans HO.out.os, ho1.tape.trans HO.out.tape, ho1.output.trans HO.out.output, Nat.le_trans HO.out.size ho1.size, fun i hi hne => (ho1.block i (Nat.lt_of_lt_of_le hi HO.out.size) (by simp; omega)).trans (HO.out.block i hi hne)⟩
    have hbm : Blk ((w1.setCell ⟨w.heap.size, 0, none⟩ (.int .i64 0)).setCell ⟨w.heap.size + 1, 0, none⟩ (.int .i64 k)) m 147 #[.int .u64 0] :=
      Blk.far (Blk.far bm (p := ⟨w.heap.size, 0, none⟩) (by simp; omega) _) (p := ⟨w.heap.size + 1, 0, none⟩) (by simp; omega) _
    have hO3 : Only w ((w1.setCell ⟨w.heap.size, 0, none⟩ (.int .i64 0)).setCell ⟨w.heap.size + 1, 0, none⟩ (.int .i64 k)) m :=
      (hO2.set_ (p := ⟨w.heap.size, 0, none⟩) (.inr (by simp)) _).set_ (p := ⟨w.heap.size + 1, 0, none⟩) (.inr (by simp)) _
    have e0 := ((b0.set_ 0 (.int .i64 0)).far (p := ⟨w.heap.size + 1, 0, none⟩) (by simp) (.int .i64 k)).cell 0
    have e1 := ((Blk.far b1 (p := ⟨w.heap.size, 0, none⟩) (by simp) (.int .i64 0)).set_ 0 (.int .i64 k)).cell 0
    simp at e0 e1
    have HB := Lib.hid hbm; have HO3 := Lib.hid hO3; have E0 := Lib.hid e0; have E1 := Lib.hid e1
    clear b0 b1 bm ho1 ho2 hO2 hbm hO3 HC B0 B1 HO e0 e1 HW
    unfold gives
    go_wp2
    refine leaves_cons (f := 149) (args := #[.pointer (some ⟨w.heap.size, 0, none⟩), .pointer (some ⟨w.heap.size + 1, 0, none⟩)]) (by simp) (by simp [go_sem]) ?_
    refine (catch_panicking _ _ k _ _ [] _ c0 f0 d1 g1).mono ?_
    rintro e u' w'' ⟨rfl, rfl, rfl⟩
    have e0 := E0.out; have e1 := E1.out
    simp [Leaves, settle, results, Tryz.results124, go_sem, e0, e1]
    exact ⟨HO3.out, rfl, HB.out⟩

def UintRead (r : Except Int (Nat × Nat)) (w : World) (e : Ending) (w' : World) : Prop :=
  Below w.heap.size w w' ∧ match r with
    | .ok (n, q) => e = .returned (.tuple #[.int .u64 n, .int .i64 q, .int .i64 0])
    | .error k => e = .returned (.tuple #[.int .u64 0, .int .i64 0, .int .i64 k])

set_option maxHeartbeats 1000000 in
theorem readuint_any (s : ByteArray) (p : Nat) (w : World) (hs : s.size ≤ 100000) (hp : p ≤ s.size) :
    Calls Tryz.prog 104 #[.string s, .int .i64 p] w fun e w' => UintRead (readU s p 0 0) w e w' := by
  have hmf : ∀ (fn : Fn) (first cap : Array Value) (w : World), (Instr.makeFunc fn first cap).run Tryz.prog w = .ok (.func fn first cap) w := fun _ _ _ _ => rfl
  obtain ⟨W, hW⟩ : ∃ W, W = w.alloc (.cells #[.int .u64 0] 147) := ⟨_, rfl⟩
  have bm : Blk W w.heap.size 147 #[.int .u64 0] := by rw [hW]; exact Blk.new w 147 _
  have hB : Below w.heap.size w W := by rw [hW]; exact (Below.refl _ _).alloc (Nat.le_refl _) _
  have hr := reads_uint s p w.heap.size W hs hp bm
  have HW := Lib.hid hW; have HB := Lib.hid hB; have HR := Lib.hid hr
  clear hW bm hB hr
  cases hu : readU s p 0 0 with
  | ok nq =>
    obtain ⟨n, q⟩ := nq
    have HU := Lib.hid hu
    clear hu
    go_enter Tryz.func104, Tryz.ntmps104
    go_wp2_with fail
    rw [← HW.out]
    refine HR.out.mono ?_
    rw [HU.out]
    rintro e w2 ⟨ho, rfl, hb⟩
    have c0 := hb.cell 0
    have f0 := hb.frozen 0
    have c1 := (hb.set_ 0 (.int .u64 n)).cell 0
    simp at c0 c1
    have hl := (Go.Proofs.YtaamihdibpioaaaGreat.Below.only HB.out ho (Nat.le_refl _) HB.out.size).setCell (p := ⟨w.heap.size, 0, none⟩) (Nat.le_refl _) (.int .u64 n)
    have HL := Lib.hid hl
    clear hl ho hb HR HB HW
    go_wp2
    refine bodyPost_ret (v := .tuple #[.int .u64 n, .int .i64 q, .int .i64 0]) (by simp [results, Tryz.results104, go_sem, c1]) rfl ?_
    exact ⟨HL.out, rfl⟩
  | error k =>
    have HU := Lib.hid hu
    clear hu
    go_enter Tryz.func104, Tryz.ntmps104
    go_wp2_with fail
    rw [← HW.out]
    refine HR.out.mono ?_
    rw [HU.out]
    rintro e w2 ⟨ho, rfl, hb⟩
    have c0 := hb.cell 0
    have f0 := hb.frozen 0
    have c1 := (hb.set_ 0 (.int .u64 0)).cell 0
    simp at c0 c1
    have hl := (Go.Proofs.YtaamihdibpioaaaGreat.Below.only HB.out ho (Nat.le_refl _) HB.out.size).setCell (p := ⟨w.heap.size, 0, none⟩) (Nat.le_refl _) (.int .u64 0)
    have HL := Lib.hid hl
    clear hl ho hb HR HB HW
    go_wp2
    refine bodyPost_ret (v := .tuple #[.int .u64 0, .int .i64 0, .int .i64 k]) (by simp [results, Tryz.results104, go_sem, c1]) rfl ?_
    exact ⟨HL.out, rfl⟩
end Go.Proofs.YtaamihdibpioaaaGreat

/- codec.reads at any closure: what it read, or the error that was given up with. -/
namespace Go.Proofs.YtaamihdibpioaaaGreat
set_option linter.unusedVariables false
open Go.RowKit

/-- What a reading closure did: Q holds behind a reading, Z where it gave up. -/
def CloDid (r : Except Int Nat) (s : ByteArray) (g m : Nat) (Q Z : World → Prop) (w : World) (e : Ending) (w' : World) : Prop :=
  ∃ w1, Only w w1 g ∧ Only w1 w' m ∧ match r with
    | .ok q => e = .returned (.tuple #[]) ∧ (∃ parts : Int, At w' g s q parts) ∧ Q w'
    | .error k => e = gives k ∧ Z w'
def ReadsDid (r : Except Int Nat) (m : Nat) (Q Z : World → Prop) (w : World) (e : Ending) (w' : World) : Prop :=
  Only w w' m ∧ match r with
    | .ok q => e = .returned (.tuple #[.int .i64 q, .int .i64 0]) ∧ Q w'
    | .error k => e = .returned (.tuple #[.int .i64 0, .int .i64 k]) ∧ Z w'

/-- A property of memory that stores into the two result cells leave alone. -/
def Apart2 (b : Nat) (Q : World → Prop) : Prop := ∀ (W : World) (p : Addr) (u : Value), (p.block = b ∨ p.block = b + 1) → Q W → Q (W.setCell p u)

set_option maxHeartbeats 1000000 in
set_option maxRecDepth 20000 in
theorem reads_any (CLO : FuncId) (caps : Array Value) (r : Except Int Nat) (s : ByteArray) (p : Nat) (m : Nat) (Q Z : World → Prop) (w : World) (hs : s.size ≤ 100000) (hp : p ≤ s.size) (hm : m < w.heap.size)
    (henter : ∀ (args : Array Value) (W : World), (callFunc CLO args).run Tryz.prog W = .ok (.enter CLO args) W) (hQ : Apart2 w.heap.size Q) (hZ : Apart2 w.heap.size Z)
    (hclo : ∀ W, Below w.heap.size w W → W.heap.size = w.heap.size + 1 + 1 + 1 → At W (w.heap.size + 1 + 1) s p 0 → Calls Tryz.prog CLO (#[.pointer (some ⟨w.heap.size + 1 + 1, 0, none⟩)] ++ caps) W fun e w' => CloDid r s (w.heap.size + 1 + 1) m Q Z W e w') :
    Calls Tryz.prog 124 #[.string s, .int .i64 p, .func (Fn.func CLO) #[] caps] w fun e w' => ReadsDid r m Q Z w e w' := by
  have hmf : ∀ (fn : Fn) (first cap : Array Value) (w : World), (Instr.makeFunc fn first cap).run Tryz.prog w = .ok (.func fn first cap) w := fun _ _ _ _ => rfl
  have hd : decide ((s.size : Int) < (p : Int)) = false := by simp; omega
  have hd2 : decide (s.size < p) = false := by simp; omega
  obtain ⟨W, hW⟩ : ∃ W, W = ((w.alloc (.cells #[.int .i64 0] 3)).alloc (.cells #[.int .i64 0] 25)).alloc (.cells #[.string s, .int .i64 p, .int .i64 0] 220) := ⟨_, rfl⟩
  have b0 : Blk W w.heap.size 3 #[.int .i64 0] := by rw [hW]; exact ((Blk.new w 3 _).alloc _).alloc _
  have b1 : Blk W (w.heap.size + 1) 25 #[.int .i64 0] := by
    rw [hW]
    have := Blk.new (w.alloc (.cells #[.int .i64 0] 3)) 25 #[.int .i64 0]
    rw [alloc_size'] at this
    exact this.alloc _
  have b2 : At W (w.heap.size + 1 + 1) s p 0 := by
    rw [hW]
    have := Blk.new ((w.alloc (.cells #[.int .i64 0] 3)).alloc (.cells #[.int .i64 0] 25)) 220 #[.string s, .int .i64 p, .int .i64 0]
    rw [alloc_size', alloc_size'] at this
    exact this
  have hO : Only w W m := by rw [hW]; exact (((Only.refl w m).alloc _).alloc _).alloc _
  have hBW : Below w.heap.size w W := by rw [hW]; exact (((Below.refl _ w).alloc (Nat.le_refl _) _).alloc (by simp) _).alloc (by simp; omega) _
  have hc := hclo W hBW (by rw [hW]; simp) b2
  have HW := Lib.hid hW; have B0 := Lib.hid b0; have B1 := Lib.hid b1; have HO := Lib.hid hO; have HC := Lib.hid hc; have HQ := Lib.hid hQ; have HZ := Lib.hid hZ
  clear hW b0 b1 b2 hO hc hclo hBW hQ hZ
  cases hu : r with
  | ok q =>
    have HU := Lib.hid hu
    clear hu
    go_enter_defers Tryz.func124, Tryz.ntmps124
    go_wp2_with fail
    rw [← HW.out]
    refine HC.out.mono ?_
    rw [HU.out]
    rintro e w2 ⟨w1, ho1, ho2, rfl, ⟨parts, ha⟩, hq⟩
    have b0 := (B0.out.grown ho1 (by simp; omega)).grown ho2 (by simp; omega)
    have b1 := (B1.out.grown ho1 (by simp)).grown ho2 (by simp; omega)
    have c2 := ha.cell 1
    have c0 := b0.cell 0
    have f0 := b0.frozen 0
    have c1 := b1.cell 0
    have f1 := b1.frozen 0
    simp at c0 c1 c2
    have d1 := (Blk.far b1 (p := ⟨w.heap.size, 0, none⟩) (by simp) (.int .i64 q)).cell 0
    have g1 := (Blk.far b1 (p := ⟨w.heap.size, 0, none⟩) (by simp) (.int .i64 q)).frozen 0
    simp at d1
    have hO2 : Only w w2 m := by
      have h1 : Only w w1 m := ⟨ho1.os.trans HO.out.os, ho1.tape.trans HO.out.tape, ho1.output.trans HO.out.output, Nat.le_trans HO.out.size ho1.size, fun i hi hne => (ho1.block i (Nat.lt_of_lt_of_le hi HO.out.size) (by simp; omega)).trans (HO.out.block i hi hne)⟩
      exact h1.trans ho2
    have hq3 : Q ((w2.setCell ⟨w.heap.size, 0, none⟩ (.int .i64 q)).setCell ⟨w.heap.size + 1, 0, none⟩ (.int .i64 0)) :=
      HQ.out _ ⟨w.heap.size + 1, 0, none⟩ _ (.inr rfl) (HQ.out _ ⟨w.heap.size, 0, none⟩ _ (.inl rfl) hq)
    have hO3 : Only w ((w2.setCell ⟨w.heap.size, 0, none⟩ (.int .i64 q)).setCell ⟨w.heap.size + 1, 0, none⟩ (.int .i64 0)) m :=
      (hO2.set_ (p := ⟨w.heap.size, 0, none⟩) (.inr (by simp)) _).set_ (p := ⟨w.heap.size + 1, 0, none⟩) (.inr (by simp)) _
    have e0 := ((b0.set_ 0 (.int .i64 q)).far (p := ⟨w.heap.size + 1, 0, none⟩) (by simp) (.int .i64 0)).cell 0
    have e1 := ((Blk.far b1 (p := ⟨w.heap.size, 0, none⟩) (by simp) (.int .i64 q)).set_ 0 (.int .i64 0)).cell 0
    simp at e0 e1
    have HB := Lib.hid hq3; have HO3 := Lib.hid hO3; have E0 := Lib.hid e0; have E1 := Lib.hid e1
    clear b0 b1 ha hq ho1 ho2 hO2 hq3 hO3 HC B0 B1 HO e0 e1 HW
    go_wp2
    refine leaves_cons (f := 149) (args := #[.pointer (some ⟨w.heap.size, 0, none⟩), .pointer (some ⟨w.heap.size + 1, 0, none⟩)]) (by simp) (by simp [go_sem]) ?_
    refine (catch_idle _ _ _).mono ?_
    rintro e u' w'' ⟨rfl, rfl, rfl⟩
    have e0 := E0.out; have e1 := E1.out
    simp [Leaves, settle, results, Tryz.results124, go_sem, e0, e1]
    exact ⟨HO3.out, rfl, HB.out⟩
  | error k =>
    have HU := Lib.hid hu
    clear hu
    go_enter_defers Tryz.func124, Tryz.ntmps124
    go_wp2_with fail
    rw [← HW.out]
    refine HC.out.mono ?_
    rw [HU.out]
    rintro e w2 ⟨w1, ho1, ho2, rfl, hz⟩
    have b0 := (B0.out.grown ho1 (by simp; omega)).grown ho2 (by simp; omega)
    have b1 := (B1.out.grown ho1 (by simp)).grown ho2 (by simp; omega)
    have c0 := b0.cell 0
    have f0 := b0.frozen 0
    have d1 := (Blk.far b1 (p := ⟨w.heap.size, 0, none⟩) (by simp) (.int .i64 0)).cell 0
    have g1 := (Blk.far b1 (p := ⟨w.heap.size, 0, none⟩) (by simp) (.int .i64 0)).frozen 0
    simp at c0 d1
    have hO2 : Only w w2 m := by
      have h1 : Only w w1 m := ⟨ho1.os.trans HO.out.os, ho1.tape.trans HO.out.tape, ho1.output.trans HO.out.output, Nat.le_trans HO.out.size ho1.size, fun i hi hne => (ho1.block i (Nat.lt_of_lt_of_le hi HO.out.size) (by simp; omega)).trans (HO.out.block i hi hne)⟩
      exact h1.trans ho2
    have hq3 : Z ((w2.setCell ⟨w.heap.size, 0, none⟩ (.int .i64 0)).setCell ⟨w.heap.size + 1, 0, none⟩ (.int .i64 k)) :=
      HZ.out _ ⟨w.heap.size + 1, 0, none⟩ _ (.inr rfl) (HZ.out _ ⟨w.heap.size, 0, none⟩ _ (.inl rfl) hz)
    have hO3 : Only w ((w2.setCell ⟨w.heap.size, 0, none⟩ (.int .i64 0)).setCell ⟨w.heap.size + 1, 0, none⟩ (.int .i64 k)) m :=
      (hO2.set_ (p := ⟨w.heap.size, 0, none⟩) (.inr (by simp)) _).set_ (p := ⟨w.heap.size + 1, 0, none⟩) (.inr (by simp)) _
    have e0 := ((b0.set_ 0 (.int .i64 0)).far (p := ⟨w.heap.size + 1, 0, none⟩) (by simp) (.int .i64 k)).cell 0
    have e1 := ((Blk.far b1 (p := ⟨w.heap.size, 0, none⟩) (by simp) (.int .i64 0)).set_ 0 (.int .i64 k)).cell 0
    simp at e0 e1
    have HB := Lib.hid hq3; have HO3 := Lib.hid hO3; have E0 := Lib.hid e0; have E1 := Lib.hid e1
    clear b0 b1 hz ho1 ho2 hO2 hq3 hO3 HC B0 B1 HO e0 e1 HW
    unfold gives
    go_wp2
    refine leaves_cons (f := 149) (args := #[.pointer (some ⟨w.heap.size, 0, none⟩), .pointer (some ⟨w.heap.size + 1, 0, none⟩)]) (by simp) (by simp [go_sem]) ?_
    refine (catch_panicking _ _ k _ _ [] _ c0 f0 d1 g1).mono ?_
    rintro e u' w'' ⟨rfl, rfl, rfl⟩
    have e0 := E0.out; have e1 := E1.out
    simp [Leaves, settle, results, Tryz.results124, go_sem, e0, e1]
    exact ⟨HO3.out, rfl, HB.out⟩

/-- Out of the bytes nothing is read. -/
theorem reads_out (CLO : FuncId) (caps : Array Value) (s : ByteArray) (at_ : Int) (w : World) (hs : s.size ≤ 100000) (hp : at_ < 0 ∨ (s.size : Int) < at_) :
    Calls Tryz.prog 124 #[.string s, .int .i64 at_, .func (Fn.func CLO) #[] caps] w fun e w' => e = .returned (.tuple #[.int .i64 0, .int .i64 3]) ∧ Below w.heap.size w w' := by
  obtain ⟨W, hW⟩ : ∃ W, W = ((w.alloc (.cells #[.int .i64 0] 3)).alloc (.cells #[.int .i64 3] 25)) := ⟨_, rfl⟩
  have b0 : Blk W w.heap.size 3 #[.int .i64 0] := by rw [hW]; exact (Blk.new w 3 _).alloc _
  have b1 : Blk W (w.heap.size + 1) 25 #[.int .i64 3] := by
    rw [hW]
    have := Blk.new (w.alloc (.cells #[.int .i64 0] 3)) 25 #[.int .i64 3]
    rw [alloc_size'] at this
    exact this
  have hBW : Below w.heap.size w W := by rw [hW]; exact ((Below.refl _ w).alloc (Nat.le_refl _) _).alloc (by simp) _
  have e0 := b0.cell 0; have e1 := b1.cell 0
  simp at e0 e1
  have HW := Lib.hid hW; have HB := Lib.hid hBW; have E0 := Lib.hid e0; have E1 := Lib.hid e1
  clear hW hBW e0 e1 b0 b1
  by_cases hz : at_ < 0
  · have i1 : decide (at_ < 0) = true := by simp; omega
    go_enter_defers Tryz.func124, Tryz.ntmps124
    go_wp2
    rw [← HW.out]
    have e0 := E0.out; have e1 := E1.out
    simp [bodyPostD, Leaves, settle, results, Tryz.results124, go_sem, e0, e1]
    exact HB.out
  · have i1 : decide (at_ < 0) = false := by simp; omega
    have i2 : decide ((s.size : Int) < at_) = true := by simp; omega
    go_enter_defers Tryz.func124, Tryz.ntmps124
    go_wp2
    rw [← HW.out]
    have e0 := E0.out; have e1 := E1.out
    simp [bodyPostD, Leaves, settle, results, Tryz.results124, go_sem, e0, e1]
    exact HB.out
end Go.Proofs.YtaamihdibpioaaaGreat

/- codec.ReadUint, ReadInt, ReadStr at any bytes, from any place on. -/
namespace Go.Proofs.YtaamihdibpioaaaGreat
set_option linter.unusedVariables false
open Go.RowKit

theorem run_enter {P : Program} {f : FuncId} {fn : Func} {c : Code} (hf : P.funcs[f]? = some fn) (hname : (fn.name == "runtime.NumGoroutine") = false) (hb : fn.body = some c) (args : Array Value) (w : World) :
    (callFunc f args).run P w = .ok (.enter f args) w := by
  have h1 : fn.name ≠ "runtime.NumGoroutine" := by simpa using hname
  simp [callFunc, hf, h1, hb]
theorem apart_blk {b m : Nat} {t : TypeId} {cs : Array Value} (h : m < b) : Apart2 b (fun W => Blk W m t cs) := fun W p u hp hq => Blk.far hq (by rcases hp with h' | h' <;> omega) u

/-- The place behind what was read, or the error. -/
def place {A : Type} (r : Except Int (A × Nat)) : Except Int Nat := match r with
  | .ok (_, q) => .ok q
  | .error k => .error k

end Go.Proofs.YtaamihdibpioaaaGreat
