/- pack's writer: a value, or none at all. -/
import Derived.Test.YtaamihdibpioaaaGreatJkM17
import Derived.Test.YtaamihdibpioaaaGreatJkM23
import Derived.Test.YtaamihdibpioaaaGreatJkM25
import Derived.Test.YtaamihdibpioaaaGreatJkM28
import Derived.Test.YtaamihdibpioaaaGreatJkM32
import Derived.Test.YtaamihdibpioaaaGreatJkM33
import Derived.Test.YtaamihdibpioaaaGreatJkM36
import Derived.Test.YtaamihdibpioaaaGreatJkM38
import Derived.Defers
import Derived.Recover
import Derived.Laws.Pointers
import Derived.RegionTactic
namespace Go.Proofs.YtaamihdibpioaaaGreat.Pk
set_option linter.unusedVariables false
open Go.RowKit

/-- The expression that is a variable, but for a value. -/
def varX (v : Val) : Exp := .mk 2 ⟨#[120]⟩ v .no [] .no []
theorem varX_in {w : World} {v : Val} (h : v.In w) : (varX v).In w := by
  rw [Exp.in_iff]
  refine ⟨⟨show i64r 2 from ⟨by omega, by omega⟩, show (⟨#[120]⟩ : ByteArray).size ≤ 140737488355328 from by decide, Nat.zero_le _, Nat.zero_le _, fun s hs => by cases hs⟩, h, rfl, rfl, fun x hx => by cases hx⟩
theorem varX_right (v : Val) : (varX v).RightB = v.noneB := by
  unfold Exp.RightB
  rw [Exp.rightB_eq]
  have h1 : (varX v).count 0 = 1 := by simp [varX, Exp.count_eq, Exp.xs, Exp.countAll]
  have h2 : namedP 2 ⟨#[120]⟩ [] 0 = true := by decide +kernel
  rw [h1]
  show (decide (1 ≤ 200) && (!decide (12 < 1) && nodeP 2 ⟨#[120]⟩ v [] 0 && Exp.rightAll [] 2)) = _
  unfold nodeP
  rw [h2]
  simp [wantsP, Exp.rightAll]
theorem in_under {B : Nat} {v : Val} {w w' : World} (h : v.In w) (hs : v.Sep (fun c => c < B)) (hb : Below B w w') : v.In w' :=
  h.carryS hs (fun b o hlt _ => hb.cell (p := ⟨b, o, none⟩) hlt) hb.size
theorem POr.map {r : Option (List UInt8)} {B b : Nat} {w w' : World} {e : Ending} (h : POr r B b w e w') : POr r B b w e w' := h

def someR (l : List UInt8) (v : Val) : Option (List UInt8) := (someB v).map (l ++ ·)
set_option maxHeartbeats 4000000 in
set_option maxRecDepth 100000 in
theorem psome_any (B b : Nat) (l : List UInt8) (v : Val) (w : World) (h : WB w B b l) (hB : B ≤ w.heap.size) (hv : v.In w) (hs : v.Sep (fun c => c < B)) (hl : l.length ≤ 1000000) :
    Calls Tryz.prog 66 #[.pointer (some ⟨b, 0, none⟩), v.agg] w fun e w' => POr (someR l v) B b w e w' := by
  obtain ⟨T, hT⟩ : ∃ T, T = w.heap.size := ⟨_, rfl⟩
  obtain ⟨W, hW⟩ : ∃ W, W = w.alloc (.cells #[.int .i64 v.k, .int .i64 v.n, .float .f64 v.f, .string v.s, v.na.val v.ns.length, v.xa.val v.xs.length] 37) := ⟨_, rfl⟩
  have hbW : Below T w W := by rw [hW, hT]; exact (Below.refl _ _).alloc (Nat.le_refl _) _
  have hkW : KeepT b w W := by rw [hW]; exact (KeepT.refl _ _).alloc _
  have hbx : Blk W T 37 #[.int .i64 v.k, .int .i64 v.n, .float .f64 v.f, .string v.s, v.na.val v.ns.length, v.xa.val v.xs.length] := by rw [hW, hT]; exact Blk.new _ _ _
  have hWB : WB W B b l := h.below (by rw [← hT]; exact hbW)
  have hvW : v.In W := hv.below (by rw [← hT]; exact hbW)
  have hBT : B ≤ T := by rw [hT]; exact hB
  have hbT : b ≠ T := by
    have : b < w.heap.size := by rcases h with h | h <;> exact h.lt
    omega
  have hzw : T < W.heap.size := hbx.lt
  obtain ⟨p4, q4, e4⟩ := hv.nslice
  obtain ⟨p5, q5, e5⟩ := hv.xslice
  have hsame := fun (hk : v.k = 0) => same0_any v W hvW hk
  have hrt := fun (W' : World) (hb : Below W.heap.size W W') => xrightf_any (varX v) W' (varX_in (hvW.below hb))
  simp only [varX_right] at hrt
  have hval := fun (W' : World) (hb : Below B W W') => value_any v W' (in_under hvW hs hb)
  have hxag : (varX v).agg = .agg #[.int .i64 2, .string ⟨#[120]⟩, .int .i64 v.k, .int .i64 v.n, .float .f64 v.f, .string v.s, v.na.val v.ns.length, v.xa.val v.xs.length, .slice none 0 0, .slice none 0 0] := rfl
  rw [hxag] at hrt
  have hzag : Val.zero.agg = .agg #[.int .i64 0, .int .i64 0, .float .f64 0, .string ByteArray.empty, .slice none 0 0, .slice none 0 0] := rfl
  rw [hzag] at hsame
  have henb := fun (hr : v.RightB = true) => Val.enc_bound v hr hvW
  unfold Val.agg at hsame hval ⊢
  rw [e4, e5] at hbx hW hsame hrt hval ⊢
  obtain ⟨R, hR⟩ : ∃ R, R = someR l v := ⟨_, rfl⟩
  have hR2 : R = (if v.k = 0 then (bif v.noneB then some (l ++ [0]) else none) else (bif v.RightB then some (l ++ (1 :: v.enc)) else none)) := by
    rw [hR]
    unfold someR someB
    split
    · cases v.noneB <;> rfl
    · cases v.RightB <;> rfl
  rw [← hR]
  obtain ⟨S0, hS0⟩ : ∃ S0, S0 = v.same0 := ⟨_, rfl⟩
  obtain ⟨NB, hNB⟩ : ∃ NB, NB = v.noneB := ⟨_, rfl⟩
  obtain ⟨RB, hRB⟩ : ∃ RB, RB = v.RightB := ⟨_, rfl⟩
  have hsn : NB = true → S0 = true := fun hn => by rw [hS0]; exact same0_none (by rw [← hNB]; exact hn)
  obtain ⟨E, hE⟩ : ∃ E, E = v.enc := ⟨_, rfl⟩
  rw [← hNB, ← hRB, ← hE] at hR2
  simp only [← hS0] at hsame
  simp only [← hNB] at hrt
  rw [← hRB, ← hE] at henb
  simp only [← hRB, ← hE] at hval
  have c0 := hbx.cell 0; have c1 := hbx.cell 1; have c2 := hbx.cell 2; have c3 := hbx.cell 3; have c4 := hbx.cell 4; have c5 := hbx.cell 5
  simp only [List.getElem?_toArray, List.getElem?_cons_zero, List.getElem?_cons_succ] at c0 c1 c2 c3 c4 c5
  have hBT' : B ≤ W.heap.size := by omega
  have HT := Lib.hid hT; have HW := Lib.hid hW; have HBW := Lib.hid hbW; have HKW := Lib.hid hkW; have HBX := Lib.hid hbx; have HWB := Lib.hid hWB; have HSN := Lib.hid hsn; have HR2 := Lib.hid hR2; have HSM := Lib.hid hsame; have HRT := Lib.hid hrt; have HVL := Lib.hid hval; have HEN := Lib.hid henb; have HL := Lib.hid hl; have HBT := Lib.hid hBT; have HbT := Lib.hid hbT; have HBT' := Lib.hid hBT'
  clear hW hbW hkW hbx hWB hvW hsn hR2 hsame hrt hval henb hR hS0 hNB hRB hE hl h hv hs e4 e5 hxag hzag hbT hBT' hB hBT
  have hwb := fun (c : UInt8) (W' : World) (hb : Below B W W') (hw : WB W' B b l) => wbyte_any B b l c W' hw (by have := HL.out; omega) (Nat.le_trans HBT'.out hb.size)
  have HWY := Lib.hid hwb
  clear hwb hT
  by_cases hk : v.k = 0
  · obtain ⟨K, hK⟩ : ∃ K, K = v.k := ⟨_, rfl⟩
    rw [hk] at c0 HR2
    have HSM := Lib.hid (HSM.out hk)
    simp only [hk] at HSM HRT HBX HW ⊢
    rw [if_pos rfl] at HR2
    clear hk hK HVL HEN
    go_enter Tryz.func66, Tryz.ntmps66
    go_wp2_with fail
    rw [← HW.out, ← HT.out]
    go_wp2_with fail
    refine HSM.out.mono ?_
    rintro e w1 ⟨rfl, hb1⟩
    have B1 := Lib.hid hb1
    have X1 := Lib.hid (HBX.out.below hb1 HBX.out.lt)
    clear hb1 c0 c1 c2 c3 c4 c5
    cases S0 with
    | false =>
      have HRN : Hid (R = none) := Lib.hid (by
        rw [HR2.out]
        cases NB with
        | false => rfl
        | true => exact absurd (HSN.out rfl) (by decide))
      go_wp2_with fail
      refine (pmust_false _ _ _ rfl).mono ?_
      rintro e w2 ⟨rfl, rfl⟩
      unfold pgave
      go_wp2
      rw [HRN.out]
      exact ⟨rfl, (HBW.out.mono HBT.out).trans (B1.out.mono HBT'.out), HKW.out.trans (KeepT.of_below B1.out), rfl⟩
    | true =>
      have c0 := X1.out.cell 0; have c1 := X1.out.cell 1; have c2 := X1.out.cell 2; have c3 := X1.out.cell 3; have c4 := X1.out.cell 4; have c5 := X1.out.cell 5
      simp only [List.getElem?_toArray, List.getElem?_cons_zero, List.getElem?_cons_succ] at c0 c1 c2 c3 c4 c5
      have HR1 := Lib.hid (HRT.out w1 B1.out)
      go_wp2_with fail
      refine (pmust_true _ _ _ rfl).mono ?_
      rintro e w2 ⟨rfl, rfl⟩
      go_wp2_with fail
      refine HR1.out.mono ?_
      rintro e w2 ⟨rfl, hb2⟩
      have B2 := Lib.hid (B1.out.trans (hb2.mono B1.out.size))
      clear hb2 c0 c1 c2 c3 c4 c5 HR1
      cases NB with
      | false =>
        have HRN : Hid (R = none) := Lib.hid (by rw [HR2.out]; rfl)
        go_wp2_with fail
        refine (pmust_false _ _ _ rfl).mono ?_
        rintro e w3 ⟨rfl, rfl⟩
        unfold pgave
        go_wp2
        rw [HRN.out]
        exact ⟨rfl, (HBW.out.mono HBT.out).trans (B2.out.mono HBT'.out), HKW.out.trans (KeepT.of_below B2.out), rfl⟩
      | true =>
        have HRN : Hid (R = some (l ++ [0])) := Lib.hid (by rw [HR2.out]; rfl)
        have HY := Lib.hid (HWY.out 0 w2 (B2.out.mono HBT'.out) (HWB.out.below B2.out))
        go_wp2_with fail
        refine (pmust_true _ _ _ rfl).mono ?_
        rintro e w3 ⟨rfl, rfl⟩
        go_wp2_with fail
        refine HY.out.mono ?_
        rintro e w4 ⟨rfl, hw4, hb4, hk4⟩
        have HF := Lib.hid (show Below B w w4 ∧ KeepT b w w4 ∧ WB w4 B b (l ++ [0]) from ⟨((HBW.out.mono HBT.out).trans (B2.out.mono HBT'.out)).trans hb4, (HKW.out.trans (KeepT.of_below B2.out)).trans hk4, hw4⟩)
        clear hw4 hb4 hk4
        go_wp2
        go_end0
        rw [HRN.out]
        exact ⟨HF.out.1, HF.out.2.1, rfl, HF.out.2.2⟩
  · have i1 : (v.k == 0) = false := by simpa using hk
    rw [if_neg hk] at HR2
    have HY := Lib.hid (HWY.out 1 W (Below.refl _ _) HWB.out)
    clear hk HSM HRT HSN HWY
    go_enter Tryz.func66, Tryz.ntmps66
    go_wp2_with fail
    rw [← HW.out, ← HT.out]
    go_wp2_with fail
    refine HY.out.mono ?_
    rintro e w1 ⟨rfl, hw1, hb1, hk1⟩
    have X1 := Lib.hid (hk1 T _ _ (by decide) (Ne.symm HbT.out) HBX.out)
    have HV := Lib.hid (HVL.out w1 hb1)
    have W1 := Lib.hid hw1; have B1 := Lib.hid hb1; have K1 := Lib.hid hk1
    clear hw1 hb1 hk1 HY HVL c0 c1 c2 c3 c4 c5
    have c0 := X1.out.cell 0; have c1 := X1.out.cell 1; have c2 := X1.out.cell 2; have c3 := X1.out.cell 3; have c4 := X1.out.cell 4; have c5 := X1.out.cell 5
    simp only [List.getElem?_toArray, List.getElem?_cons_zero, List.getElem?_cons_succ] at c0 c1 c2 c3 c4 c5
    go_wp2_with fail
    refine HV.out.mono ?_
    rintro e w2 ⟨rfl, hb2⟩
    have W2 := Lib.hid (W1.out.below hb2)
    have B2 := Lib.hid (B1.out.trans (hb2.mono (Nat.le_trans HBT'.out B1.out.size)))
    have K2 := Lib.hid (K1.out.trans (KeepT.of_below hb2))
    clear hb2 HV c0 c1 c2 c3 c4 c5
    cases RB with
    | false =>
      have HRN : Hid (R = none) := Lib.hid (by rw [HR2.out]; rfl)
      have HH := Lib.hid (whole_bad B b ByteArray.empty w2)
      simp only [cond_false]
      go_wp2_with fail
      refine HH.out.mono ?_
      rintro e w3 ⟨hb3, hk3, rfl⟩
      have HF := Lib.hid (And.intro hb3 hk3)
      clear hb3 hk3
      unfold pgave
      go_wp2
      rw [HRN.out]
      exact ⟨rfl, (HBW.out.mono HBT.out).trans (B2.out.trans HF.out.1), (HKW.out.trans K2.out).trans HF.out.2, rfl⟩
    | true =>
      have HRN : Hid (R = some (l ++ (1 :: E))) := Lib.hid (by rw [HR2.out]; rfl)
      have hen := HEN.out rfl
      have HH := Lib.hid (whole_ok B b (l ++ [1]) ⟨E.toArray⟩ w2 W2.out (Nat.le_trans HBT'.out B2.out.size) (by
        have := HL.out
        have e : (⟨E.toArray⟩ : ByteArray).size = E.length := by rw [← size_list]
        rw [e, List.length_append]
        simp
        omega))
      clear hen
      simp only [cond_true]
      go_wp2_with fail
      refine HH.out.mono ?_
      rintro e w3 ⟨hb3, hk3, rfl, hw3⟩
      have e : l ++ [1] ++ E = l ++ (1 :: E) := by simp
      have HF := Lib.hid (show Below B w w3 ∧ KeepT b w w3 ∧ WB w3 B b (l ++ (1 :: E)) from ⟨(HBW.out.mono HBT.out).trans (B2.out.trans hb3), (HKW.out.trans K2.out).trans hk3, by rw [← e]; exact hw3⟩)
      clear hb3 hk3 hw3 e
      go_wp2
      go_end0
      rw [HRN.out]
      exact ⟨HF.out.1, HF.out.2.1, rfl, HF.out.2.2⟩
end Go.Proofs.YtaamihdibpioaaaGreat.Pk

/- pack.Cmd: the bytes of a command, or the error. -/
namespace Go.Proofs.YtaamihdibpioaaaGreat.Pk
set_option linter.unusedVariables false
open Go.RowKit

theorem as_errno2 (W : World) (v : Value) : (Instr.typeAssert (.iface 25 v) 20 25 true).run Tryz.prog W = .ok (.tuple #[v, .bool true]) W := by kernel_rfl
theorem as_nil2 (W : World) : (Instr.typeAssert .nilIface 20 25 true).run Tryz.prog W = .ok (.tuple #[.int .i64 0, .bool false]) W := by kernel_rfl
set_option maxHeartbeats 2000000 in
set_option maxRecDepth 20000 in
theorem pcaught_panicking (E : Nat) (k : Int) (y : Value) (older : List PanicEntry) (w : World) (hE : Blk w E 25 #[y]) :
    CallsD Tryz.prog 69 #[.pointer (some ⟨E, 0, none⟩)] (.panicking ({ v := .iface 25 (.int .i64 k), recovered := false } :: older)) w fun e u' w' =>
      e = .returned (.tuple #[]) ∧ u' = .panicking ({ v := .iface 25 (.int .i64 k), recovered := true } :: older) ∧ w' = w.setCell ⟨E, 0, none⟩ (.int .i64 k) := by
  have c3 := hE.cell 0; have f3 := hE.frozen 0
  simp at c3
  refine callsD_of_wpS Tryz.func69 rfl fun c₀ cs hu => ?_
  apply wpS_seq
  apply wpS_region
  simp [wpOpsS, go_sem, recoverD, hu, Tryz.ntmps69, Exit.thenS, as_errno2]
  apply wpS_seq
  apply wpS_region
  simp [wpOpsS, go_sem, Exit.thenS]
  refine wpS_cond (t := true) (by simp [Act.eval]) ?_
  simp only [if_true]
  apply wpS_region
  simp [wpOpsS, go_sem, c3, f3, bodyPostS, results, Tryz.results69]
set_option maxHeartbeats 1000000 in
set_option maxRecDepth 20000 in
theorem pcaught_idle (p : Addr) (w : World) :
    CallsD Tryz.prog 69 #[.pointer (some p)] .returning w fun e u' w' => e = .returned (.tuple #[]) ∧ u' = .returning ∧ w' = w := by
  refine callsD_of_wpS Tryz.func69 rfl fun c₀ cs hu => ?_
  apply wpS_seq
  apply wpS_region
  simp [wpOpsS, go_sem, recoverD, hu, Tryz.ntmps69, Exit.thenS, as_nil2]
  apply wpS_seq
  apply wpS_region
  simp [wpOpsS, go_sem, Exit.thenS]
  refine wpS_cond (t := false) (by simp [Act.eval]) ?_
  simp only [Bool.false_eq_true, if_false]
  refine wpS_of_wp (wp_skip ?_)
  cases c₀
  simp_all [bodyPostS, results, Tryz.results69]

theorem someR_none {l : List UInt8} {v : Val} (h : someB v = none) : someR l v = none := by unfold someR; rw [h]; rfl
theorem someR_some {l a : List UInt8} {v : Val} (h : someB v = some a) : someR l v = some (l ++ a) := by unfold someR; rw [h]; rfl
theorem someB_len {w : World} {v : Val} {l : List UInt8} (hv : v.In w) (h : someB v = some l) : l.length ≤ 60001 := by
  unfold someB at h
  split at h
  · cases hn : v.noneB with
    | false => rw [hn] at h; cases h
    | true => rw [hn] at h; injection h with h; subst h; simp
  · cases hn : v.RightB with
    | false => rw [hn] at h; cases h
    | true =>
      rw [hn] at h
      injection h with h
      subst h
      have := Val.enc_bound v hn hv
      simp only [List.length_cons]
      omega
set_option maxHeartbeats 4000000 in
set_option maxRecDepth 100000 in
theorem clo_cmd (B b C : Nat) (c : Cm) (w : World) (h : WB w B b []) (hB : B ≤ w.heap.size) (hC : Blk w C 39 c.cells.toArray) (hCB : C < B) (hc : c.In w) (hs : c.Sep (fun c => c < B)) :
    Calls Tryz.prog 64 #[.pointer (some ⟨b, 0, none⟩), .pointer (some ⟨C, 0, none⟩)] w fun e w' => POr c.enc B b w e w' := by
  obtain ⟨p4, q4, e4⟩ := hc.2.1.nslice
  obtain ⟨p5, q5, e5⟩ := hc.2.1.xslice
  obtain ⟨r4, t4, f4⟩ := hc.2.2.nslice
  obtain ⟨r5, t5, f5⟩ := hc.2.2.xslice
  have hcell : ∀ w', Below B w w' → Blk w' C 39 #[.int .i64 c.k, .int .i64 c.nd, .int .i64 c.il, .int .i64 c.inn, .int .i64 c.n, .int .i64 c.key.k, .int .i64 c.key.n, .float .f64 c.key.f, .string c.key.s, .slice p4 c.key.ns.length q4, .slice p5 c.key.xs.length q5, .int .i64 c.v.k, .int .i64 c.v.n, .float .f64 c.v.f, .string c.v.s, .slice r4 c.v.ns.length t4, .slice r5 c.v.xs.length t5] := fun w' hb => by
    have := hC.below hb hCB
    unfold Cm.cells Val.cells at this
    rw [e4, e5, f4, f5] at this
    exact this
  have hBb : B ≤ b := by rcases h with h | h <;> exact h.1
  have hbl : b < w.heap.size := by rcases h with h | h <;> exact h.lt
  obtain ⟨S, hS⟩ : ∃ S, S = w.heap.size := ⟨_, rfl⟩
  obtain ⟨W, hW⟩ : ∃ W, W = w.alloc (.cells #[.int .i64 c.k, .int .i64 c.nd, .int .i64 c.il, .int .i64 c.inn, .int .i64 c.n] 3) := ⟨_, rfl⟩
  have hbW : Below w.heap.size w W := by rw [hW]; exact (Below.refl _ _).alloc (Nat.le_refl _) _
  have hnum := num_any B b S 5 [] c.ints W (h.below hbW) (Nat.le_trans hB hbW.size) (by rw [hW, hS]; exact Blk.new _ _ _) (by omega) (by simp [Cm.ints]) (by simp [Cm.ints]) (by simp)
  have hnl := numsB_len c.ints
  have hk := fun (l : List UInt8) (hl : l.length ≤ 1000000) (w' : World) (hb : Below B w w') (hw : WB w' B b l) => psome_any B b l c.key w' hw (Nat.le_trans hB hb.size) (in_under hc.2.1 hs.1 hb) hs.1 hl
  have hv := fun (l : List UInt8) (hl : l.length ≤ 1000000) (w' : World) (hb : Below B w w') (hw : WB w' B b l) => psome_any B b l c.v w' hw (Nat.le_trans hB hb.size) (in_under hc.2.2 hs.2 hb) hs.2 hl
  have hkl := fun (l : List UInt8) (hl : someB c.key = some l) => someB_len hc.2.1 hl
  have hR : c.enc = bif c.ints.all numOk then (match someB c.key with | none => none | some a => match someB c.v with | none => none | some b => some (numsB c.ints ++ a ++ b)) else none := rfl
  obtain ⟨R, hR'⟩ : ∃ R, R = c.enc := ⟨_, rfl⟩
  rw [← hR'] at hR ⊢
  have hil : c.ints.length = 5 := rfl
  rw [hil] at hnum
  obtain ⟨NO, hNO⟩ : ∃ NO, NO = c.ints.all numOk := ⟨_, rfl⟩
  obtain ⟨NL, hNL⟩ : ∃ NL, NL = numsB c.ints := ⟨_, rfl⟩
  rw [← hNO, ← hNL] at hnum hR
  rw [← hNO, ← hNL, hil] at hnl
  have hkag : c.key.agg = .agg #[.int .i64 c.key.k, .int .i64 c.key.n, .float .f64 c.key.f, .string c.key.s, .slice p4 c.key.ns.length q4, .slice p5 c.key.xs.length q5] := by unfold Val.agg; rw [e4, e5]
  have hvag : c.v.agg = .agg #[.int .i64 c.v.k, .int .i64 c.v.n, .float .f64 c.v.f, .string c.v.s, .slice r4 c.v.ns.length t4, .slice r5 c.v.xs.length t5] := by unfold Val.agg; rw [f4, f5]
  rw [hkag] at hk
  rw [hvag] at hv
  have hc0 := hcell w (Below.refl _ _)
  have c0 := hc0.cell 0; have c1 := hc0.cell 1; have c2 := hc0.cell 2; have c3 := hc0.cell 3; have c4 := hc0.cell 4
  simp only [List.getElem?_toArray, List.getElem?_cons_zero, List.getElem?_cons_succ] at c0 c1 c2 c3 c4
  have hbWB : Below B w W := hbW.mono hB
  have hkW : KeepT b w W := KeepT.of_below hbW
  have HW := Lib.hid hW; have HS := Lib.hid hS; have HNU := Lib.hid hnum; have HNL := Lib.hid hnl; have HK := Lib.hid hk; have HV := Lib.hid hv; have HKL := Lib.hid hkl; have HR := Lib.hid hR; have HBW := Lib.hid hbWB; have HKW := Lib.hid hkW; have HCE := Lib.hid hcell
  clear hW hS hnum hnl hk hv hkl hR hbW hbWB hkW hcell hc0 h hB hC hCB hc hs e4 e5 f4 f5 hR' hNO hNL hkag hvag hBb hbl hil
  go_enter Tryz.func64, Tryz.ntmps64
  go_wp2_with fail
  rw [← HW.out, ← HS.out]
  refine HNU.out.mono ?_
  cases NO with
  | false =>
    rintro e w1 ⟨hb1, hk1, rfl⟩
    have HF := Lib.hid (And.intro (HBW.out.trans hb1) (HKW.out.trans hk1))
    clear hb1 hk1
    unfold pgave
    go_wp2
    rw [HR.out]
    exact ⟨rfl, HF.out.1, HF.out.2, rfl⟩
  | true =>
    simp only [cond_true, List.nil_append]
    rintro e w1 ⟨hb1, hk1, rfl, hw1⟩
    have B1 := Lib.hid (HBW.out.trans hb1); have K1 := Lib.hid (HKW.out.trans hk1)
    have hnl := HNL.out rfl
    have HK1 := Lib.hid (HK.out NL (by omega) w1 B1.out hw1)
    have hX := HCE.out w1 B1.out
    clear hb1 hk1 hw1 c0 c1 c2 c3 c4 HNU HNL HK
    have c5 := hX.cell 5; have c6 := hX.cell 6; have c7 := hX.cell 7; have c8 := hX.cell 8; have c9 := hX.cell 9; have c10 := hX.cell 10
    simp only [List.getElem?_toArray, List.getElem?_cons_zero, List.getElem?_cons_succ] at c5 c6 c7 c8 c9 c10
    clear hX
    go_wp2_with fail
    refine HK1.out.mono ?_
    clear c5 c6 c7 c8 c9 c10
    cases hk : someB c.key with
    | none =>
      rw [someR_none hk]
      rintro e w2 ⟨hb2, hk2, rfl⟩
      have HF := Lib.hid (And.intro (B1.out.trans hb2) (K1.out.trans hk2))
      have HRN : Hid (R = none) := Lib.hid (by rw [HR.out, hk]; rfl)
      clear hb2 hk2 hk
      unfold pgave
      go_wp2
      rw [HRN.out]
      exact ⟨rfl, HF.out.1, HF.out.2, rfl⟩
    | some a =>
      rw [someR_some hk]
      have hal := HKL.out a hk
      rintro e w2 ⟨hb2, hk2, rfl, hw2⟩
      have B2 := Lib.hid (B1.out.trans hb2); have K2 := Lib.hid (K1.out.trans hk2)
      have HV1 := Lib.hid (HV.out (NL ++ a) (by rw [List.length_append]; omega) w2 B2.out hw2)
      have hX := HCE.out w2 B2.out
      have HKE := Lib.hid hk
      clear hb2 hk2 hw2 HV HK1 HKL hk hal hnl
      have c11 := hX.cell 11; have c12 := hX.cell 12; have c13 := hX.cell 13; have c14 := hX.cell 14; have c15 := hX.cell 15; have c16 := hX.cell 16
      simp only [List.getElem?_toArray, List.getElem?_cons_zero, List.getElem?_cons_succ] at c11 c12 c13 c14 c15 c16
      clear hX
      go_wp2_with fail
      refine HV1.out.mono ?_
      clear c11 c12 c13 c14 c15 c16
      cases hv : someB c.v with
      | none =>
        rw [someR_none hv]
        rintro e w3 ⟨hb3, hk3, rfl⟩
        have HF := Lib.hid (And.intro (B2.out.trans hb3) (K2.out.trans hk3))
        have HRN : Hid (R = none) := Lib.hid (by rw [HR.out, HKE.out, hv]; rfl)
        clear hb3 hk3 hv
        unfold pgave
        go_wp2
        rw [HRN.out]
        exact ⟨rfl, HF.out.1, HF.out.2, rfl⟩
      | some d =>
        rw [someR_some hv]
        rintro e w3 ⟨hb3, hk3, rfl, hw3⟩
        have HF := Lib.hid (And.intro (B2.out.trans hb3) (And.intro (K2.out.trans hk3) hw3))
        have HRN : Hid (R = some (NL ++ a ++ d)) := Lib.hid (by rw [HR.out, HKE.out, hv]; rfl)
        clear hb3 hk3 hv hw3
        go_wp2
        go_end0
        rw [HRN.out]
        exact ⟨HF.out.1, HF.out.2.1, rfl, HF.out.2.2⟩

/-- What Cmd answers. -/
def cmdS : Option (List UInt8) → ByteArray
  | some l => ⟨l.toArray⟩
  | none => ByteArray.empty
def cmdErr : Option (List UInt8) → Int
  | some _ => 0
  | none => 5
def Cmded (r : Option (List UInt8)) (w : World) (e : Ending) (w' : World) : Prop :=
  Below w.heap.size w w' ∧ e = .returned (.tuple #[.string (cmdS r), .int .i64 (cmdErr r)])
theorem pwb_new (w : World) (B : Nat) (hB : B ≤ w.heap.size) : WB (w.alloc (.cells #[.pointer none, .slice none 0 0] 157)) B w.heap.size [] :=
  .inl ⟨hB, .slice none 0 0, Blk.new w 157 _, ⟨rfl, .inl ⟨rfl, rfl⟩⟩, by simp [Value.ownBlock]⟩
theorem numsB_ne {x : Int} {xs : List Int} : numsB (x :: xs) ≠ [] := by
  simp [numsB, ub_ne]
theorem enc_ne {c : Cm} {l : List UInt8} (h : c.enc = some l) : l ≠ [] := by
  unfold Cm.enc at h
  cases hA : c.ints.all numOk with
  | false => rw [hA] at h; cases h
  | true =>
    rw [hA] at h
    simp only [cond_true] at h
    cases hk : someB c.key with
    | none => rw [hk] at h; cases h
    | some a =>
      rw [hk] at h
      simp only at h
      cases hv : someB c.v with
      | none => rw [hv] at h; cases h
      | some b =>
        rw [hv] at h
        injection h with h
        rw [← h]
        intro he
        have h1 := (List.append_eq_nil_iff.1 (List.append_eq_nil_iff.1 he).1).1
        exact numsB_ne h1
theorem enter_cmd (args : Array Value) (W : World) : (callFunc 64 args).run Tryz.prog W = .ok (.enter 64 args) W := run_enter Tryz.func64 (by kernel_rfl) rfl args W
set_option maxHeartbeats 4000000 in
set_option maxRecDepth 100000 in
theorem written_any (C : Nat) (c : Cm) (w : World) (hC : Blk w C 39 c.cells.toArray) (hc : c.In w) :
    Calls Tryz.prog 63 #[.func (Fn.func 64) #[] #[.pointer (some ⟨C, 0, none⟩)]] w fun e w' => Cmded c.enc w e w' := by
  have hen := enter_cmd
  obtain ⟨E, hE⟩ : ∃ E, E = w.heap.size := ⟨_, rfl⟩
  obtain ⟨W, hW⟩ : ∃ W, W = (w.alloc (.cells #[.int .i64 0] 25)).alloc (.cells #[.pointer none, .slice none 0 0] 157) := ⟨_, rfl⟩
  have hbW : Below E w W := by rw [hW, hE]; exact ((Below.refl _ _).alloc (Nat.le_refl _) _).alloc (by simp) _
  have hbE : Blk W E 25 #[.int .i64 0] := by rw [hW, hE]; exact (Blk.new _ _ _).alloc _
  have hz : W.heap.size = E + 1 + 1 := by rw [hW, hE]; simp
  have hwb : WB W (E + 1) (E + 1) [] := by
    rw [hW]
    have := pwb_new (w.alloc (.cells #[.int .i64 0] 25)) (E + 1) (by rw [hE]; simp)
    have e : (w.alloc (.cells #[.int .i64 0] 25)).heap.size = E + 1 := by rw [hE]; simp
    rw [e] at this
    exact this
  have hbl := hc.below (by rw [← hE]; exact hbW)
  have hlt := hC.lt
  have hclo := clo_cmd (E + 1) (E + 1) C c W hwb (by omega) (hC.below hbW (by omega)) (by omega) hbl (by
    have h1 := cmE.lt hc
    exact cmE.mono h1 (fun b hb => by have hb' : b < w.heap.size := hb; omega))
  obtain ⟨R, hR⟩ : ∃ R, R = c.enc := ⟨_, rfl⟩
  have hne := fun l (h : R = some l) => enc_ne (c := c) (l := l) (by rw [← hR]; exact h)
  rw [← hR] at hclo ⊢
  have HE := Lib.hid hE; have HW := Lib.hid hW; have HB := Lib.hid hbW; have HBE := Lib.hid hbE; have HC := Lib.hid hclo; have HNE := Lib.hid hne; have HZ := Lib.hid hz
  clear hE hW hbW hbE hz hwb hbl hlt hclo hR hne hC hc
  go_enter_defers Tryz.func63, Tryz.ntmps63
  go_wp2_with fail
  rw [← HW.out, ← HE.out]
  refine HC.out.mono ?_
  cases R with
  | none =>
    rintro e w1 ⟨hb1, hk1, rfl⟩
    have hE1 := HBE.out.below hb1 (Nat.lt_succ_self _)
    have hset := hE1.set_ 0 (.int .i64 5)
    have e3 := hset.cell 0
    simp at e3
    have HE1 := Lib.hid hE1; have E3 := Lib.hid e3
    have HF := Lib.hid ((HB.out.trans (hb1.mono (Nat.le_succ _))).setCell (p := ⟨E, 0, none⟩) (Nat.le_refl _) (.int .i64 5))
    clear hb1 hk1 hE1 hset e3
    unfold pgave
    go_wp2
    refine leaves_cons (f := 69) (args := #[.pointer (some ⟨E, 0, none⟩)]) (by simp) (by simp [go_sem]) ?_
    refine (pcaught_panicking E 5 _ [] _ HE1.out).mono ?_
    rintro e u' w'' ⟨rfl, rfl, rfl⟩
    have e3 := E3.out
    simp [Leaves, settle, results, Tryz.results63, go_sem, e3]
    refine ⟨?_, rfl⟩
    rw [← HE.out]
    exact HF.out
  | some l =>
    rintro e w1 ⟨hb1, hk1, rfl, hw1⟩
    have hE1 := HBE.out.below hb1 (Nat.lt_succ_self _)
    have HS := Lib.hid (string_some (E + 1) (E + 1) w1 l hw1 (HNE.out l rfl))
    have HE1 := Lib.hid hE1
    have B1 := Lib.hid (HB.out.trans (hb1.mono (Nat.le_succ _)))
    have hw1z : E + 1 ≤ w1.heap.size := by have := hb1.size; have := HZ.out; omega
    clear hb1 hk1 hE1 hw1
    go_wp2_with fail
    refine HS.out.mono ?_
    rintro e w2 ⟨rfl, hb2⟩
    have hE2 := HE1.out.below hb2 (Nat.lt_succ_self _)
    have c0 := hE2.cell 0; have f0 := hE2.frozen 0
    simp at c0
    have hset := hE2.set_ 0 (.int .i64 0)
    have e3 := hset.cell 0
    simp at e3
    have E3 := Lib.hid e3
    have HF := Lib.hid ((B1.out.trans (hb2.mono (Nat.le_succ _))).setCell (p := ⟨E, 0, none⟩) (Nat.le_refl _) (.int .i64 0))
    clear hb2 hE2 hset e3 HS
    go_wp2
    refine leaves_cons (f := 69) (args := #[.pointer (some ⟨E, 0, none⟩)]) (by simp) (by simp [go_sem]) ?_
    refine (pcaught_idle _ _).mono ?_
    rintro e u' w'' ⟨rfl, rfl, rfl⟩
    have e3 := E3.out
    simp [Leaves, settle, results, Tryz.results63, go_sem, e3]
    refine ⟨?_, rfl⟩
    rw [← HE.out]
    exact HF.out

set_option maxHeartbeats 1000000 in
set_option maxRecDepth 100000 in
theorem cmd_any (c : Cm) (w : World) (hc : c.In w) : Calls Tryz.prog 42 #[c.agg] w fun e w' => Cmded c.enc w e w' := by
  have hmf : ∀ (fn : Fn) (first cap : Array Value) (w : World), (Instr.makeFunc fn first cap).run Tryz.prog w = .ok (.func fn first cap) w := fun _ _ _ _ => rfl
  obtain ⟨W, hW⟩ : ∃ W, W = w.alloc (.cells c.cells.toArray 39) := ⟨_, rfl⟩
  have hb : Below w.heap.size w W := by rw [hW]; exact (Below.refl _ _).alloc (Nat.le_refl _) _
  have hC : Blk W w.heap.size 39 c.cells.toArray := by rw [hW]; exact Blk.new _ _ _
  have hwr := written_any w.heap.size c W hC (hc.below hb)
  obtain ⟨p4, q4, e4⟩ := hc.2.1.nslice
  obtain ⟨p5, q5, e5⟩ := hc.2.1.xslice
  obtain ⟨r4, t4, f4⟩ := hc.2.2.nslice
  obtain ⟨r5, t5, f5⟩ := hc.2.2.xslice
  unfold Cm.cells Val.cells at hW
  unfold Cm.agg Cm.cells Val.cells
  rw [e4, e5, f4, f5] at hW ⊢
  have HW := Lib.hid hW; have HB := Lib.hid hb; have HWR := Lib.hid hwr
  clear hW hb hC hwr e4 e5 f4 f5 hc
  simp only [List.cons_append, List.nil_append] at HW ⊢
  go_enter Tryz.func42, Tryz.ntmps42
  go_wp2_with fail
  rw [← HW.out]
  refine HWR.out.mono ?_
  rintro e w1 ⟨hb1, rfl⟩
  have HF := Lib.hid (HB.out.trans (hb1.mono HB.out.size))
  clear hb1
  go_wp2
  go_ret2
  exact ⟨HF.out, rfl⟩
end Go.Proofs.YtaamihdibpioaaaGreat.Pk

/- The document's answers of layer 13: what is written of a number, of a value, of one or none at all. -/
namespace Go.Proofs.YtaamihdibpioaaaGreat.Rf
set_option linter.unusedVariables false
open Go.RowKit Go.Proofs.YtaamihdibpioaaaGreat.Pk

/-- What is written so far: just these bytes, or something can't be written. -/
def OutAt (w : World) (o : Nat) (r : Option (List UInt8)) (m : Nat) : Prop := ∃ (S : ByteArray) (b : Bool), Blk w o 150 #[.string S, .bool b] ∧ S.size ≤ m ∧ match r with
  | some l => S = strB l ∧ b = false
  | none => b = true
end Go.Proofs.YtaamihdibpioaaaGreat.Rf

/- The document's answers of layer 13: what is written of a value or of none at all; of a command. -/
namespace Go.Proofs.YtaamihdibpioaaaGreat.Rf
set_option linter.unusedVariables false
open Go.RowKit Go.Proofs.YtaamihdibpioaaaGreat.Pk

end Go.Proofs.YtaamihdibpioaaaGreat.Rf

/- The document's answers of layer 13: the bytes of a command; are two the same; is one small (printed by wip/gen_rf3.py). -/
namespace Go.Proofs.YtaamihdibpioaaaGreat.Rf
set_option linter.unusedVariables false
open Go.RowKit Go.Proofs.YtaamihdibpioaaaGreat.Pk

theorem OutAt.mono {w : World} {o : Nat} {r : Option (List UInt8)} {m k : Nat} (h : OutAt w o r m) (hk : m ≤ k) : OutAt w o r k := by
  obtain ⟨S, b, h1, h2, h3⟩ := h
  exact ⟨S, b, h1, by omega, h3⟩
/-- A command's block. -/
theorem cmd_blk {c : Cm} {w : World} {C : Nat} {p4 p5 r4 r5 : Option Addr} {q4 q5 t4 t5 : Nat} (hC : Blk w C 39 c.cells.toArray)
    (e4 : c.key.na.val c.key.ns.length = .slice p4 c.key.ns.length q4) (e5 : c.key.xa.val c.key.xs.length = .slice p5 c.key.xs.length q5) (f4 : c.v.na.val c.v.ns.length = .slice r4 c.v.ns.length t4) (f5 : c.v.xa.val c.v.xs.length = .slice r5 c.v.xs.length t5) :
    Blk w C 39 #[.int .i64 c.k, .int .i64 c.nd, .int .i64 c.il, .int .i64 c.inn, .int .i64 c.n, .int .i64 c.key.k, .int .i64 c.key.n, .float .f64 c.key.f, .string c.key.s, .slice p4 c.key.ns.length q4, .slice p5 c.key.xs.length q5, .int .i64 c.v.k, .int .i64 c.v.n, .float .f64 c.v.f, .string c.v.s, .slice r4 c.v.ns.length t4, .slice r5 c.v.xs.length t5] := by
  have := hC
  unfold Cm.cells Val.cells at this
  rw [e4, e5, f4, f5] at this
  exact this
def Cm.smallB (c : Cm) : Bool := c.key.smallB && c.v.smallB
def Cm.rsame (a b : Cm) : Bool := decide (a.ints = b.ints) && a.key.rsame b.key && a.v.rsame b.v
end Go.Proofs.YtaamihdibpioaaaGreat.Rf
