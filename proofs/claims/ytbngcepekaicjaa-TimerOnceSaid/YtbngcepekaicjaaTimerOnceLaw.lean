/- Each that waits comes due just once. No conditions. -/
import Derived.Test.YtbngcepekaicjaaTmOnceP
import Derived.ChangeSlices
namespace Go.Proofs.Ytbngcepekaicjaa.timerOnce
set_option linter.unusedVariables false
open Go.RowKit Go.ChangeShapes Go.WideShapes Go.Maps

theorem byte_facts : (Try.prog.info? 5).map (fun i => (i.zero, i.size, i.bytes)) = some (some (.int .u8 0), 1, 1) := by kernel_rfl
theorem wpList_putL (w : World) {ops : Array Oper} {rest : List Oper} {o : Oper} {a : Act} {Q : Exit → Act → World → Prop} (hg : o.guard = none) (m x v : Operand) (hop : o.op = Op.mapUpdate 27 m x v) (B n : Nat) (L : List Wt) (hm : a.eval m = .map (some B)) (h : MapL w B n L) (hn : n < maxLen) (id c : Int) (hx : a.eval x = .int .i64 id) (hv : a.eval v = .int .i64 c) (hw : WfI id) (hc : WfI c) (hno : ∀ y, y ∈ L → y.1 ≠ id) (w0 : World) (g : Nat) (L2 : List Wt) (hst : St w0 g L2 w) (h0 : w0.heap.size ≤ B)
    (hK : ∀ w', MapL w' B (n + 1) ((id, c) :: L) → St w0 g L2 w' → w.grownBy w' (some B) → wpList Try.prog ops Q rest (a.put o.dst undef) w') : wpList Try.prog ops Q (o :: rest) a w := by
  obtain ⟨f, h1, h2⟩ := h
  exact wpList_updO w hg m x v hop B n f _ hm h1 hn id c hx hv hw hc fun w' h3 h4 => hK w' (MapL.put h2 hno hw h3) (hst.map h1 h4 h0) h4
theorem wpList_delL (w : World) {ops : Array Oper} {rest : List Oper} {o : Oper} {a : Act} {Q : Exit → Act → World → Prop} (hg : o.guard = none) (m x : Operand) (hop : o.op = Op.call { callee := Callee.builtin Builtin.delete, args := #[m, x], argTypes := #[27, 3] }) (B n : Nat) (y : Wt) (L : List Wt) (hm : a.eval m = .map (some B)) (h : MapL w B n (y :: L)) (hnd : ((y :: L).map (·.1)).Nodup) (hx : a.eval x = .int .i64 y.1) (hw : WfI y.1) (w0 : World) (g : Nat) (L2 : List Wt) (hst : St w0 g L2 w) (h0 : w0.heap.size ≤ B) (b1 b2 s1 s2 n1 n2 : Nat) (e1 e2 : TypeId) (v1 v2 : Value) (x1 x2 : List Value) (hr1 : w.ownsRow b1 e1 s1 v1 n1 x1) (hr2 : w.ownsRow b2 e2 s2 v2 n2 x2)
    (hK : ∀ w', MapL w' B n L → St w0 g L2 w' → w.grownBy w' (some B) → w'.ownsRow b1 e1 s1 v1 n1 x1 → w'.ownsRow b2 e2 s2 v2 n2 x2 → wpList Try.prog ops Q rest (a.put o.dst (.tuple #[])) w') : wpList Try.prog ops Q (o :: rest) a w := by
  obtain ⟨f, h1, h2⟩ := h
  exact wpList_delO w hg m x hop B n f _ hm h1 y.1 hx hw fun w' h3 h4 => hK w' (MapL.del h2 hnd hw h3) (hst.map h1 h4 h0) h4 (row_map hr1 h1 h4) (row_map hr2 h1 h4)
theorem wpList_lookL (w : World) {ops : Array Oper} {rest : List Oper} {o : Oper} {a : Act} {Q : Exit → Act → World → Prop} (hg : o.guard = none) (m x : Operand) (hop : o.op = Op.lookup 27 m x true) (B n : Nat) (y : Wt) (L : List Wt) (hm : a.eval m = .map (some B)) (h : MapL w B n (y :: L)) (hx : a.eval x = .int .i64 y.1) (hw : WfI y.1)
    (hK : wpList Try.prog ops Q rest (a.put o.dst (.tuple #[.int .i64 y.2, .bool true])) w) : wpList Try.prog ops Q (o :: rest) a w := by
  obtain ⟨f, h1, h2⟩ := h
  refine wpList_lookOk w hg m x hop B n f _ hm h1 y.1 hx hw ?_
  rw [(h2 y.1 y.2 hw).2 List.mem_cons_self]
  exact hK
theorem wpList_lenL (w : World) {ops : Array Oper} {rest : List Oper} {o : Oper} {a : Act} {Q : Exit → Act → World → Prop} (hg : o.guard = none) (m : Operand) (hop : o.op = Op.call { callee := Callee.builtin Builtin.len, args := #[m], argTypes := #[27] }) (B n : Nat) (hm : a.eval m = .map (some B)) (h : MapL w B n [])
    (hK : wpList Try.prog ops Q rest (a.put o.dst (.int .i64 0)) w) : wpList Try.prog ops Q (o :: rest) a w := by
  obtain ⟨f, h1, h2⟩ := h
  exact wpList_lenO w hg m hop B n f _ hm h1 hK
theorem _root_.Go.Proofs.Ytbngcepekaicjaa.St.ok {w0 w : World} {g : Nat} {L : List Wt} (h : St w0 g L w) : OkW L := by
  obtain ⟨F, hW, _⟩ := h
  exact hW.ok
theorem gI_mem {T : List Int} {i : Nat} (h : i < T.length) : gI T i ∈ T := by
  unfold gI
  rw [List.getD_eq_getElem?_getD, List.getElem?_eq_getElem h]
  exact List.getElem_mem h
def RowU (w : World) (B : Nat) (sv : Value) (T : List Int) : Prop := w.ownsRow B 5 1 sv T.length (T.map (Value.int .u8))
theorem RowU.rd {w : World} {B : Nat} {sv : Value} {T : List Int} (h : RowU w B sv T) {i : Nat} (hi : i < T.length) : ∃ b cap, sv = .slice (some ⟨b, 0, none⟩) T.length cap ∧ b < w.heap.size ∧ w.cell? ⟨b, i, none⟩ = some (.int .u8 (gI T i)) := by
  rcases h.2 with ⟨rfl, h0⟩ | ⟨b, cap, cur, rfl, hb, hg, hr⟩
  · omega
  · have hlt : b < w.heap.size := Blk.lt hg
    refine ⟨b, cap, rfl, hlt, ?_⟩
    have := h.cells (g := b) rfl i (.int .u8 (gI T i)) (by
      rw [List.getElem?_map, List.getElem?_eq_getElem hi]
      simp [gI, hi])
    rw [Addr.add_lit, Nat.zero_add] at this
    exact this
theorem RowU.form {w : World} {B : Nat} {sv : Value} {T : List Int} (h : RowU w B sv T) : ∃ A cap, sv = .slice A T.length cap := by
  rcases h.2 with ⟨rfl, h0⟩ | ⟨b, cap, cur, rfl, hb, hg, hr⟩
  · exact ⟨none, 0, by rw [h0]⟩
  · exact ⟨_, _, rfl⟩
theorem row_below {w w' : World} {B e size k : Nat} {sv : Value} {xs : List Value} (h : w.ownsRow B e size sv k xs) (hb : Below w.heap.size w w') : w'.ownsRow B e size sv k xs :=
  World.ownsRow.kept (row := none) h ⟨hb.os, hb.tape, hb.output, hb.size, fun k hk _ => hb.block k hk⟩ (by
    rcases hv : sv.ownBlock with _ | k
    · exact .inl rfl
    · exact .inr (by simp))
def OnceRel2 (w0 : World) (g m n B : Nat) (sv : Value) (T : List Int) (nv lv iv : Value) (w wr : World) : Prop :=
  ∃ (i : Nat) (K : List Wt), i ≤ T.length ∧ iv = .int .i64 i ∧ nv = .int .i64 (sumI T i) ∧ lv = .int .i64 (lastI T i) ∧ (∀ x, x ∈ K → lastI T i < x.2 ∧ x.2 < 400) ∧ St w0 g K wr ∧ MapL wr m n K ∧ RowU wr B sv T
def OnceRel3 (w0 : World) (g m n B B3 : Nat) (sv sv3 : Value) (T : List Int) (K : List Wt) (now : Int) (jv : Value) (w wr : World) : Prop :=
  ∃ (j : Nat), j ≤ (dueO K now).length ∧ jv = .int .i64 j ∧ MapL wr m n (K.drop j) ∧ St w0 g (dueL K now) wr ∧ IntsAt wr B3 sv3 (dueO K now) ∧ RowU wr B sv T
def OnceRel (w0 : World) (g m : Nat) (iv : Value) (n : Nat) (w wr : World) : Prop := ∃ (k : Nat) (L : List Wt), k ≤ n ∧ iv = .int .i64 k ∧ L.length = k ∧ (∀ x, x ∈ L → x.1 < k ∧ x.2 < 400) ∧ St w0 g L wr ∧ MapL wr m k L
def addOut (w0 : World) (g : Nat) (L : List Wt) (id t : Int) (w : World) (e : Ending) (w' : World) : Prop := e = .returned (.int .i64 0) ∧ St w0 g (addL L id t) w' ∧ StepW g w w'
set_option maxHeartbeats 1000000 in
set_option maxRecDepth 100000 in
theorem law_any (A AS : Option Addr) (L S : List Int) (cap caps : Nat) (w : World) (hr : RdI w A L) (hs : Reads w w.heap.size 1 AS S.length (S.map (.int .u8))) (hS : ∀ x, x ∈ S → 0 ≤ x ∧ x ≤ 255) (hLm : L.length ≤ 140737488355328) (hSm : S.length ≤ 140737488355328) :
    Calls Try.prog 3 #[.slice A L.length cap, .slice AS S.length caps] w fun e w' => TrueBelow w e w' := by
  have hmm := @run_makeMap Try.prog
  obtain ⟨i0, hi, hz0, hz1, hz2⟩ := info_parts byte_facts
  have HI := Lib.hid hi; have HZ0 := Lib.hid hz0; have HZ1 := Lib.hid hz1; have HZ2 := Lib.hid hz2
  clear hi hz0 hz1 hz2
  obtain ⟨n, hn⟩ : ∃ n, n = L.length := ⟨_, rfl⟩
  obtain ⟨ns, hns⟩ : ∃ ns, ns = S.length := ⟨_, rfl⟩
  rw [← hn] at hLm ⊢
  rw [← hns] at hSm hs ⊢
  have HR := Lib.hid hr; have HN := Lib.hid hn; have HS := Lib.hid hs; have HNS := Lib.hid hns; have HSB := Lib.hid hS
  clear hr hn hs hns hS
  go_enter Try.func3, Try.ntmps3
  go_wp2_with fail
  refine (awake19_any _).mono ?_
  rintro e w1 ⟨rfl, hl⟩
  have HL := Lib.hid hl
  clear hl
  by_cases h1 : 150 < n
  · go_wp2_with fail
    refine (awake19_any _).mono ?_
    rintro e w2 ⟨rfl, hl⟩
    go_wp2
    go_ret
    exact ⟨rfl, HL.out.trans (hl.mono HL.out.size)⟩
  have h1' : (n : Int) ≤ 150 := by omega
  have h1d : decide ((150 : Int) < (n : Int)) = false := by simp; omega
  by_cases h2 : 300 < ns
  · go_wp2_with fail
    refine (awake19_any _).mono ?_
    rintro e w2 ⟨rfl, hl⟩
    go_wp2
    go_ret
    exact ⟨rfl, HL.out.trans (hl.mono HL.out.size)⟩
  have h2' : (ns : Int) ≤ 300 := by omega
  have h2d : decide ((300 : Int) < (ns : Int)) = false := by simp; omega
  go_wp2_with fail
  refine (new_st _).mono ?_
  rintro e w0 ⟨rfl, hst, hl0⟩
  obtain ⟨g, hg⟩ : ∃ g, g = w1.heap.size := ⟨_, rfl⟩
  rw [← hg] at hst ⊢
  have HB0 := Lib.hid (HL.out.trans (hl0.mono HL.out.size))
  have HST := Lib.hid hst
  have HG := Lib.hid (show w.heap.size ≤ g by rw [hg]; exact HL.out.size)
  clear hg hl0 hst
  go_wp2_with fail
  obtain ⟨m, hm⟩ : ∃ m, m = w0.heap.size := ⟨_, rfl⟩
  have hmade := MapO.made w0
  rw [← hm] at hmade ⊢
  have HMD := Lib.hid hmade; have HM := Lib.hid hm
  clear hmade hm
  go_loopw [34] (fun iv wr => OnceRel w0 g m iv n w wr) (fun iv _ => n - (intOf iv).toNat)
  case atStart =>
    refine ⟨0, [], Nat.zero_le _, rfl, rfl, fun x hx => by simp at hx, HST.out.below ((Below.refl _ _).alloc (Nat.le_refl _) _), ⟨_, HMD.out, fun id t _ => by simp⟩⟩
  case round =>
    obtain ⟨k, K, hk, rfl, hlen, hbd, hst, hml⟩ := hrel
    have HLEN := Lib.hid hlen; have HBD := Lib.hid hbd; have HST2 := Lib.hid hst; have HML := Lib.hid hml; have HBL := Lib.hid (HB0.out.trans (hst.all HG.out HB0.out.size))
    clear hlen hbd hst hml
    by_cases hk' : k < n
    · obtain ⟨b, o, rfl, hb, c0⟩ := (HR.out.below HBL.out) k (by rw [← HN.out]; exact hk')
      have hk0 : (0 : Int) ≤ (k : Int) := by omega
      have hk1 : (k : Int) < (n : Int) := by omega
      obtain ⟨x, hx⟩ : ∃ x, x = gI L k := ⟨_, rfl⟩
      rw [← hx] at c0
      clear hx
      obtain ⟨t, ht, htl⟩ := rem_400 x
      have hno : ∀ y, y ∈ K → y.1 ≠ (k : Int) := fun y hy e => by have := (HBD.out y hy).1; omega
      have hfr := add_fresh (L := K) (id := (k : Int)) (t := (t : Int)) (by omega) (by omega) hno (by rw [HLEN.out]; omega)
      have HFR := Lib.hid hfr
      have HNO := Lib.hid hno
      clear hfr hno
      have hadd : Calls Try.prog 10 #[.pointer (some ⟨g, 0, none⟩), .int .i64 (k : Int), .int .i64 (t : Int)] wr fun e w' => addOut w0 g K k t wr e w' :=
        (add_st w0 g K k t wr HST2.out (by omega)).mono fun e w' ⟨he, h⟩ => ⟨by rw [he, HFR.out.1], h⟩
      have HADD := Lib.hid hadd
      clear hadd
      go_wp2_with fail
      refine HADD.out.mono ?_
      rintro e w4 ⟨rfl, hst4, hk4⟩
      rw [ht]
      clear ht
      have hml4 := (HML.out).step hk4
      have HML4 := Lib.hid hml4; have HST4 := Lib.hid hst4
      clear hml4 hst4 hk4 HADD HST2 HML HBL c0
      go_wp2_with (first
        | (at_mapUpdate; refine wpList_putL _ rfl _ _ _ rfl m k K rfl HML4.out (by unfold maxLen; omega) (k : Int) (t : Int) rfl rfl (by unfold WfI; omega) (by unfold WfI; omega) HNO.out w0 g _ HST4.out (by rw [HM.out]; exact Nat.le_refl _) ?_))
      intro w5 hml5 hst5 hg5
      have HE := Lib.hid (show St w0 g (addL K k t) w5 ∧ MapL w5 m (k + 1) (addL K k t) from ⟨hst5, hml5.perm HFR.out.2⟩)
      have HP := Lib.hid HFR.out.2
      clear hml5 hst5 hg5 HML4 HST4
      go_wp2
      go_roundw
      case rel =>
        refine ⟨k + 1, addL K k t, hk', by go_num, ?_, fun x hx => ?_, HE.out⟩
        · rw [HP.out.length_eq]; simp [HLEN.out]
        · rcases List.mem_cons.1 (HP.out.mem_iff.1 hx) with rfl | hx
          · exact ⟨by simp; omega, by simp; omega⟩
          · have := HBD.out x hx
            omega
      case measure => simp [intOf]; omega
    · obtain rfl : k = n := by omega
      have hownA := World.ownsRow_made (e := 5) (size := 1) wr #[] 0 (Nat.le_refl _) (by unfold maxLen; omega) rfl
      have hbA : Below w.heap.size w (wr.alloc (.cells #[] 5)) := HBL.out.alloc HBL.out.size _
      have hrdA := HS.out.below hbA
      have HOA := Lib.hid hownA; have HRA := Lib.hid hrdA
      clear hownA hbA hrdA
      go_wp2_with (first
        | (at_builtin; refine wpList_append_any _ rfl (.tmp 52) (.tmp 53) 23 rfl wr.heap.size 5 i0 (.int .u8 0) 1 1 Try.underlying23 HI.out HZ0.out HZ1.out HZ2.out rfl (by decide) _ 0 [] rfl HOA.out w.heap.size AS ns caps (S.map (.int .u8)) rfl HRA.out ?c1 ?c2 ?c3 ?c4 ?_))
      case c1 => intro u hu; obtain ⟨z, _, rfl⟩ := List.mem_map.1 hu; rfl
      case c2 => unfold maxLen; omega
      case c3 => omega
      case c4 => simp
      intro v6 w6 hown6 hgrow6 hloc6
      have hb6 : Below wr.heap.size wr w6 := ((Below.refl wr.heap.size wr).alloc (Nat.le_refl _) (.cells #[] 5)).grown hgrow6 (by simp) (fun j hj => own_ge HOA.out hj)
      have hown6' := row_below hown6 ((Below.refl _ _).alloc (Nat.le_refl _) (.cells #[.int .u8 255, .int .u8 255] 5))
      have hrd6 : Reads (w6.alloc (.cells #[.int .u8 255, .int .u8 255] 5)) (w6.heap.size + 1) 1 (some ⟨w6.heap.size, 0, none⟩) 2 [.int .u8 255, .int .u8 255] := ⟨rfl, fun _ => ⟨_, rfl, Nat.lt_succ_self _, cells_new _ _ _⟩⟩
      have HB6 := Lib.hid hb6; have HO6 := Lib.hid hown6'; have HR6 := Lib.hid hrd6
      clear hb6 hown6 hown6' hrd6 hgrow6 hloc6 HOA HRA
      go_wp2_with (first
        | (at_builtin; refine wpList_append_any _ rfl (.tmp 54) (.tmp 55) 23 rfl wr.heap.size 5 i0 (.int .u8 0) 1 1 Try.underlying23 HI.out HZ0.out HZ1.out HZ2.out rfl (by decide) _ _ _ rfl HO6.out (w6.heap.size + 1) (some ⟨w6.heap.size, 0, none⟩) 2 2 _ rfl HR6.out ?c1 ?c2 ?c3 ?c4 ?_))
      case c1 => intro u hu; simp at hu; rw [hu]; rfl
      case c2 => unfold maxLen; omega
      case c3 => omega
      case c4 => simp; have := HB6.out.size; omega
      intro v7 w7 hown7 hgrow7 hloc7
      have hb7 : Below wr.heap.size wr w7 := (HB6.out.alloc HB6.out.size (.cells #[.int .u8 255, .int .u8 255] 5)).grown hgrow7 (by simp; have := HB6.out.size; omega) (fun j hj => own_ge HO6.out hj)
      obtain ⟨T, hT⟩ : ∃ T, T = S ++ [(255 : Int), 255] := ⟨_, rfl⟩
      have hTl : T.length = ns + 2 := by rw [hT]; simp [HNS.out]
      have hrow : RowU w7 wr.heap.size v7 T := by
        unfold RowU
        rw [hTl, hT]
        simpa using hown7
      obtain ⟨A7, c7, rfl⟩ := hrow.form
      rw [hTl]
      have hTe := sumI_end S HSB.out
      rw [← hT] at hTe
      have hTb : ∀ x, x ∈ T → 0 ≤ x ∧ x ≤ 255 := fun x hx => by
        rw [hT] at hx
        rcases List.mem_append.1 hx with hx | hx
        · exact HSB.out x hx
        · simp at hx; omega
      have HE := Lib.hid (show St w0 g K w7 ∧ MapL w7 m k K ∧ RowU w7 wr.heap.size (.slice A7 T.length c7) T from ⟨HST2.out.below hb7, HML.out.below hb7, hrow⟩)
      rw [hTl] at hTe HE
      have HTL := Lib.hid hTl; have HTE := Lib.hid hTe; have HTB := Lib.hid hTb
      clear hT hTl hTe hTb hrow hb7 hown7 hgrow7 hloc7 HB6 HO6 HR6 HST2 HML
      go_wp2_with fail
      obtain ⟨B, hB⟩ : ∃ B, B = wr.heap.size := ⟨_, rfl⟩
      rw [← hB] at HE
      clear hB
      go_loopw [9, 10, 58] (fun nv lv iv wr2 => OnceRel2 w0 g m k B (.slice A7 (ns + 2) c7) T nv lv iv w wr2) (fun _ _ iv _ => ns + 2 - (intOf iv).toNat)
      case atStart => exact ⟨0, K, Nat.zero_le _, rfl, rfl, rfl, fun x hx => ⟨by have := (HE.out.1).ok.bd x hx; unfold lastI; rw [if_pos rfl]; omega, (HBD.out x hx).2⟩, HE.out⟩
      case round =>
        obtain ⟨i, K2, hi, rfl, rfl, rfl, hbd2, hst2, hml2, hrow2⟩ := hrel
        have HBD2 := Lib.hid hbd2; have HST3 := Lib.hid hst2; have HML3 := Lib.hid hml2; have HRO := Lib.hid hrow2
        clear hbd2 hst2 hml2 hrow2 HE
        rw [HTL.out] at hi
        by_cases hi' : i < ns + 2
        · have hiT : i < T.length := by rw [HTL.out]; exact hi'
          obtain ⟨b, c, he, hb, c0⟩ := HRO.out.rd hiT
          rw [HTL.out] at he
          injection he with e1 e2 e3
          subst e1 e3
          clear e2
          have hsb := HTB.out (gI T i) (gI_mem hiT)
          have hnb := sumI_bd HTB.out i (Nat.le_of_lt hiT)
          have HNX := Lib.hid (sumI_next hiT)
          have HLN := Lib.hid (show lastI T (i + 1) = sumI T (i + 1) by unfold lastI; rw [if_neg (by omega)])
          obtain ⟨s, hs⟩ : ∃ s, s = gI T i := ⟨_, rfl⟩
          obtain ⟨now, hnow⟩ : ∃ now, now = sumI T i := ⟨_, rfl⟩
          obtain ⟨last, hlast⟩ : ∃ last, last = lastI T i := ⟨_, rfl⟩
          rw [← hs] at c0 hsb HNX
          rw [← hnow] at hnb HNX ⊢
          rw [← hlast] at HBD2 ⊢
          clear hs hnow hlast
          have hi0 : (0 : Int) ≤ (i : Int) := by omega
          have hi1 : (i : Int) < (ns : Int) + 2 := by omega
          go_wp2_with fail
          refine (due_st w0 g K2 (now + s) wr HST3.out).mono ?_
          rintro e w4 ⟨sv4, rfl, hia4, hst4, hk4⟩
          obtain ⟨A4, c4, rfl⟩ := hia4.form
          obtain ⟨now', hnow'⟩ : ∃ now', now' = now + s := ⟨_, rfl⟩
          rw [← hnow'] at hia4 hst4 ⊢
          obtain ⟨q, hq⟩ : ∃ q, q = (dueO K2 now').length := ⟨_, rfl⟩
          rw [← hq]
          have HOK := Lib.hid HST3.out.ok
          have hqK : q ≤ 200 := by rw [hq]; exact Nat.le_trans (due_len K2 now') HOK.out.len
          have HQ := Lib.hid hq
          have HNOW := Lib.hid (show now' = sumI T (i + 1) by rw [hnow', HNX.out])
          have HE4 := Lib.hid (show MapL w4 m k (K2.drop 0) ∧ St w0 g (dueL K2 now') w4 ∧ IntsAt w4 wr.heap.size (.slice A4 (dueO K2 now').length c4) (dueO K2 now') ∧ RowU w4 B (.slice (some ⟨b, 0, none⟩) (ns + 2) c7) T from
            ⟨HML3.out.step hk4, hst4, hia4, hk4.row HRO.out (by decide) (by decide)⟩)
          obtain ⟨B3, hB3⟩ : ∃ B3, B3 = wr.heap.size := ⟨_, rfl⟩
          rw [← hB3] at HE4
          rw [← hq] at HE4
          clear hq hia4 hst4 hk4 hB3 HNX HST3 HML3 HRO c0 hb hnow'
          go_wp2_with fail
          go_loopw [70] (fun jv wr3 => OnceRel3 w0 g m k B B3 (.slice (some ⟨b, 0, none⟩) (ns + 2) c7) (.slice A4 q c4) T K2 now' jv w wr3) (fun jv _ => q - (intOf jv).toNat)
          case atStart => exact ⟨0, Nat.zero_le _, rfl, HE4.out⟩
          case round =>
            obtain ⟨j, hj, rfl, hml5, hst5, hia5, hro5⟩ := hrel
            rw [← HQ.out] at hj
            have HM5 := Lib.hid hml5; have HS5 := Lib.hid hst5; have HI5 := Lib.hid hia5; have HR5 := Lib.hid hro5
            clear hml5 hst5 hia5 hro5 HE4
            by_cases hj' : j < q
            · have hjO : j < (dueO K2 now').length := by rw [← HQ.out]; exact hj'
              have hjK : j < K2.length := Nat.lt_of_lt_of_le hjO (due_len K2 now')
              obtain ⟨A5, c5, he5, hrd5⟩ := HI5.out.rd
              have hA5 : A4 = A5 := by injection he5
              subst hA5
              clear he5
              obtain ⟨b5, o5, rfl, hb5, d0⟩ := hrd5 j hjO
              have hdue := due_at hjO
              rw [hdue.1] at d0
              have hx1 := HBD2.out _ (gW_mem hjK)
              have hx2 := HOK.out.bd _ (gW_mem hjK)
              have hM5 := HM5.out
              rw [drop_next hjK] at hM5
              have hnd : ((gW K2 j :: K2.drop (j + 1)).map (·.1)).Nodup := by
                rw [← drop_next hjK]
                exact HOK.out.ids.sublist ((List.drop_sublist _ _).map _)
              obtain ⟨x, hx⟩ : ∃ x, x = gW K2 j := ⟨_, rfl⟩
              rw [← hx] at d0 hdue hx1 hx2 hM5 hnd
              clear hx hrd5
              have hxn := hdue.2
              have hxl := hx1.1
              have HWX := Lib.hid (show WfI x.1 by unfold WfI; omega)
              have HM6 := Lib.hid hM5; have HND := Lib.hid hnd
              clear hM5 hnd HM5 hdue hx1 hx2
              have hj0 : (0 : Int) ≤ (j : Int) := by omega
              have hj1 : (j : Int) < (q : Int) := by omega
              have hc1 : decide (now' < x.2) = false := by simp; omega
              have hc2 : decide (x.2 ≤ last) = false := by simp; omega
              go_wp2_with (first
                | (at_lookup; refine wpList_lookL _ rfl _ _ rfl m k x _ rfl HM6.out rfl HWX.out ?_)
                | (at_delete; refine wpList_delL _ rfl _ _ rfl m k x _ rfl HM6.out HND.out rfl HWX.out w0 g _ HS5.out (by rw [HM.out]; exact Nat.le_refl _) _ _ _ _ _ _ _ _ _ _ _ _ HI5.out HR5.out ?_))
              intro w6 hml6 hst6 hg6 hia6 hro6
              have HE6 := Lib.hid (show MapL w6 m k (K2.drop (j + 1)) ∧ St w0 g (dueL K2 now') w6 ∧ IntsAt w6 B3 (.slice (some ⟨b5, o5, none⟩) q c4) (dueO K2 now') ∧ RowU w6 B (.slice (some ⟨b, 0, none⟩) (ns + 2) c7) T from ⟨hml6, hst6, hia6, hro6⟩)
              clear hml6 hst6 hg6 hia6 hro6 HM6 HS5 HI5 HR5 d0
              go_wp2
              go_roundw
              case rel => exact ⟨j + 1, hjO, by go_num, HE6.out⟩
              case measure => simp [intOf]; omega
            · obtain rfl : j = q := by omega
              have hdr := due_drop K2 now'
              rw [← HQ.out] at hdr
              have hM5 := HM5.out
              rw [hdr] at hM5
              have HE6 := Lib.hid (show St w0 g (dueL K2 now') wr ∧ MapL wr m k (dueL K2 now') ∧ RowU wr B (.slice (some ⟨b, 0, none⟩) (ns + 2) c7) T from ⟨HS5.out, hM5, HR5.out⟩)
              clear hM5 hdr HM5 HS5 HI5 HR5
              go_wp2
              go_roundw
              case rel =>
                refine ⟨i + 1, dueL K2 now', by rw [HTL.out]; exact hi', by go_num, by rw [HNOW.out], by rw [HLN.out, HNOW.out], fun x hx => ⟨?_, ?_⟩, HE6.out⟩
                · rw [HLN.out, ← HNOW.out]
                  exact dueL_later HOK.out.sorted x hx
                · exact (HBD2.out x ((List.dropWhile_sublist _).subset hx)).2
              case measure => simp [intOf]; omega
        · obtain rfl : i = ns + 2 := by omega
          have hK : K2 = [] := by
            rcases K2 with _ | ⟨x, K3⟩
            · rfl
            · have h := HBD2.out x List.mem_cons_self
              have h2 := HTE.out
              unfold lastI at h
              rw [if_neg (by omega)] at h
              omega
          subst hK
          have HML5 := Lib.hid HML3.out
          clear HML3 HBD2 HRO
          go_wp2_with (first
            | (at_len; refine wpList_lenL _ rfl _ rfl m k rfl HML5.out ?_))
          have hst5 := HST3.out
          have hbl5 := HB0.out.trans (hst5.all HG.out HB0.out.size)
          obtain ⟨F5, hW5, _⟩ := hst5
          refine (waits_any g F5 [] wr hW5).mono ?_
          rintro e w8 ⟨sv8, rfl, hp8, hb8⟩
          obtain ⟨A8, c8, rfl⟩ := hp8.form
          clear hp8 hW5 HML5 HST3
          go_wp2
          go_ret
          exact ⟨rfl, hbl5.trans (hb8.mono hbl5.size)⟩
section
variable {H : Type} {enc : TypeId × Value → H} {W : World} {base : Nat}
theorem open_list {T E : TypeId} {q : IntKind} {v : Value} {d : DataW H} {p : List MemPlace} (hu : Try.prog.underlying T = some (.slice E)) (he : Try.prog.underlying E = some (.int q)) (hc : Try.prog.cellsOf E = 1) (hv : Value.okWide Try.prog W .any base T v) (h : DataW.Trod enc Try.prog W 0 (fun _ => true) true T v d p) :
    ∃ (A : Option Addr) (L : List Int) (cap : Nat), v = .slice A L.length cap ∧ (∀ i, i < L.length → ∃ a, A = some a ∧ W.cell? (a.add i) = some (.int q (gI L i))) ∧ (∀ x, x ∈ L → (Lit.int q x).wf = true) ∧
      ((d = .nil ∧ L = []) ∨ ∃ rest, d = .slice (lits q L) rest) := by
  obtain ⟨a0, len, cap, rfl⟩ := okWide_slice hu hv
  obtain ⟨fuel, hf⟩ := h
  rcases open_ints hu he hc hf with ⟨hcs, hx⟩ | ⟨a, len', cap', zs, hcs, hb, hl, hm, hz, hx, hcell, hwf⟩
  · simp [Value.cells] at hcs
    obtain ⟨rfl, rfl, rfl⟩ := hcs
    exact ⟨none, [], 0, rfl, fun i hi => absurd hi (by simp), fun x hx => by simp at hx, .inl ⟨by simpa using congrArg Prod.fst hx, rfl⟩⟩
  · simp [Value.cells] at hcs
    obtain ⟨rfl, rfl, rfl⟩ := hcs
    have hzl : len ≤ zs.length := by rw [hz]; split <;> omega
    have hlen : (zs.take len).length = len := by rw [List.length_take]; omega
    refine ⟨some a, zs.take len, cap, by rw [hlen], fun i hi => ⟨a, rfl, ?_⟩, fun x hx => hwf x (List.mem_of_mem_take hx), .inr ⟨_, congrArg Prod.fst hx⟩⟩
    rw [hlen] at hi
    rw [hcell i (by omega)]
    simp [gI, List.getElem?_take, hi]
theorem list_rd {A : Option Addr} {L : List Int} (h : ∀ i, i < L.length → ∃ a, A = some a ∧ W.cell? (a.add i) = some (.int .i64 (gI L i))) : RdI W A L := fun i hi => by
  obtain ⟨a, rfl, hc⟩ := h i hi
  obtain ⟨a', ha', h0⟩ := h 0 (by omega)
  injection ha' with ha'
  subst ha'
  rw [Addr.add_zero'] at h0
  have hsp := cell_spot h0
  refine ⟨a.block, a.off, by rw [← hsp], cell_lt h0, ?_⟩
  rw [hsp, Addr.add_lit] at hc
  exact hc
theorem list_reads {A : Option Addr} {L : List Int} (h : ∀ i, i < L.length → ∃ a, A = some a ∧ W.cell? (a.add i) = some (.int .u8 (gI L i))) : Reads W W.heap.size 1 A L.length (L.map (.int .u8)) := by
  refine ⟨by simp, fun hn => ?_⟩
  obtain ⟨a, rfl, h0⟩ := h 0 hn
  rw [Addr.add_zero'] at h0
  refine ⟨a, rfl, cell_lt h0, fun j u hu => ?_⟩
  have hj : j < L.length := by
    have := (List.getElem?_eq_some_iff.1 hu).1
    simpa using this
  obtain ⟨a', ha', hc⟩ := h j hj
  injection ha' with ha'
  subst ha'
  rw [hc]
  rw [List.getElem?_map, List.getElem?_eq_getElem hj] at hu
  simpa [gI, hj] using hu
theorem len_bd {L : List Int} {q : IntKind} {d : DataW H} {T E : TypeId} {ts : List TypeId} {ds : List (DataW H)} {j : Nat} (hsz : (DataW.weightsEach Try.prog ts ds).all (· ≤ reachBytes) = true) (ht : ts[j]? = some T) (hd : ds[j]? = some d) (hu : Try.prog.underlying T = some (.slice E)) (hb : 0 < Try.prog.bytesOf E)
    (h : (d = .nil ∧ L = []) ∨ ∃ rest, d = .slice (lits q L) rest) : L.length ≤ 140737488355328 := by
  rcases h with ⟨_, rfl⟩ | ⟨rest, rfl⟩
  · simp
  · have := sized_slice hsz ht hd hu
    have hr := reachBytes_lt
    have hl : (lits (H := H) q L).length = L.length := by simp [lits]
    rw [hl] at this
    have h2 : L.length ≤ (L.length + rest.length) * Try.prog.bytesOf E := Nat.le_trans (Nat.le_add_right _ _) (Nat.le_mul_of_pos_right _ hb)
    omega
end
theorem walk {H : Type} {enc : TypeId × Value → H} {W : World} {base : Nat} {args : Array Value} {ds : List (DataW H)} {ps : List MemPlace}
    (h : Handed enc Try.prog W base Try.f3.params.toList args ds ps) : Calls Try.prog 3 args W fun e w' => TrueBelow W e w' := by
  rw [Try.params3] at h
  have hval := h.val
  have hsz := h.fits
  obtain ⟨v0, vs0, d0, ds0, p0, q0, hargs, rfl, rfl, h0, r0⟩ := trodAll_cons h.trod
  obtain ⟨v1, vs1, d1, ds1, p1, q1, rfl, rfl, rfl, h1, r1⟩ := trodAll_cons r0
  obtain ⟨rfl, rfl, rfl⟩ := trodAll_nil r1
  obtain rfl : args = #[v0, v1] := by cases args; simp_all
  obtain ⟨A, L, cap, rfl, hL, _, hld⟩ := open_list Try.underlying22 Try.underlying3 (by kernel_rfl) (hval 0 22 v0 rfl rfl) h0
  obtain ⟨AS, S, caps, rfl, hS, hSw, hsd⟩ := open_list Try.underlying23 Try.underlying5 (by kernel_rfl) (hval 1 23 v1 rfl rfl) h1
  refine law_any A AS L S cap caps W (list_rd hL) (list_reads hS) (fun x hx => ?_) ?_ ?_
  · have h2 : IntKind.u8.min ≤ x ∧ x ≤ IntKind.u8.max := by simpa [Lit.wf] using hSw x hx
    exact h2
  · have := len_bd (j := 0) hsz rfl rfl Try.underlying22 (by rw [show Try.prog.bytesOf 3 = 8 from by kernel_rfl]; omega) hld
    omega
  · have := len_bd (j := 1) hsz rfl rfl Try.underlying23 (by rw [show Try.prog.bytesOf 5 = 1 from by kernel_rfl]; omega) hsd
    omega


set_option maxRecDepth 100000 in
theorem lifted (os : Os) (started : os.Started) (H : Type) (enc : TypeId × Value → H) :
    ReturnsInHanded {} Try.checked os 3 .any (Rows.timerOnceSpec.pre6 enc Try.prog Try.f3 Rows.timerOnceRow.domain false) (Rows.timerOnceSpec.post enc Try.prog Try.f3 false true false false) := by
  refine returnsInHanded_of_change_sized (C := Try.checked) own started (by kernel_rfl) Try.func3
    (ChangeSpec.witness6 (enc := enc) (C := Try.checked) false ⟨#[], #[.slice none 0 0, .slice none 0 0], []⟩ 8 (by kernel_rfl) (by kernel_rfl) (by kernel_rfl) (by kernel_rfl)) ?_
  intro W base args ds gs before hval hW _ hsz _
  refine (walk (handed_of hval hW rfl rfl hsz)).mono fun e W' ⟨he, hb⟩ => ?_
  subst he
  exact ⟨_, rfl, law_post hW rfl laidOut (by kernel_rfl) rfl Try.underlying4 (fun ds' h => by match ds', h with | [_, _], _ => rfl) hb⟩

theorem over : Rows.timerOnceRow.holds Try.pinned (OpenSpec.ofChange Rows.timerOnceSpec) :=
  OpenClaim.holds_of_wide 3 Try.f3 rfl rfl rfl rfl rfl rfl rfl ⟨rfl, rfl, rfl, rfl, rfl⟩ rfl rfl rfl rfl rfl (by kernel_rfl) Try.func3 (by kernel_rfl)
    (of_decide_eq_true (by kernel_rfl)) (by unfold Func.isWrapper; first | (rw [if_pos (by decide +kernel)]; kernel_rfl) | (rw [if_neg (by decide +kernel)]; exact ⟨rfl, rfl⟩))
    (fun os started H enc _ => lifted os started H enc)

theorem proved : Rows.TimerOnceSaid :=
  over
#print axioms proved
end Go.Proofs.Ytbngcepekaicjaa.timerOnce
