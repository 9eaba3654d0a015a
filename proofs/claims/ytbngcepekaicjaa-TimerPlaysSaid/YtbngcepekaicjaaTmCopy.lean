/- A wheel's copy; who waits. -/
import Derived.Test.YtbngcepekaicjaaTmAwake2
import Derived.Test.YtbngcepekaicjaaTmSort
import Derived.Laws.CopyRow
import Derived.Laws.MakeOwn
import Derived.Deep.RegionLaw
namespace Go.Proofs.Ytbngcepekaicjaa
set_option linter.unusedVariables false
open Go.RowKit

theorem rowW_cells {w : World} {A : Option Addr} {l : List Wt} (h : RowW w A l) (hl : 0 < l.length) : ∃ b, A = some ⟨b, 0, none⟩ ∧ ∀ j u, (wc l)[j]? = some u → w.cell? ((⟨b, 0, none⟩ : Addr).add j) = some u := by
  obtain ⟨b, rfl, _, _, _⟩ := h 0 hl
  refine ⟨b, rfl, fun j u hu => ?_⟩
  have hj : j < (wc l).length := by
    rcases Nat.lt_or_ge j (wc l).length with h' | h'
    · exact h'
    · rw [List.getElem?_eq_none h'] at hu; cases hu
  rw [wc_len] at hj
  obtain ⟨b', e, _, c0, c1⟩ := h (j / 2) (by omega)
  injection e with e
  injection e with e
  subst e
  rw [Addr.add_lit, Nat.zero_add]
  have h0 := wc_0 l (j / 2) [] (by omega)
  have h1 := wc_1 l (j / 2) [] (by omega)
  rw [List.append_nil] at h0 h1
  rcases (by omega : j % 2 = 0 ∨ j % 2 = 1) with hm | hm
  · rw [show j / 2 * 2 = j from by omega] at h0 c0
    rw [h0] at hu
    injection hu with hu
    rw [c0, hu]
  · rw [show j / 2 * 2 + 1 = j from by omega] at h1 c1
    rw [h1] at hu
    injection hu with hu
    rw [c1, hu]
theorem wc_one1 (l : List Wt) : ∀ u ∈ wc l, u.oneCell' = true := by
  intro u hu
  obtain ⟨x, _, hx⟩ := List.mem_flatMap.1 hu
  simp at hx
  rcases hx with rfl | rfl <;> rfl
/-- The whole heap is copied into a new row. -/
theorem run_copy2 (w : World) (ty D cap : Nat) (A : Option Addr) (l : List Wt) (cur : Array Value) (hD : Blk w D 57 cur) (hcs : cur.size = 2 * l.length) (hr : RowW w A l) :
    ∃ w', (Builtin.copy_ #[52, 52] ty #[.slice (some ⟨D, 0, none⟩) l.length l.length, .slice A l.length cap]).run Try.prog w = .ok (goInt l.length) w' ∧ HBk w' D l [] ∧ Only w w' D := by
  obtain ⟨i0, hi, hz0, hz1, hz2⟩ := info_parts wait_facts
  rcases Nat.eq_zero_or_pos l.length with h0 | h0
  · have hl : l = [] := List.eq_nil_of_length_eq_zero h0
    subst hl
    have hc : cur = #[] := Array.eq_empty_of_size_eq_zero (by simpa using hcs)
    subst hc
    refine ⟨w, ?_, hD, .refl _ _⟩
    have hl : ∀ (x : Addr), (loadCells x 0).run Try.prog w = .ok #[] w := fun x => by simpa using run_loadCells_list (P := Try.prog) w x [] (by simp)
    cases A <;> simp [Builtin.copy_, run_underlying Try.underlying52, Builtin.lenOf, Builtin.firstCells, sizeOf, typeInfo, hi, storeCells, hl]
  · obtain ⟨b, rfl, hsrc⟩ := rowW_cells hr h0
    have hl := run_loadCells_list (P := Try.prog) w ⟨b, 0, none⟩ (wc l) hsrc
    have hst := run_storeCells_at (P := Try.prog) D 0 57 (wc l) 0 cur w hD (by rw [wc_len, hcs]; omega) (wc_one1 l)
    have e : (List.take (0 + 0) cur.toList ++ wc l ++ List.drop (0 + 0 + (wc l).length) cur.toList).toArray = (wc l).toArray := by
      rw [List.drop_eq_nil_of_le (by rw [wc_len]; simp; omega)]
      simp
    rw [e] at hst
    have hb : HBk (w.setRow D (wc l).toArray) D l [] := by
      unfold HBk
      rw [List.append_nil]
      exact setRow_heap w D _ _ _ _ hD
    refine ⟨w.setRow D (wc l).toArray, ?_, hb, rfl, rfl, rfl, by simp [World.setRow], fun i hi' hne => setRow_other w D i _ (fun e => hne (by rw [e]))⟩
    rw [wc_len, Nat.mul_comm] at hl
    simp [Builtin.copy_, run_underlying Try.underlying52, Builtin.lenOf, Builtin.firstCells, sizeOf, typeInfo, hi, hz1, hl, hst]
theorem wpList_copyR {P : Program} {w w' : World} {ops : Array Oper} {rest : List Oper} {o : Oper} {a : Act} {Q : Exit → Act → World → Prop} (hgd : o.guard = none) (d s : Operand) (t t' : TypeId)
    (ho : o.op = .call { callee := .builtin .copy, args := #[d, s], argTypes := #[t, t'] }) (x y r : Value) (hd : a.eval d = x) (hs : a.eval s = y) (hrun : (Builtin.copy_ #[t, t'] o.type #[x, y]).run P w = .ok r w')
    (h : wpList P ops Q rest (a.put o.dst r) w') : wpList P ops Q (o :: rest) a w := by
  refine wpList_plain hgd fun K hK => ?_
  unfold Oper.wp
  simp [execOp, ho, resolve, invoke, builtin, hd, hs, hrun, Result.andThen]
  exact hK _ _ h
theorem step_copyR {P : Program} {ops : Array Oper} {o : Oper} {a : Act} {w w' : World} {K : Act → World → Prop} {Q : Exit → Act → World → Prop} {E : Prop} (hgd : o.guard = none) (d s : Operand) (t t' : TypeId)
    (ho : o.op = .call { callee := .builtin .copy, args := #[d, s], argTypes := #[t, t'] }) (x y r : Value) (hd : a.eval d = x) (hs : a.eval s = y) (hrun : (Builtin.copy_ #[t, t'] o.type #[x, y]).run P w = .ok r w')
    (h : K (a.put o.dst r) w') : if Region.wanted o (yielded ops a.tmps) = true then Oper.wp P o a w K Q else E := by
  have hw : Region.wanted o (yielded ops a.tmps) = true := by simp [Region.wanted, hgd]
  rw [if_pos hw]
  unfold Oper.wp
  simp [execOp, ho, resolve, invoke, builtin, hd, hs, hrun, Result.andThen]
  exact h
theorem run_makeW (n : Nat) (hn : n ≤ 300) (W : World) : (Instr.makeSlice 52 (.int .i64 (n : Int)) (.int .i64 (n : Int))).run Try.prog W = .ok (.slice (some ⟨W.heap.size, 0, none⟩) n n) (W.alloc (.cells (madeCells #[.int .i64 0, .int .i64 0] (n * 2)) 57)) := by
  obtain ⟨i0, hi, hz0, hz1, hz2⟩ := info_parts wait_facts
  have hr := run_make (P := Try.prog) W 52 57 i0 _ Try.underlying52 hi hz0 .i64 .i64 n n (by omega) (by omega) (by rw [hz2]; omega) (by omega)
  rw [hz1] at hr
  simp only [Int.toNat_natCast] at hr
  exact hr
theorem made_size (n : Nat) : (madeCells #[Value.int .i64 0, .int .i64 0] (n * 2)).size = n * 2 := by simp [madeCells]

def CopyOut (L : List Wt) (w : World) (e : Ending) (w' : World) : Prop := e = .returned (.pointer (some ⟨w.heap.size + 1, 0, none⟩)) ∧ Wheel w' (w.heap.size + 1) (some w.heap.size) L ∧ Below w.heap.size w w'
set_option maxHeartbeats 1000000 in
set_option maxRecDepth 100000 in
theorem copy_any (g : Nat) (F : Option Nat) (L : List Wt) (w : World) (h : Wheel w g F L) : Calls Try.prog 19 #[.pointer (some ⟨g, 0, none⟩)] w fun e w' => CopyOut L w e w' := by
  have hnp : ∀ (W : World) (a : Addr), (binOp .eql 25 (.pointer (some a)) (.pointer none)).run Try.prog W = .ok (.bool false) W := fun _ _ => rfl
  obtain ⟨v, l, hw, rfl, hh, hp, hok⟩ := h
  have hl : l.length ≤ 300 := by rw [hp.length_eq]; have := hok.len; omega
  obtain ⟨A, cap, e, hr, hcap⟩ := hw.lie
  have hgl := hw.1.lt
  have hne : g ≠ w.heap.size := by omega
  have hne1 : g ≠ w.heap.size + 1 := by omega
  have cg := hw.1.cell 0
  simp only [List.getElem?_toArray, List.getElem?_cons_zero, e] at cg
  obtain ⟨n, hn⟩ : ∃ n, n = l.length := ⟨_, rfl⟩
  rw [← hn] at cg hl
  have hmk := run_makeW n hl
  obtain ⟨W, hW⟩ : ∃ W, W = (w.alloc (.cells (madeCells #[.int .i64 0, .int .i64 0] (n * 2)) 57)).alloc (.cells #[.slice (some ⟨w.heap.size, 0, none⟩) n n] 54) := ⟨_, rfl⟩
  have hbW : Below w.heap.size w W := by rw [hW]; exact ((Below.refl _ _).alloc (Nat.le_refl _) _).alloc (by simp) _
  have hD : Blk W w.heap.size 57 (madeCells #[.int .i64 0, .int .i64 0] (n * 2)) := by rw [hW]; exact (Blk.new w _ _).alloc _
  have hC : Blk W (w.heap.size + 1) 54 #[.slice (some ⟨w.heap.size, 0, none⟩) n n] := by
    rw [hW]
    have := Blk.new (w.alloc (.cells (madeCells #[.int .i64 0, .int .i64 0] (n * 2)) 57)) 54 #[.slice (some ⟨w.heap.size, 0, none⟩) n n]
    rwa [World.size_alloc] at this
  obtain ⟨w4, hrun, hb4, ho4⟩ := run_copy2 W.drew 3 w.heap.size cap A l _ hD.drew (by rw [made_size, hn]; omega) (hr.below (hbW.drew))
  rw [← hn] at hrun
  have cgW : W.cell? ⟨g, 0, none⟩ = some (.slice A n cap) := (hbW.cell (p := ⟨g, 0, none⟩) hgl).trans cg
  have ccW := hC.cell 0
  simp only [List.getElem?_toArray, List.getElem?_cons_zero] at ccW
  have HW := Lib.hid hW; have HB := Lib.hid hbW; have HC := Lib.hid hC; have HX := Lib.hid (And.intro hb4 (And.intro ho4 (And.intro hh (And.intro hp hok)))); have HN := Lib.hid hn; have HRUN := Lib.hid hrun
  clear hW hbW hC hD hb4 ho4 hh hp hok hn hrun hw hr e
  go_enter Try.func19, Try.ntmps19
  go_wp2_with fail
  rw [← HW.out]
  clear hmk cg
  go_region_law (
    (refine step_copyR (w := W.drew) (w' := w4) rfl (.tmp 17) (.tmp 21) 52 52 rfl _ _ _ rfl rfl HRUN.out ?_))
  all_goals
    go_wp2
    go_ret
    obtain ⟨hb4, ho4, hh, hp, hok⟩ := HX.out
    have hg4 := (HC.out.drew).grown ho4 (by intro e; injection e with e; omega)
    rw [HN.out] at hg4
    refine ⟨rfl, ⟨.slice (some ⟨w.heap.size, 0, none⟩) l.length l.length, l, WhAt.mk' hg4 hb4 (Nat.zero_le _) (Nat.le_refl _) (by have h3 := hl; rw [HN.out] at h3; unfold maxLen; omega) (by rw [List.append_nil, wc_len]; omega), rfl, hh, hp, hok⟩, ?_⟩
    exact Below.only HB.out.drew ho4 (Nat.le_refl _) HB.out.drew.size

/-- A list of pairs in new memory. -/
def PairsAt (w : World) (B : Nat) (sv : Value) (L : List Wt) : Prop := w.ownsRow B 36 2 sv L.length (wc L)
theorem PairsAt.form {w : World} {B : Nat} {sv : Value} {L : List Wt} (h : PairsAt w B sv L) : ∃ A cap, sv = .slice A L.length cap := by
  rcases h.2 with ⟨rfl, h0⟩ | ⟨b, cap, cur, rfl, _⟩
  · exact ⟨none, 0, by rw [h0]⟩
  · exact ⟨_, _, rfl⟩
theorem cells_new2 (w : World) (o : Obj) (l : List Value) (t : TypeId) : ∀ j u, l[j]? = some u → ((w.alloc o).alloc (.cells l.toArray t)).cell? ((⟨w.heap.size + 1, 0, none⟩ : Addr).add j) = some u := by
  have := cells_new (w.alloc o) l t
  rwa [World.size_alloc] at this
theorem pair_facts : (Try.prog.info? 36).map (fun i => (i.zero, i.size, i.bytes)) = some (some (.agg #[.int .i64 0, .int .i64 0]), 2, 16) := by kernel_rfl
theorem take_next {L : List Wt} {k : Nat} (h : k < L.length) : L.take (k + 1) = L.take k ++ [gW L k] := by
  rw [gW_eq h, List.take_succ_eq_append_getElem h]
def WaitsRel (D n : Nat) (L : List Wt) (w : World) (sv iv : Value) (wr : World) : Prop := ∃ k : Nat, k ≤ n ∧ iv = .int .i64 k ∧ PairsAt wr w.heap.size sv (L.take k) ∧ Below w.heap.size w wr ∧ HBk wr D L []
def WaitsOut (L : List Wt) (w : World) (e : Ending) (w' : World) : Prop := ∃ sv, e = .returned sv ∧ PairsAt w' w.heap.size sv L ∧ Below w.heap.size w w'
set_option maxHeartbeats 2000000 in
set_option maxRecDepth 100000 in
theorem waits_any (g : Nat) (F : Option Nat) (L : List Wt) (w : World) (h : Wheel w g F L) : Calls Try.prog 12 #[.pointer (some ⟨g, 0, none⟩)] w fun e w' => WaitsOut L w e w' := by
  have hnp : ∀ (W : World) (a : Addr), (binOp .eql 25 (.pointer (some a)) (.pointer none)).run Try.prog W = .ok (.bool false) W := fun _ _ => rfl
  obtain ⟨v, l, hw, rfl, hh, hp, hok⟩ := h
  have hl : l.length ≤ 300 := by rw [hp.length_eq]; have := hok.len; omega
  obtain ⟨A, cap, e, hr, hcap⟩ := hw.lie
  have hgl := hw.1.lt
  have hne : g ≠ w.heap.size := by omega
  have cg := hw.1.cell 0
  simp only [List.getElem?_toArray, List.getElem?_cons_zero, e] at cg
  obtain ⟨n, hn⟩ : ∃ n, n = l.length := ⟨_, rfl⟩
  have hLn : L.length = n := by rw [hn, hp.length_eq]
  rw [← hn] at cg hl
  have hmk := run_makeW n hl
  have hbW : Below w.heap.size w (w.alloc (.cells (madeCells #[.int .i64 0, .int .i64 0] (n * 2)) 57)) := (Below.refl _ _).alloc (Nat.le_refl _) _
  obtain ⟨w4, hrun, hb4, ho4⟩ := run_copy2 (w.alloc (.cells (madeCells #[.int .i64 0, .int .i64 0] (n * 2)) 57)) 3 w.heap.size cap A l _ (Blk.new w _ _) (by rw [made_size, hn]; omega) (hr.below hbW)
  rw [← hn] at hrun
  have hbl4 := Below.only hbW ho4 (Nat.le_refl _) hbW.size
  have hso := sort_any w.heap.size n l L w4 hb4 hp hok
  rw [← hn] at hso
  have cgW : (w.alloc (.cells (madeCells #[.int .i64 0, .int .i64 0] (n * 2)) 57)).cell? ⟨g, 0, none⟩ = some (.slice A n cap) := (hbW.cell (p := ⟨g, 0, none⟩) hgl).trans cg
  obtain ⟨i0, hi, hz0, hz1, hz2⟩ := info_parts pair_facts
  have HRUN := Lib.hid hrun; have HSO := Lib.hid hso; have HB4 := Lib.hid hbl4; have HLN := Lib.hid hLn
  have HI := Lib.hid hi; have HZ0 := Lib.hid hz0; have HZ1 := Lib.hid hz1; have HZ2 := Lib.hid hz2
  have hn3 : (n : Int) ≤ 300 := by omega
  clear hrun hso hbl4 hb4 ho4 hbW hh hp hok hn hw hr e hLn hi hz0 hz1 hz2
  go_enter Try.func12, Try.ntmps12
  go_wp2_with (first
    | (refine wpList_copyR rfl (.tmp 14) (.tmp 18) 52 52 rfl _ _ _ rfl rfl HRUN.out ?_))
  refine HSO.out.mono ?_
  rintro e w5 ⟨rfl, hb5, ho5⟩
  have HB5 := Lib.hid hb5
  have HBL5 := Lib.hid (Below.only HB4.out ho5 (Nat.le_refl _) HB4.out.size)
  clear hb5 ho5 HSO HRUN hmk cg cgW
  go_wp2_with fail
  go_loopw [2, 24] (fun sv iv wr => WaitsRel w.heap.size n L w sv iv wr) (fun _ iv _ => n - (intOf iv).toNat)
  case atStart => exact ⟨0, Nat.zero_le _, rfl, World.ownsRow_nil _ _ _ _, HBL5.out, HB5.out⟩
  case round =>
    obtain ⟨k, hk, rfl, hsv, hbl, hbk⟩ := hrel
    have hkl : (L.take k).length = k := by rw [List.length_take, HLN.out]; omega
    obtain ⟨As, cs, rfl⟩ := hsv.form
    rw [hkl]
    have hrow : wr.ownsRow w.heap.size 36 2 (.slice As k cs) k (wc (L.take k)) := by
      have := hsv
      unfold PairsAt at this
      rwa [hkl] at this
    have HROW := Lib.hid hrow; have HBL := Lib.hid hbl; have HBK := Lib.hid hbk
    clear hkl hsv hrow hbl hbk
    by_cases hlt : k < n
    · have hkL : k < L.length := by rw [HLN.out]; exact hlt
      have c0 := HBK.out.c0 hkL; have c1 := HBK.out.c1 hkL
      have hk0 : (0 : Int) ≤ (k : Int) := by omega
      have hk1 : (k : Int) < (n : Int) := by omega
      have hDlt : w.heap.size < wr.heap.size := Blk.lt HBK.out
      have hDne : w.heap.size ≠ wr.heap.size := by omega
      go_wp2_with (at_builtin; refine wpList_append_own _ rfl (.tmp 28) (.tmp 34) 33 rfl w.heap.size 36 i0 (.agg #[.int .i64 0, .int .i64 0]) 2 16 Try.underlying33 HI.out HZ0.out HZ1.out HZ2.out rfl (by decide) _ k _ rfl ((HROW.out.alloc _).alloc _) ⟨wr.heap.size + 1, 0, none⟩ 1 1 [.int .i64 (gW L k).1, .int .i64 (gW L k).2] rfl rfl (cells_new2 _ _ _ _) ?c1 ?c2 ?c3 ?c4 ?_)
      case c1 => intro u hu; simp at hu; rcases hu with rfl | rfl <;> rfl
      case c2 => unfold maxLen; omega
      case c3 => omega
      case c4 => simp; omega
      intro sv2 w6 hown2 hgrow hnil
      have hb6 := Below.own ((HBL.out.alloc HBL.out.size (.cells #[.int .i64 (gW L k).1, .int .i64 (gW L k).2] 57)).alloc (by simp; omega) (.cells #[.int .i64 (gW L k).1, .int .i64 (gW L k).2] 36)) ((HROW.out.alloc _).alloc _) hgrow (by simp; omega)
      have hD6 : HBk w6 w.heap.size L [] := (Blk.alloc (Blk.alloc HBK.out (.cells #[.int .i64 (gW L k).1, .int .i64 (gW L k).2] 57)) (.cells #[.int .i64 (gW L k).1, .int .i64 (gW L k).2] 36)).grown hgrow (own_ne ((HROW.out.alloc _).alloc _) (Blk.alloc (Blk.alloc HBK.out (.cells #[.int .i64 (gW L k).1, .int .i64 (gW L k).2] 57)) (.cells #[.int .i64 (gW L k).1, .int .i64 (gW L k).2] 36)) (by decide))
      have hp6 : PairsAt w6 w.heap.size sv2 (L.take (k + 1)) := by
        unfold PairsAt
        rw [take_next hkL, List.length_append, List.length_take, HLN.out, Nat.min_eq_left hk, wc_app]
        exact hown2
      have HE := Lib.hid (And.intro hp6 (And.intro hb6 hD6))
      clear hb6 hD6 hp6 hown2 hgrow hnil c0 c1
      go_wp2
      go_roundw
      case rel => exact ⟨k + 1, by omega, by go_num, HE.out⟩
      case measure => simp [intOf]; omega
    · obtain rfl : k = n := by omega
      go_wp2
      go_ret
      have e : L.take k = L := List.take_of_length_le (by rw [HLN.out]; exact Nat.le_refl _)
      refine ⟨_, rfl, ?_, HBL.out⟩
      have := HROW.out
      rw [e] at this
      unfold PairsAt
      rw [HLN.out]
      exact this
end Go.Proofs.Ytbngcepekaicjaa
