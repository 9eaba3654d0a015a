/- The keys of a box's messages; whether two lists of values are the same. -/
import Derived.Test.YtemhinagajfemaaPostOrdM
import Derived.Test.YtemhinagajfemaaRefSame
import Derived.StillTailTactics
namespace Go.Proofs.Ytemhinagajfemaa
set_option linter.unusedVariables false
open Go.RowKit

/-- A row of values of the call's own, in blocks of its own. -/
structure ValRow (B : Nat) (sv : Value) (us : List Val) (w : World) : Prop where
  row : w.ownsRow B 46 6 sv us.length (rowCells us)
  ins : ∀ u, u ∈ us → u.In w ∧ u.Sep (fun b => B ≤ b ∧ some b ≠ sv.ownBlock)
theorem ValRow.below {B : Nat} {sv : Value} {us : List Val} {w w' : World} (h : ValRow B sv us w) (hb : Below w.heap.size w w') : ValRow B sv us w' :=
  ⟨own_below h.row hb, fun u hu => ⟨(h.ins u hu).1.below hb, (h.ins u hu).2⟩⟩
theorem ValRow.form {B : Nat} {sv : Value} {us : List Val} {wr : World} (h : ValRow B sv us wr) : ∃ p c, sv = .slice p us.length c ∧ (∀ j (hj : j < us.length), ∃ k, p = some ⟨k, 0, none⟩ ∧ us.length ≤ c ∧ k < wr.heap.size ∧ PVal wr k (0 + j * 6) (us[j]'hj)) := by
  rcases h.row.2 with ⟨e, h0⟩ | ⟨k, cap, cur, e, hb, hg, hnc, hcm, hcs, htake⟩
  · exact ⟨none, 0, by rw [e, h0], fun j hj => by omega⟩
  · have hlt : k < wr.heap.size := by
      rcases Nat.lt_or_ge k wr.heap.size with h' | h'
      · exact h'
      · simp [Array.getElem?_eq_none h'] at hg
    refine ⟨_, _, e, fun j hj => ⟨k, rfl, hnc, hlt, fun i hi => ?_, hlt, (h.ins _ (List.getElem_mem hj)).1⟩⟩
    have hget := rowCells_get us j i hj hi
    have hl : i < (us[j]'hj).cells.length := by rw [cells_length]; exact hi
    have hrow := h.row
    rw [e] at hrow
    have hc := hrow.cells (g := k) rfl (j * 6 + i) ((us[j]'hj).cells[i]'hl) (by rw [hget, List.getElem?_eq_getElem hl])
    rw [Addr.add_lit] at hc
    have e2 : 0 + j * 6 + i = 0 + (j * 6 + i) := by omega
    rw [e2, hc, List.getElem?_eq_getElem hl]
def KeysOut (ms : List (Val × Val)) (w : World) (e : Ending) (w' : World) : Prop :=
  ∃ sv us, e = .returned sv ∧ ValRow w.heap.size sv us w' ∧ us.map Val.erase = ms.map (fun m => m.1.canon) ∧ Below w.heap.size w w'

set_option maxHeartbeats 4000000 in
set_option maxRecDepth 100000 in
theorem keys_any (g : Nat) (ms : List (Val × Val)) (w : World) (hbx : BoxAt w g ms) : Calls Try.prog 29 #[.pointer (some ⟨g, 0, none⟩)] w fun e w' => KeysOut ms w e w' := by
  have hglt := hbx.1.lt
  have hbk : Blk w g 107 (boxC (arrOf ms) ms.length).toArray := by
    have := hbx.1
    rwa [boxCells_arr hbx.2.1] at this
  have hle := hbx.2.1
  have hlen := len_any w g ms hbx
  obtain ⟨N, hN⟩ : ∃ N, N = ms.length := ⟨_, rfl⟩
  rw [← hN] at hle hlen
  have HN := Lib.hid hN; have HBX := Lib.hid hbx; have HBK := Lib.hid hbk; have HLEN := Lib.hid hlen
  obtain ⟨i0, hi0, hz0, hz1, hz2'⟩ := info_parts val_facts
  clear hN hbx hbk hlen
  go_enter Try.func29, Try.ntmps29
  go_wp2_with fail
  refine HLEN.out.mono ?_
  rintro e w' ⟨rfl, rfl⟩
  go_wp2_with fail
  go_loopw [2, 6] (fun sv iv wr => ∃ (i : Nat) (us : List Val), iv = .int .i64 (i : Int) ∧ i ≤ N ∧ Hid (us.length = i) ∧ Hid (us.map Val.erase = (ms.take i).map (fun m => m.1.canon)) ∧ Hid (wr.ownsRow w.heap.size 46 6 sv i (rowCells us)) ∧
    Hid (∀ u, u ∈ us → u.In wr ∧ u.Sep (fun b => w.heap.size ≤ b ∧ some b ≠ sv.ownBlock)) ∧ Hid (Below w.heap.size w wr)) (fun _ iv _ => N - (intOf iv).toNat)
  case atStart => exact ⟨0, [], rfl, by omega, Lib.hid rfl, Lib.hid rfl, Lib.hid ⟨rfl, .inl ⟨rfl, rfl⟩⟩, Lib.hid (fun u hu => by simp at hu), Lib.hid (Below.refl _ _)⟩
  case round =>
    obtain ⟨i, us, rfl, hi', HUL, HUE, HOWN, HUS, HBL⟩ := hrel
    by_cases hlt : i < N
    · have hil : i < ms.length := by rw [← HN.out]; exact hlt
      obtain ⟨⟨a, b⟩, hm⟩ : ∃ m, ms[i]? = some m := ⟨ms[i]'hil, List.getElem?_eq_getElem _⟩
      have hma : (arrOf ms)[i]? = some (a, b) := by rw [arrOf_in hil]; exact hm
      obtain ⟨d0, d1, d2, d3, d4, d5, b0, b1, b2, b3, b4, b5⟩ := let_cells (HBK.out.below HBL.out hglt) hma
      have hmem : (a, b) ∈ ms := List.mem_of_getElem? hm
      have hai : a.In wr := (HBX.out.2.2 _ hmem).1.1.below HBL.out
      obtain ⟨r4, t4, g4⟩ := hai.nslice
      obtain ⟨r5, t5, g5⟩ := hai.xslice
      rw [g4] at d4
      rw [g5] at d5
      have hc := canon_val a.sz a wr (Nat.le_refl _) hai
      unfold Val.agg at hc
      rw [g4, g5] at hc
      have htk : (ms.take (i + 1)).map (fun m => m.1.canon) = (ms.take i).map (fun m => m.1.canon) ++ [a.canon] := by
        rw [List.take_add_one, hm]
        simp
      have HX := Lib.hid htk; have HC := Lib.hid hc
      have hzr := HBL.out.size
      have hk0 : (0 : Int) ≤ (i : Int) := by omega
      have hk1 : (i : Int) < (N : Int) := by omega
      have hk6 : (i : Int) < 6 := by omega
      have hgr : g < wr.heap.size := by omega
      clear hil hm hma hmem hai g4 g5 hc htk b0 b1 b2 b3 b4 b5
      go_wp2_with fail
      refine HC.out.mono ?_
      rintro e w6 ⟨u, rfl, hui, hus, hue, hb6⟩
      obtain ⟨a4, b4, k4⟩ := hui.nslice
      obtain ⟨a5, b5, k5⟩ := hui.xslice
      unfold Val.agg
      rw [k4, k5]
      have hcells : [Value.int .i64 u.k, .int .i64 u.n, .float .f64 u.f, .string u.s, .slice a4 u.ns.length b4, .slice a5 u.xs.length b5] = u.cells := by unfold Val.cells; rw [k4, k5]
      have hz6 := hb6.size
      have hg6 : Below w.heap.size w w6 := HBL.out.trans (hb6.mono hzr)
      have hown6 := own_below HOWN.out hb6
      have hownlt : ∀ g, u2.ownBlock = some g → g < wr.heap.size := fun g hg => (HOWN.out.lt g hg).2
      have HUI := Lib.hid hui; have HUSP := Lib.hid hus; have HUER := Lib.hid hue; have HG6 := Lib.hid hg6; have HB06 := Lib.hid hb6; have HLT := Lib.hid hownlt
      have hred : Reads (w6.alloc (.cells #[.int .i64 u.k, .int .i64 u.n, .float .f64 u.f, .string u.s, .slice a4 u.ns.length b4, .slice a5 u.xs.length b5] 46)) (w6.heap.size + 1) 6 (some ⟨w6.heap.size, 0, none⟩) 1 u.cells := by
        rw [← hcells]
        exact ⟨rfl, fun _ => ⟨_, rfl, by simp, cells_new w6 _ _⟩⟩
      have HRED := Lib.hid hred; have HOWN6 := Lib.hid (hown6.alloc (.cells #[.int .i64 u.k, .int .i64 u.n, .float .f64 u.f, .string u.s, .slice a4 u.ns.length b4, .slice a5 u.xs.length b5] 46))
      clear hui hus hue hg6 hb6 hown6 hownlt hcells hred k4 k5 d0 d1 d2 d3 d4 d5
      go_wp2_with (at_builtin; refine wpList_append_any _ rfl _ _ 42 rfl w.heap.size 46 i0 (.agg #[.int .i64 0, .int .i64 0, .float .f64 0, .string ByteArray.empty, .slice none 0 0, .slice none 0 0]) 6 88 Try.underlying42 hi0 hz0 hz1 hz2' rfl (by decide) _ i (rowCells us) rfl HOWN6.out (w6.heap.size + 1) _ 1 _ u.cells rfl HRED.out (cells_oneCell u) ?c1 ?c2 ?c3 ?_)
      case c1 => unfold maxLen; omega
      case c2 => omega
      case c3 => simp; omega
      intro v' w8 hown' hgrow hor
      have hst := canon_step hzr HUS.out HLT.out HB06.out HUI.out HUSP.out hgrow (by simpa using hor)
      rw [← rowCells_snoc] at hown'
      have hb8 := (HG6.out.alloc HG6.out.size _).grown hgrow (by simp; omega) (fun k hk => own_ge HOWN.out hk)
      have HOWN8 := Lib.hid hown'; have HST := Lib.hid hst; have HB8 := Lib.hid hb8
      have hue8 : (us ++ [u]).map Val.erase = (ms.take (i + 1)).map (fun m => m.1.canon) := by rw [List.map_append, HUE.out, HX.out, List.map_cons, List.map_nil, HUER.out]
      have HUE8 := Lib.hid hue8
      clear hown' hst hb8 hgrow hor hue8
      go_wp2
      exact ⟨⟨i + 1, us ++ [u], by go_num, by omega, Lib.hid (by simp [HUL.out]), HUE8, HOWN8, HST, HB8⟩, by simp [intOf]; omega⟩
    · have hiN : i = ms.length := by rw [← HN.out]; omega
      have hrow := HOWN.out
      rw [← HUL.out] at hrow
      have HR : Hid (KeysOut ms w (.returned u2) wr) := Lib.hid ⟨u2, us, rfl, ⟨hrow, HUS.out⟩, by rw [HUE.out, hiN, List.take_length], HBL.out⟩
      clear hiN hrow
      go_wp2
      go_ret
      exact HR.out

def BoolBel (b : Bool) (w : World) (e : Ending) (w' : World) : Prop := BoolBelow b w e w'
/-- Lists of values: the same if each two are. -/
def RdV (w : World) (p : Option Addr) (c : Nat) (us : List Val) : Prop := ∀ j (hj : j < us.length), ∃ k o, p = some ⟨k, o, none⟩ ∧ us.length ≤ c ∧ k < w.heap.size ∧ PVal w k (o + j * 6) (us[j]'hj)
theorem RdV.below {w w' : World} {p : Option Addr} {c : Nat} {us : List Val} (h : RdV w p c us) (hb : Below w.heap.size w w') : RdV w' p c us := fun j hj => by
  obtain ⟨k, o, e, hc, hk, hp⟩ := h j hj
  exact ⟨k, o, e, hc, Nat.lt_of_lt_of_le hk hb.size, hp.below hb⟩
set_option maxHeartbeats 4000000 in
set_option maxRecDepth 100000 in
theorem samel_yes (p q : Option Addr) (c c2 : Nat) (us vs : List Val) (w : World) (hp : RdV w p c us) (hq : RdV w q c2 vs) (hl : us.length = vs.length) (hn : us.length ≤ 1000)
    (hs : ∀ j (h1 : j < us.length) (h2 : j < vs.length), (us[j]'h1).rsame (vs[j]'h2) = true) : Calls Try.prog 31 #[.slice p us.length c, .slice q vs.length c2] w fun e w' => BoolBelow true w e w' := by
  obtain ⟨n, hnn⟩ : ∃ n, n = us.length := ⟨_, rfl⟩
  have hnv : n = vs.length := by omega
  rw [← hl, ← hnn]
  rw [← hnn] at hn
  have HP := Lib.hid hp; have HQ := Lib.hid hq; have HU := Lib.hid hnn; have HV := Lib.hid hnv; have HS := Lib.hid hs
  have hne : ((n : Int) != (n : Int)) = false := by simp
  clear hp hq hl hnn hnv hs
  go_enter Try.func31, Try.ntmps31
  go_wp2_with fail
  go_loopw [5] (fun iv wr => ∃ i : Nat, iv = .int .i64 (i : Int) ∧ i ≤ n ∧ Hid (Below w.heap.size w wr)) (fun iv _ => n - (intOf iv).toNat)
  case atStart => exact ⟨0, rfl, by omega, Lib.hid (Below.refl _ _)⟩
  case round =>
    obtain ⟨i, rfl, hi, HB⟩ := hrel
    by_cases hlt : i < n
    · have h1 : i < us.length := by rw [← HU.out]; exact hlt
      have h2 : i < vs.length := by rw [← HV.out]; exact hlt
      obtain ⟨pb, po, rfl, hc1, hpl, hpu⟩ := (HP.out.below HB.out) i h1
      obtain ⟨qb, qo, rfl, hc2, hql, hqu⟩ := (HQ.out.below HB.out) i h2
      have hst := HS.out i h1 h2
      rw [← HU.out] at hc1
      rw [← HV.out] at hc2
      obtain ⟨x, hx⟩ : ∃ x, x = us[i]'h1 := ⟨_, rfl⟩
      obtain ⟨y, hy⟩ : ∃ y, y = vs[i]'h2 := ⟨_, rfl⟩
      rw [← hx] at hpu hst
      rw [← hy] at hqu hst
      have x0 := hpu.c0; have x1 := hpu.c1; have x2 := hpu.c2; have x3 := hpu.c3; have x4 := hpu.c4; have x5 := hpu.c5
      have y0 := hqu.c0; have y1 := hqu.c1; have y2 := hqu.c2; have y3 := hqu.c3; have y4 := hqu.c4; have y5 := hqu.c5
      obtain ⟨s4, z4, g4⟩ := hpu.in.nslice
      obtain ⟨s5, z5, g5⟩ := hpu.in.xslice
      obtain ⟨s6, z6, g6⟩ := hqu.in.nslice
      obtain ⟨s7, z7, g7⟩ := hqu.in.xslice
      rw [g4] at x4
      rw [g5] at x5
      rw [g6] at y4
      rw [g7] at y5
      have hcc := rsamev_any x y wr.drew (in_drew hpu.in) (in_drew hqu.in)
      unfold Val.agg at hcc
      rw [g4, g5, g6, g7, hst] at hcc
      have HC := Lib.hid hcc
      have hk0 : (0 : Int) ≤ (i : Int) := by omega
      have hk1 : (i : Int) < (n : Int) := by omega
      clear h1 h2 hpu hqu hst hx hy g4 g5 g6 g7 hcc
      go_wp2_with fail
      go_still_tail 8, (by kernel_rfl)
      change wpList _ _ _ _ _ wr.drew
      go_wp2_with fail
      refine HC.out.mono ?_
      rintro e w1 ⟨rfl, hb1⟩
      have HB1 := Lib.hid (HB.out.trans (((Below.refl _ _).drew.trans hb1).mono HB.out.size))
      clear hb1 x0 x1 x2 x3 x4 x5 y0 y1 y2 y3 y4 y5 HC
      go_wp2
      exact ⟨⟨i + 1, by go_num, by omega, HB1⟩, by simp [intOf]; omega⟩
    · go_wp2
      go_ret
      exact ⟨rfl, HB.out⟩
end Go.Proofs.Ytemhinagajfemaa
