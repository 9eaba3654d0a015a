/- types.unary of any type (printed by wip/gen_unary.py). -/
import Derived.Test.YtjpdbhhjlnmacaaGreatTcM23
import Derived.Deep.DeepCutAuto
import Derived.RegionTactic
namespace Go.Proofs.YtjpdbhhjlnmacaaGreat
set_option linter.unusedVariables false
open Go.RowKit

/-- The kinds that an operation on one takes, and what it gives. -/
def wantU (k : Int) : List Int := if k = 3 then [2, 3] else if k = 20 then [5, 4] else if k = 21 then [2] else if k = 22 then [3] else if k = 23 then [1, 2, 3, 4] else [1]
def outU (k : Int) (t : Ty) : Ty := if k = 20 then Ty.of 2 else if k = 21 then Ty.of 3 else if k = 22 then Ty.of 2 else if k = 23 then Ty.of 4 else t
def unaryP (k : Int) (t : Ty) : Option Ty := if t.k ∈ wantU k then some (outU k t).erase else none
def Cells3 (t : Ty) : Array Value := #[.int .i64 t.k, t.na.val t.ns.length, t.xa.val t.xs.length]
/-- The kinds wanted, and the answer, laid by. -/
def UnState (W : World) (l : List Int) (u : Ty) (sv pv : Value) (wx : World) : Prop :=
  ∃ (S O c : Nat), sv = .slice (some ⟨S, 0, none⟩) l.length c ∧ l.length ≤ c ∧ IntsIn wx S l ∧ S < wx.heap.size ∧ pv = .pointer (some ⟨O, 0, none⟩) ∧ W.heap.size ≤ O ∧ Blk wx O 36 (Cells3 u) ∧ Below W.heap.size W wx
theorem ints_of_blk {w : World} {S : Nat} {l : List Int} {T : TypeId} (h : Blk w S T (l.map (Value.int .i64)).toArray) : IntsIn w S l := fun i hi => by
  rw [h.cell]
  simp [hi]
theorem un_start {W : World} {t : Ty} {p4 p5 : Option Addr} {q4 q5 : Nat} (e4 : t.na.val t.ns.length = .slice p4 t.ns.length q4) (e5 : t.xa.val t.xs.length = .slice p5 t.xs.length q5) :
    UnState W [1] t (.slice (some ⟨W.heap.size, 0, none⟩) 1 1) (.pointer (some ⟨W.heap.size + 1, 0, none⟩)) ((W.alloc (.cells #[.int .i64 1] 3)).alloc (.cells #[.int .i64 t.k, .slice p4 t.ns.length q4, .slice p5 t.xs.length q5] 36)).drew ∧
    UnState W [1] t (.slice (some ⟨W.heap.size + 1, 0, none⟩) 1 1) (.pointer (some ⟨W.heap.size, 0, none⟩)) ((W.alloc (.cells #[.int .i64 t.k, .slice p4 t.ns.length q4, .slice p5 t.xs.length q5] 36)).alloc (.cells #[.int .i64 1] 3)).drew := by
  have hc : Cells3 t = #[.int .i64 t.k, .slice p4 t.ns.length q4, .slice p5 t.xs.length q5] := by unfold Cells3; rw [e4, e5]
  constructor
  · have h1 := (Blk.new W 3 #[.int .i64 1]).alloc (.cells #[.int .i64 t.k, .slice p4 t.ns.length q4, .slice p5 t.xs.length q5] 36)
    have h2 := Blk.new (W.alloc (.cells #[.int .i64 1] 3)) 36 #[.int .i64 t.k, .slice p4 t.ns.length q4, .slice p5 t.xs.length q5]
    rw [show (W.alloc (.cells #[.int .i64 1] 3)).heap.size = W.heap.size + 1 from by simp] at h2
    exact ⟨_, _, _, rfl, Nat.le_refl _, ints_of_blk (l := [1]) h1.drew, h1.drew.lt, rfl, by omega, by rw [hc]; exact h2.drew, (((Below.refl _ W).alloc (Nat.le_refl _) _).alloc (by simp) _).drew⟩
  · have h1 := (Blk.new W 36 #[.int .i64 t.k, .slice p4 t.ns.length q4, .slice p5 t.xs.length q5]).alloc (.cells #[.int .i64 1] 3)
    have h2 := Blk.new (W.alloc (.cells #[.int .i64 t.k, .slice p4 t.ns.length q4, .slice p5 t.xs.length q5] 36)) 3 #[.int .i64 1]
    rw [show (W.alloc (.cells #[.int .i64 t.k, .slice p4 t.ns.length q4, .slice p5 t.xs.length q5] 36)).heap.size = W.heap.size + 1 from by simp] at h2
    exact ⟨_, _, _, rfl, Nat.le_refl _, ints_of_blk (l := [1]) h2.drew, h2.drew.lt, rfl, Nat.le_refl _, by rw [hc]; exact h1.drew, (((Below.refl _ W).alloc (Nat.le_refl _) _).alloc (by simp) _).drew⟩
theorem un_slice {W w : World} {l : List Int} {u : Ty} {O : Nat} (hO : W.heap.size ≤ O) (hb : Blk w O 36 (Cells3 u)) (hB : Below W.heap.size W w) (c : Nat) (hc : l.length ≤ c) :
    UnState W l u (.slice (some ⟨w.heap.size, 0, none⟩) l.length c) (.pointer (some ⟨O, 0, none⟩)) (w.alloc (.cells (l.map (Value.int .i64)).toArray 3)) :=
  ⟨_, _, _, rfl, hc, ints_of_blk (Blk.new w 3 _), (Blk.new w 3 (l.map (Value.int .i64)).toArray).lt, rfl, hO, hb.alloc _, hB.alloc hB.size _⟩
theorem un_of {W w w2 : World} {l : List Int} {k : Int} {O : Nat} {x0 x1 x2 : Value} (hO : W.heap.size ≤ O) (hb : Blk w O 36 #[x0, x1, x2]) (hB : Below W.heap.size W w) (h2 : Below (w.heap.size + 1) (w.alloc (.cells (l.map (Value.int .i64)).toArray 3)) w2) (c : Nat) (hc : l.length ≤ c) :
    UnState W l (Ty.of k) (.slice (some ⟨w.heap.size, 0, none⟩) l.length c) (.pointer (some ⟨O, 0, none⟩)) (((w2.setCell ⟨O, 0, none⟩ (.int .i64 k)).setCell ⟨O, 1, none⟩ (.slice none 0 0)).setCell ⟨O, 2, none⟩ (.slice none 0 0)) := by
  have hlt := hb.lt
  have hs := Blk.below (B := w.heap.size + 1) (Blk.new w 3 (l.map (Value.int .i64)).toArray) h2 (by omega)
  have hb2 := Blk.below (B := w.heap.size + 1) (hb.alloc (.cells (l.map (Value.int .i64)).toArray 3)) h2 (by omega)
  have hs3 := ((hs.far (p := ⟨O, 0, none⟩) (show w.heap.size ≠ O by omega) (.int .i64 k)).far (p := ⟨O, 1, none⟩) (show w.heap.size ≠ O by omega) (.slice none 0 0)).far (p := ⟨O, 2, none⟩) (show w.heap.size ≠ O by omega) (.slice none 0 0)
  have hBB : Below W.heap.size W w2 := (hB.alloc hB.size _).trans (h2.mono (Nat.le_succ_of_le hB.size))
  exact ⟨_, _, _, rfl, hc, ints_of_blk hs3, hs3.lt, rfl, hO, blk3_set hb2 _ _ _, below3_set hBB hO _ _ _⟩

set_option maxHeartbeats 8000000 in
set_option maxRecDepth 100000 in
theorem unary_any (t : Ty) (k : Int) (P : Nat → Prop) (w : World) (hP : ∀ b, P b → b < w.heap.size) (ht : t.In w) (hst : t.Sep P) : Calls Tryz.prog 78 #[.int .i64 k, t.agg] w fun e w' => Joined (unaryP k t) P w e w' := by
  obtain ⟨W, hW⟩ : ∃ W, W = (w.alloc (.cells #[.int .i64 t.k, t.na.val t.ns.length, t.xa.val t.xs.length] 36)).alloc (.cells #[.int .i64 0, .slice none 0 0, .slice none 0 0] 36) := ⟨_, rfl⟩
  have hBW : Below w.heap.size w W := by rw [hW]; exact ((Below.refl _ w).alloc (Nat.le_refl _) _).alloc (by simp) _
  have hb : Blk W w.heap.size 36 #[.int .i64 t.k, t.na.val t.ns.length, t.xa.val t.xs.length] := by rw [hW]; exact (Blk.new w 36 _).alloc _
  have hbr : Blk W (w.heap.size + 1) 36 #[.int .i64 0, .slice none 0 0, .slice none 0 0] := by
    rw [hW]
    have := Blk.new (w.alloc (.cells #[.int .i64 t.k, t.na.val t.ns.length, t.xa.val t.xs.length] 36)) 36 #[.int .i64 0, .slice none 0 0, .slice none 0 0]
    rw [show (w.alloc (.cells #[.int .i64 t.k, t.na.val t.ns.length, t.xa.val t.xs.length] 36)).heap.size = w.heap.size + 1 from by simp] at this
    exact this
  have hTI := fun (W' : World) (hb' : Below W.heap.size W W') => (ht.below hBW).below hb'
  have hkr : i64r t.k := ht.ok.1
  obtain ⟨p4, q4, e4⟩ := ht.nslice
  obtain ⟨p5, q5, e5⟩ := ht.xslice
  have hus := un_start (W := W) e4 e5
  have hag : t.agg = .agg #[.int .i64 t.k, .slice p4 t.ns.length q4, .slice p5 t.xs.length q5] := by unfold Ty.agg; rw [e4, e5]
  rw [hag]
  rw [e4, e5] at hW hb
  obtain ⟨A, hA⟩ : ∃ A, A = w.heap.size := ⟨_, rfl⟩
  rw [← hA] at hb hbr
  have c0 := hb.cell 0; have c1 := hb.cell 1; have c2 := hb.cell 2
  have hlt := hb.lt
  simp at c0 c1 c2
  have HW := Lib.hid hW; have HBW := Lib.hid hBW; have HB := Lib.hid hb; have HBR := Lib.hid hbr; have HA := Lib.hid hA; have HUS := Lib.hid hus; have HTI := Lib.hid hTI; have HST := Lib.hid hst; have HAG := Lib.hid hag; have HPP := Lib.hid hP; have HKR := Lib.hid hkr
  obtain ⟨l, hl⟩ : ∃ l, l = wantU k := ⟨_, rfl⟩
  obtain ⟨u, hu⟩ : ∃ u, u = outU k t := ⟨_, rfl⟩
  obtain ⟨R, hR⟩ : ∃ R, R = unaryP k t := ⟨_, rfl⟩
  have hR2 : R = if t.k ∈ l then some u.erase else none := by rw [hR, hl, hu]; rfl
  rw [← hR]
  have HL := Lib.hid hl; have HU := Lib.hid hu; have HR := Lib.hid hR2
  clear hW hBW hb hbr hA hus hTI hst hag hP hl hu hR hR2 ht e4 e5 hkr
  go_enter Tryz.func78, Tryz.ntmps78
  go_upto_region 1 with fail
  rw [← HW.out, ← HA.out]
  go_cut [5, 6] (fun sv pv wx => UnState W [1] t sv pv wx)
  case first =>
    go_region
    all_goals
      go_wp2
      go_meet
      first | exact HUS.out.1 | exact HUS.out.2
  case rest =>
  obtain ⟨S, O, c, rfl, hc, hIS, hS, rfl, hO, hbO, hB1⟩ := hcut
  clear HUS
  have hbx := HB.out.below hB1 HB.out.lt
  clear c0 c1 c2
  have hoL := hbO.lt
  have HB1 := Lib.hid hB1; have HBO := Lib.hid hbO; have HIS := Lib.hid hIS
  have f0 := hbO.frozen 0; have f1 := hbO.frozen 1; have f2 := hbO.frozen 2
  clear hB1 hbO hIS hbx
  obtain ⟨w9, hw9⟩ : ∃ w9 : World, w9 = wc := ⟨_, rfl⟩
  subst hw9
  go_upto_block 0 with fail
  go_cut [5, 6] (fun sv pv wx => UnState W l u sv pv wx)
  case first =>
    by_cases h3 : k = 3
    · subst h3
      have hl : l = [2, 3] := by rw [HL.out]; rfl
      have hu : u = t := by rw [HU.out]; rfl
      subst hl
      subst hu
      clear HL HU
      go_wp2
      go_meet
      exact un_slice (l := [2, 3]) hO HBO.out HB1.out 2 (by decide)
    by_cases h20 : k = 20
    · subst h20
      have hl : l = [5, 4] := by rw [HL.out]; rfl
      have hu : u = Ty.of 2 := by rw [HU.out]; rfl
      subst hl
      subst hu
      clear HL HU
      have HOF := Lib.hid (fun W => of_any 2 W)
      go_wp2_with fail
      refine (HOF.out _).mono ?_
      rintro e w5 ⟨rfl, hb5⟩
      have hb5' : Below (w9.heap.size + 1) (w9.alloc (.cells (([5, 4] : List Int).map (Value.int .i64)).toArray 3)) w5 := by simpa using hb5
      have hb6 := Blk.below (B := w9.heap.size + 1) (HBO.out.alloc (.cells (([5, 4] : List Int).map (Value.int .i64)).toArray 3)) hb5' (by omega)
      have g0 := hb6.cell 0; have g1 := hb6.cell 1; have g2 := hb6.cell 2
      have k0 := hb6.frozen 0; have k1 := hb6.frozen 1; have k2 := hb6.frozen 2
      simp [Cells3] at g0 g1 g2
      have HB5 := Lib.hid hb5'
      clear hb5 hb5' hb6 f0 f1 f2
      go_wp2
      go_meet
      exact un_of (l := [5, 4]) hO HBO.out HB1.out HB5.out 2 (by decide)
    by_cases h21 : k = 21
    · subst h21
      have hl : l = [2] := by rw [HL.out]; rfl
      have hu : u = Ty.of 3 := by rw [HU.out]; rfl
      subst hl
      subst hu
      clear HL HU
      have HOF := Lib.hid (fun W => of_any 3 W)
      go_wp2_with fail
      refine (HOF.out _).mono ?_
      rintro e w5 ⟨rfl, hb5⟩
      have hb5' : Below (w9.heap.size + 1) (w9.alloc (.cells (([2] : List Int).map (Value.int .i64)).toArray 3)) w5 := by simpa using hb5
      have hb6 := Blk.below (B := w9.heap.size + 1) (HBO.out.alloc (.cells (([2] : List Int).map (Value.int .i64)).toArray 3)) hb5' (by omega)
      have g0 := hb6.cell 0; have g1 := hb6.cell 1; have g2 := hb6.cell 2
      have k0 := hb6.frozen 0; have k1 := hb6.frozen 1; have k2 := hb6.frozen 2
      simp [Cells3] at g0 g1 g2
      have HB5 := Lib.hid hb5'
      clear hb5 hb5' hb6 f0 f1 f2
      go_wp2
      go_meet
      exact un_of (l := [2]) hO HBO.out HB1.out HB5.out 1 (by decide)
    by_cases h22 : k = 22
    · subst h22
      have hl : l = [3] := by rw [HL.out]; rfl
      have hu : u = Ty.of 2 := by rw [HU.out]; rfl
      subst hl
      subst hu
      clear HL HU
      have HOF := Lib.hid (fun W => of_any 2 W)
      go_wp2_with fail
      refine (HOF.out _).mono ?_
      rintro e w5 ⟨rfl, hb5⟩
      have hb5' : Below (w9.heap.size + 1) (w9.alloc (.cells (([3] : List Int).map (Value.int .i64)).toArray 3)) w5 := by simpa using hb5
      have hb6 := Blk.below (B := w9.heap.size + 1) (HBO.out.alloc (.cells (([3] : List Int).map (Value.int .i64)).toArray 3)) hb5' (by omega)
      have g0 := hb6.cell 0; have g1 := hb6.cell 1; have g2 := hb6.cell 2
      have k0 := hb6.frozen 0; have k1 := hb6.frozen 1; have k2 := hb6.frozen 2
      simp [Cells3] at g0 g1 g2
      have HB5 := Lib.hid hb5'
      clear hb5 hb5' hb6 f0 f1 f2
      go_wp2
      go_meet
      exact un_of (l := [3]) hO HBO.out HB1.out HB5.out 1 (by decide)
    by_cases h23 : k = 23
    · subst h23
      have hl : l = [1, 2, 3, 4] := by rw [HL.out]; rfl
      have hu : u = Ty.of 4 := by rw [HU.out]; rfl
      subst hl
      subst hu
      clear HL HU
      have HOF := Lib.hid (fun W => of_any 4 W)
      go_wp2_with fail
      refine (HOF.out _).mono ?_
      rintro e w5 ⟨rfl, hb5⟩
      have hb5' : Below (w9.heap.size + 1) (w9.alloc (.cells (([1, 2, 3, 4] : List Int).map (Value.int .i64)).toArray 3)) w5 := by simpa using hb5
      have hb6 := Blk.below (B := w9.heap.size + 1) (HBO.out.alloc (.cells (([1, 2, 3, 4] : List Int).map (Value.int .i64)).toArray 3)) hb5' (by omega)
      have g0 := hb6.cell 0; have g1 := hb6.cell 1; have g2 := hb6.cell 2
      have k0 := hb6.frozen 0; have k1 := hb6.frozen 1; have k2 := hb6.frozen 2
      simp [Cells3] at g0 g1 g2
      have HB5 := Lib.hid hb5'
      clear hb5 hb5' hb6 f0 f1 f2
      go_wp2
      go_meet
      exact un_of (l := [1, 2, 3, 4]) hO HBO.out HB1.out HB5.out 4 (by decide)
    have hl : l = [1] := by rw [HL.out]; unfold wantU; rw [if_neg h3, if_neg h20, if_neg h21, if_neg h22, if_neg h23]
    have hu : u = t := by rw [HU.out]; unfold outU; rw [if_neg h20, if_neg h21, if_neg h22, if_neg h23]
    have j3 : (k == 3) = false := by simpa using h3
    have j20 : (k == 20) = false := by simpa using h20
    have j21 : (k == 21) = false := by simpa using h21
    have j22 : (k == 22) = false := by simpa using h22
    have j23 : (k == 23) = false := by simpa using h23
    subst hl
    subst hu
    clear HL HU h3 h20 h21 h22 h23
    go_wp2
    go_meet
    exact ⟨S, O, c, rfl, hc, HIS.out, hS, rfl, hO, HBO.out, HB1.out⟩
  case rest =>
  obtain ⟨S2, O2, c2, rfl, hc2, hIS2, hS2, rfl, hO2, hbO2, hB2⟩ := hcut
  have hbx := HB.out.below hB2 HB.out.lt
  have d0 := hbx.cell 0; have d1 := hbx.cell 1; have d2 := hbx.cell 2
  simp at d0 d1 d2
  have hl100 : l.length ≤ 100 := by
    rw [HL.out]; unfold wantU
    repeat' split
    all_goals decide
  have hone := one_any t l S2 c2 wc (HTI.out _ hB2) hS2 hIS2 hl100 hc2
  rw [HAG.out] at hone
  have HON := Lib.hid hone; have HBO2 := Lib.hid hbO2; have HB2 := Lib.hid hB2
  clear hone hbO2 hB2 hbx hIS2 f0 f1 f2
  go_wp2_with fail
  refine HON.out.mono ?_
  rintro e w5 ⟨rfl, hb5⟩
  have HB5 := Lib.hid (HB2.out.trans (hb5.mono HB2.out.size))
  have HBO5 := Lib.hid (HBO2.out.below hb5 HBO2.out.lt)
  clear hb5 d0 d1 d2
  by_cases hin : t.k ∈ l
  · have HR2 : Hid (R = some u.erase) := Lib.hid (by rw [HR.out, if_pos hin])
    rw [decide_eq_true hin]
    clear hin
    go_wp2_with fail
    refine (tmust_true _ _ _ rfl).mono ?_
    rintro e w6 ⟨rfl, rfl⟩
    have hui : u.In w5 := by
      rw [HU.out]
      unfold outU
      split
      · exact of_in 2 (by unfold i64r; decide) _
      · split
        · exact of_in 3 (by unfold i64r; decide) _
        · split
          · exact of_in 2 (by unfold i64r; decide) _
          · split
            · exact of_in 4 (by unfold i64r; decide) _
            · exact HTI.out _ HB5.out
    have hus : u.Sep P := by
      rw [HU.out]
      unfold outU
      split
      · exact of_sep _ _
      · split
        · exact of_sep _ _
        · split
          · exact of_sep _ _
          · split
            · exact of_sep _ _
            · exact HST.out
    obtain ⟨k4, l4, f4⟩ := hui.nslice
    obtain ⟨k5, l5, f5⟩ := hui.xslice
    have hbo := HBO5.out
    unfold Cells3 at hbo
    rw [f4, f5] at hbo
    have hbr := HBR.out.below HB5.out HBR.out.lt
    have g0 := hbo.cell 0; have g1 := hbo.cell 1; have g2 := hbo.cell 2
    have r0 := hbr.cell 0; have r1 := hbr.cell 1; have r2 := hbr.cell 2
    have s0 := hbr.frozen 0; have s1 := hbr.frozen 1; have s2 := hbr.frozen 2
    simp at g0 g1 g2 r0 r1 r2
    obtain ⟨WF, hWF⟩ : ∃ WF, WF = ((w5.setCell ⟨A + 1, 0, none⟩ (.int .i64 u.k)).setCell ⟨A + 1, 1, none⟩ (.slice k4 u.ns.length l4)).setCell ⟨A + 1, 2, none⟩ (.slice k5 u.xs.length l5) := ⟨_, rfl⟩
    have hF : Blk WF (A + 1) 36 #[.int .i64 u.k, .slice k4 u.ns.length l4, .slice k5 u.xs.length l5] := by rw [hWF]; exact blk3_set hbr _ _ _
    have hBF : Below w.heap.size w WF := by rw [hWF]; exact below3_set (HBW.out.trans (HB5.out.mono HBW.out.size)) (by have := HA.out; omega) _ _ _
    have hIF : u.In WF := by
      refine hui.carryS hus (fun b o hb hlt => ?_) (by rw [hWF]; simp [World.setCell])
      have hne : ∀ k, (⟨A + 1, k, none⟩ : Addr) ≠ ⟨b, o, none⟩ := fun k e => by injection e with e _; have := HA.out; have := HPP.out b hb; omega
      rw [hWF, World.cell?_setCell_other _ _ _ _ (hne 2), World.cell?_setCell_other _ _ _ _ (hne 1), World.cell?_setCell_other _ _ _ _ (hne 0)]
    have HWF := Lib.hid hWF; have HF := Lib.hid hF; have HBF := Lib.hid hBF; have HIF := Lib.hid hIF; have HUS := Lib.hid hus
    have HUA : Hid (u.agg = .agg #[.int .i64 u.k, .slice k4 u.ns.length l4, .slice k5 u.xs.length l5]) := Lib.hid (by unfold Ty.agg; rw [f4, f5])
    clear hWF hF hBF hIF hus hui f4 f5 hbo hbr
    go_wp2_with fail
    rw [← HWF.out]
    have f0 := HF.out.cell 0; have f1 := HF.out.cell 1; have f2 := HF.out.cell 2
    simp at f0 f1 f2
    refine bodyPost_ret (v := .agg #[.int .i64 u.k, .slice k4 u.ns.length l4, .slice k5 u.xs.length l5]) (by simp [results, Tryz.results78, go_sem, f0, f1, f2]) rfl ?_
    refine ⟨HBF.out, ?_⟩
    rw [HR2.out]
    exact ⟨u, by rw [HUA.out], rfl, HIF.out, HUS.out.mono (fun b hb => .inl hb)⟩
  · have HR2 : Hid (R = none) := Lib.hid (by rw [HR.out, if_neg hin])
    rw [decide_eq_false hin]
    clear hin
    go_wp2_with fail
    refine (tmust_false _ _ _ rfl).mono ?_
    rintro e w6 ⟨rfl, rfl⟩
    unfold gave
    go_wp2
    refine ⟨rfl, HBW.out.trans (HB5.out.mono HBW.out.size), ?_⟩
    rw [HR2.out]
    rfl
end Go.Proofs.YtjpdbhhjlnmacaaGreat

/- types.binary of two types that may be types (printed by wip/gen_binary.py). -/
namespace Go.Proofs.YtjpdbhhjlnmacaaGreat
set_option linter.unusedVariables false
open Go.RowKit

/-- The kinds that an operation on two takes, and what it gives. -/
def wantB (k : Int) : List Int := if k = 5 then [2, 3, 4, 5] else if k = 6 then [2, 3] else if k = 7 then [2, 3] else if k = 8 then [2, 3] else if k = 9 then [2] else if k = 11 then [2, 3, 4] else if k = 12 then [2, 3, 4] else [1]
def binaryP (k : Int) (a b : Ty) : Option Ty := (a.joinT b).bind fun t =>
  if k = 10 then some (Ty.of 1) else if a.k ∈ wantB k ∧ b.k ∈ wantB k then (if k = 11 ∨ k = 12 then some (Ty.of 1) else some t) else none
def BinState (W : World) (l : List Int) (sv : Value) (wx : World) : Prop :=
  ∃ (S c : Nat), sv = .slice (some ⟨S, 0, none⟩) l.length c ∧ l.length ≤ c ∧ IntsIn wx S l ∧ S < wx.heap.size ∧ Below W.heap.size W wx
theorem bin_slice (W : World) (l : List Int) (c : Nat) (hc : l.length ≤ c) : BinState W l (.slice (some ⟨W.heap.size, 0, none⟩) l.length c) (W.alloc (.cells (l.map (Value.int .i64)).toArray 3)) :=
  ⟨_, _, rfl, hc, ints_of_blk (Blk.new W 3 _), (Blk.new W 3 (l.map (Value.int .i64)).toArray).lt, (Below.refl _ W).alloc (Nat.le_refl _) _⟩
/-- A type stored as the result. -/
theorem res_stored {w W WF : World} {u : Ty} {P : Nat → Prop} {A : Nat} {k4 k5 : Option Addr} {l4 l5 : Nat} {x0 x1 x2 : Value} (hA : A = w.heap.size) (hP : ∀ b, P b → b < w.heap.size) (hB : Below w.heap.size w W) (hr : Blk W (A + 1 + 1) 36 #[x0, x1, x2]) (hi : u.In W) (hs : u.Sep (fun b => P b ∨ A + 1 + 1 + 1 ≤ b))
    (f4 : u.na.val u.ns.length = .slice k4 u.ns.length l4) (f5 : u.xa.val u.xs.length = .slice k5 u.xs.length l5) (hWF : WF = ((W.setCell ⟨A + 1 + 1, 0, none⟩ (.int .i64 u.k)).setCell ⟨A + 1 + 1, 1, none⟩ (.slice k4 u.ns.length l4)).setCell ⟨A + 1 + 1, 2, none⟩ (.slice k5 u.xs.length l5)) :
    Blk WF (A + 1 + 1) 36 #[.int .i64 u.k, .slice k4 u.ns.length l4, .slice k5 u.xs.length l5] ∧ Joined (some u.erase) P w (.returned (.agg #[.int .i64 u.k, .slice k4 u.ns.length l4, .slice k5 u.xs.length l5])) WF := by
  refine ⟨by rw [hWF]; exact blk3_set hr _ _ _, by rw [hWF]; exact below3_set hB (by omega) _ _ _, u, by unfold Ty.agg; rw [f4, f5], rfl, ?_, hs.mono (fun b hb => by rcases hb with h | h; exact .inl h; exact .inr (by omega))⟩
  refine hi.carryS hs (fun b o hb hlt => ?_) (by rw [hWF]; simp [World.setCell])
  have hne : ∀ k, (⟨A + 1 + 1, k, none⟩ : Addr) ≠ ⟨b, o, none⟩ := fun k e => by
    injection e with e _
    rcases hb with hb | hb
    · have := hP b hb; omega
    · omega
  rw [hWF, World.cell?_setCell_other _ _ _ _ (hne 2), World.cell?_setCell_other _ _ _ _ (hne 1), World.cell?_setCell_other _ _ _ _ (hne 0)]

set_option maxHeartbeats 8000000 in
set_option maxRecDepth 100000 in
theorem binary_any (a b : Ty) (k : Int) (P : Nat → Prop) (w : World) (hP : ∀ b, P b → b < w.heap.size) (ha : a.In w) (hb : b.In w) (hra : ∃ n, a.rightB n = true) (hrb : ∃ n, b.rightB n = true) (hsa : a.Sep P) (hsb : b.Sep P) :
    Calls Tryz.prog 79 #[.int .i64 k, a.agg, b.agg] w fun e w' => Joined (binaryP k a b) P w e w' := by
  obtain ⟨W, hW⟩ : ∃ W, W = ((w.alloc (.cells #[.int .i64 a.k, a.na.val a.ns.length, a.xa.val a.xs.length] 36)).alloc (.cells #[.int .i64 b.k, b.na.val b.ns.length, b.xa.val b.xs.length] 36)).alloc (.cells #[.int .i64 0, .slice none 0 0, .slice none 0 0] 36) := ⟨_, rfl⟩
  have hj : J0 w W a b #[.int .i64 0, .slice none 0 0, .slice none 0 0] := by rw [hW]; exact j0_start w a b _
  have hIa := ha.below hj.below
  have hIb := hb.below hj.below
  have hjn := join_any a.sz a b P W (Nat.le_refl _) (fun b hb => Nat.lt_of_lt_of_le (hP b hb) hj.below.size) hIa hIb hra hrb hsa hsb
  obtain ⟨p4, q4, e4⟩ := ha.nslice
  obtain ⟨p5, q5, e5⟩ := ha.xslice
  obtain ⟨r4, t4, g4⟩ := hb.nslice
  obtain ⟨r5, t5, g5⟩ := hb.xslice
  obtain ⟨A, hA⟩ : ∃ A, A = w.heap.size := ⟨_, rfl⟩
  have ba := hj.ba; have bb := hj.bb; have br := hj.br
  rw [← hA] at ba bb br
  rw [e4, e5] at ba
  rw [g4, g5] at bb
  rw [e4, e5, g4, g5] at hW
  have hag : a.agg = .agg #[.int .i64 a.k, .slice p4 a.ns.length q4, .slice p5 a.xs.length q5] := by unfold Ty.agg; rw [e4, e5]
  have hbg : b.agg = .agg #[.int .i64 b.k, .slice r4 b.ns.length t4, .slice r5 b.xs.length t5] := by unfold Ty.agg; rw [g4, g5]
  rw [hag, hbg] at hjn ⊢
  have hWS : W.heap.size = A + 1 + 1 + 1 := by rw [hW, hA]; simp
  have a0 := ba.cell 0; have a1 := ba.cell 1; have a2 := ba.cell 2
  have b0 := bb.cell 0; have b1 := bb.cell 1; have b2 := bb.cell 2
  simp at a0 a1 a2 b0 b1 b2
  obtain ⟨JT, hJT⟩ : ∃ JT, JT = a.joinT b := ⟨_, rfl⟩
  obtain ⟨R, hR⟩ : ∃ R, R = binaryP k a b := ⟨_, rfl⟩
  obtain ⟨l, hl⟩ : ∃ l, l = wantB k := ⟨_, rfl⟩
  have hR2 : R = JT.bind fun t => if k = 10 then some (Ty.of 1) else if a.k ∈ l ∧ b.k ∈ l then (if k = 11 ∨ k = 12 then some (Ty.of 1) else some t) else none := by rw [hR, hJT, hl]; rfl
  rw [← hR]
  rw [← hJT] at hjn
  have HW := Lib.hid hW; have HA := Lib.hid hA; have HBW := Lib.hid hj.below; have BA := Lib.hid ba; have BB := Lib.hid bb; have BR := Lib.hid br; have HJN := Lib.hid hjn; have HR := Lib.hid hR2; have HL := Lib.hid hl; have HAG := Lib.hid hag; have HBG := Lib.hid hbg; have HIA := Lib.hid hIa; have HIB := Lib.hid hIb; have HPP := Lib.hid hP; have HWS := Lib.hid hWS
  clear hW hA hj ba bb br hjn hR hR2 hl hag hbg hIa hIb hP hWS ha hb hra hrb hsa hsb hJT e4 e5 g4 g5
  go_enter Tryz.func79, Tryz.ntmps79
  go_wp2_with fail
  rw [← HW.out, ← HA.out]
  refine HJN.out.mono ?_
  cases JT with
  | none =>
    rintro e w1 ⟨hb1, rfl⟩
    have HB1 := Lib.hid (HBW.out.trans (hb1.mono HBW.out.size))
    clear hb1
    unfold gave
    go_wp2
    refine ⟨rfl, HB1.out, ?_⟩
    rw [HR.out]
    rfl
  | some v =>
    rintro e w1 ⟨hb1, u, rfl, hue, hui, hus⟩
    obtain ⟨k4, l4, f4⟩ := hui.nslice
    obtain ⟨k5, l5, f5⟩ := hui.xslice
    obtain ⟨W2, hW2⟩ : ∃ W2, W2 = w1.alloc (.cells #[.int .i64 u.k, .slice k4 u.ns.length l4, .slice k5 u.xs.length l5] 36) := ⟨_, rfl⟩
    have hb2 : Below W.heap.size W W2 := by rw [hW2]; exact hb1.alloc hb1.size _
    have hT : Blk W2 w1.heap.size 36 #[.int .i64 u.k, .slice k4 u.ns.length l4, .slice k5 u.xs.length l5] := by rw [hW2]; exact Blk.new w1 36 _
    have hag : u.agg = .agg #[.int .i64 u.k, .slice k4 u.ns.length l4, .slice k5 u.xs.length l5] := by unfold Ty.agg; rw [f4, f5]
    rw [hag]
    have hui2 : u.In W2 := hui.below (by rw [hW2]; exact (Below.refl _ _).alloc (Nat.le_refl _) _)
    have hus2 : u.Sep (fun b => P b ∨ A + 1 + 1 + 1 ≤ b) := hus.mono (fun b hb => by rw [HWS.out] at hb; exact hb)
    have ba := BA.out.below hb2 BA.out.lt
    have bb := BB.out.below hb2 BB.out.lt
    clear a0 a1 a2 b0 b1 b2
    have a0 := ba.cell 0; have a1 := ba.cell 1; have a2 := ba.cell 2
    have b0 := bb.cell 0; have b1 := bb.cell 1; have b2 := bb.cell 2
    simp at a0 a1 a2 b0 b1 b2
    have HW2 := Lib.hid hW2; have HB2 := Lib.hid hb2; have HT := Lib.hid hT; have HUI := Lib.hid hui2; have HUS := Lib.hid hus2; have HUE := Lib.hid hue; have HF4 := Lib.hid f4; have HF5 := Lib.hid f5
    clear hW2 hb2 hT hag hui2 hus2 hue f4 f5 hui hus hb1 ba bb
    by_cases h10 : k = 10
    · subst h10
      have HR2 : Hid (R = some (Ty.of 1)) := Lib.hid (by rw [HR.out]; rfl)
      have HOF := Lib.hid (fun W => of_any 1 W)
      go_upto_region 2 with fail
      rw [← HW2.out]
      go_wp2_with fail
      refine (HOF.out _).mono ?_
      rintro e w5 ⟨rfl, hb5⟩
      have hB5 := HB2.out.trans (hb5.mono HB2.out.size)
      have hbr := BR.out.below hB5 BR.out.lt
      have r0 := hbr.cell 0; have r1 := hbr.cell 1; have r2 := hbr.cell 2
      have s0 := hbr.frozen 0; have s1 := hbr.frozen 1; have s2 := hbr.frozen 2
      simp at r0 r1 r2
      obtain ⟨WF, hWF⟩ : ∃ WF, WF = ((w5.setCell ⟨A + 1 + 1, 0, none⟩ (.int .i64 1)).setCell ⟨A + 1 + 1, 1, none⟩ (.slice none 0 0)).setCell ⟨A + 1 + 1, 2, none⟩ (.slice none 0 0) := ⟨_, rfl⟩
      have hres := res_stored (u := Ty.of 1) (k4 := none) (k5 := none) (l4 := 0) (l5 := 0) HA.out HPP.out (HBW.out.trans (hB5.mono HBW.out.size)) hbr (of_in 1 (by unfold i64r; decide) _) (of_sep _ _) rfl rfl hWF
      have HRES := Lib.hid hres; have HWF := Lib.hid hWF
      clear hres hWF hbr hB5 hb5
      go_wp2_with fail
      rw [← HWF.out]
      obtain ⟨hF, hJ⟩ := HRES.out
      have f0 := hF.cell 0; have f1 := hF.cell 1; have f2 := hF.cell 2
      simp [Ty.of, Ty.k, Ty.ns, Ty.xs] at f0 f1 f2
      refine bodyPost_ret (v := .agg #[.int .i64 1, .slice none 0 0, .slice none 0 0]) (by simp [results, Tryz.results79, go_sem, f0, f1, f2]) rfl ?_
      rw [HR2.out]
      exact hJ
    have j10 : (k == 10) = false := by simpa using h10
    have HR2 : Hid (R = if a.k ∈ l ∧ b.k ∈ l then (if k = 11 ∨ k = 12 then some (Ty.of 1) else some v) else none) := Lib.hid (by rw [HR.out]; simp only [Option.bind_some]; rw [if_neg h10])
    clear HR h10
    go_upto_block 0 with fail
    rw [← HW2.out]
    go_cut [8] (fun sv wx => BinState W2 l sv wx)
    case first =>
      clear a0 a1 a2 b0 b1 b2
      by_cases h5 : k = 5
      · subst h5
        have hl : l = [2, 3, 4, 5] := by rw [HL.out]; rfl
        subst hl
        clear HL
        go_wp2
        go_meet
        exact bin_slice W2 [2, 3, 4, 5] 4 (by decide)
      by_cases h6 : k = 6
      · subst h6
        have hl : l = [2, 3] := by rw [HL.out]; rfl
        subst hl
        clear HL
        go_wp2
        go_meet
        exact bin_slice W2 [2, 3] 2 (by decide)
      by_cases h7 : k = 7
      · subst h7
        have hl : l = [2, 3] := by rw [HL.out]; rfl
        subst hl
        clear HL
        go_wp2
        go_meet
        exact bin_slice W2 [2, 3] 2 (by decide)
      by_cases h8 : k = 8
      · subst h8
        have hl : l = [2, 3] := by rw [HL.out]; rfl
        subst hl
        clear HL
        go_wp2
        go_meet
        exact bin_slice W2 [2, 3] 2 (by decide)
      by_cases h9 : k = 9
      · subst h9
        have hl : l = [2] := by rw [HL.out]; rfl
        subst hl
        clear HL
        go_wp2
        go_meet
        exact bin_slice W2 [2] 1 (by decide)
      by_cases h11 : k = 11
      · subst h11
        have hl : l = [2, 3, 4] := by rw [HL.out]; rfl
        subst hl
        clear HL
        go_wp2
        go_meet
        exact bin_slice W2 [2, 3, 4] 3 (by decide)
      by_cases h12 : k = 12
      · subst h12
        have hl : l = [2, 3, 4] := by rw [HL.out]; rfl
        subst hl
        clear HL
        go_wp2
        go_meet
        exact bin_slice W2 [2, 3, 4] 3 (by decide)
      have hl : l = [1] := by rw [HL.out]; unfold wantB; rw [if_neg h5, if_neg h6, if_neg h7, if_neg h8, if_neg h9, if_neg h11, if_neg h12]
      have j5 : (k == 5) = false := by simpa using h5
      have j6 : (k == 6) = false := by simpa using h6
      have j7 : (k == 7) = false := by simpa using h7
      have j8 : (k == 8) = false := by simpa using h8
      have j9 : (k == 9) = false := by simpa using h9
      have j11 : (k == 11) = false := by simpa using h11
      have j12 : (k == 12) = false := by simpa using h12
      subst hl
      clear HL h5 h6 h7 h8 h9 h11 h12
      go_wp2
      go_meet
      exact bin_slice W2 [1] 1 (by decide)
    case rest =>
    obtain ⟨S, c, rfl, hc, hIS, hS, hB3⟩ := hcut
    have hB3W := HB2.out.trans (hB3.mono HB2.out.size)
    have ba := BA.out.below hB3W BA.out.lt
    have bb := BB.out.below hB3W BB.out.lt
    clear a0 a1 a2 b0 b1 b2
    have a0 := ba.cell 0; have a1 := ba.cell 1; have a2 := ba.cell 2
    have b0 := bb.cell 0; have b1 := bb.cell 1; have b2 := bb.cell 2
    simp at a0 a1 a2 b0 b1 b2
    have hl100 : l.length ≤ 100 := by
      rw [HL.out]; unfold wantB
      repeat' split
      all_goals decide
    have hone := one_any a l S c wc (HIA.out.below hB3W) hS hIS hl100 hc
    rw [HAG.out] at hone
    have hone2 := fun (W' : World) (hb' : Below wc.heap.size wc W') => one_any b l S c W' ((HIB.out.below hB3W).below hb') (Nat.lt_of_lt_of_le hS hb'.size) (fun i hi => (hb'.cell (p := ⟨S, i, none⟩) hS).trans (hIS i hi)) hl100 hc
    rw [HBG.out] at hone2
    have HON := Lib.hid hone; have HON2 := Lib.hid hone2; have HB3 := Lib.hid hB3; have HB3W := Lib.hid hB3W
    clear hone hone2 hB3 hB3W hIS ba bb
    go_wp2_with fail
    refine HON.out.mono ?_
    rintro e w5 ⟨rfl, hb5⟩
    have HO2 := Lib.hid (HON2.out w5 hb5)
    have HB5 := Lib.hid (HB3W.out.trans (hb5.mono HB3W.out.size)); have HB5' := Lib.hid (HB3.out.trans (hb5.mono HB3.out.size))
    clear hb5 a0 a1 a2 b0 b1 b2
    by_cases hin : a.k ∈ l
    case neg =>
      have HR3 : Hid (R = none) := Lib.hid (by rw [HR2.out, if_neg (fun h => hin h.1)])
      rw [decide_eq_false hin]
      clear hin
      go_wp2_with fail
      refine (tmust_false _ _ _ rfl).mono ?_
      rintro e w6 ⟨rfl, rfl⟩
      unfold gave
      go_wp2
      refine ⟨rfl, HBW.out.trans (HB5.out.mono HBW.out.size), ?_⟩
      rw [HR3.out]
      rfl
    rw [decide_eq_true hin]
    have bb := BB.out.below HB5.out BB.out.lt
    have b0 := bb.cell 0; have b1 := bb.cell 1; have b2 := bb.cell 2
    simp at b0 b1 b2
    clear bb
    go_wp2_with fail
    refine HO2.out.mono ?_
    rintro e w6 ⟨rfl, hb6⟩
    have HB6 := Lib.hid (HB5.out.trans (hb6.mono HB5.out.size)); have HB6' := Lib.hid (HB5'.out.trans (hb6.mono HB5'.out.size))
    clear hb6 b0 b1 b2
    by_cases hin2 : b.k ∈ l
    case neg =>
      have HR3 : Hid (R = none) := Lib.hid (by rw [HR2.out, if_neg (fun h => hin2 h.2)])
      rw [decide_eq_false hin2]
      clear hin hin2
      go_wp2_with fail
      refine (tmust_false _ _ _ rfl).mono ?_
      rintro e w7 ⟨rfl, rfl⟩
      unfold gave
      go_wp2
      refine ⟨rfl, HBW.out.trans (HB6.out.mono HBW.out.size), ?_⟩
      rw [HR3.out]
      rfl
    have HR3 : Hid (R = if k = 11 ∨ k = 12 then some (Ty.of 1) else some v) := Lib.hid (by rw [HR2.out, if_pos ⟨hin, hin2⟩])
    rw [decide_eq_true hin2]
    clear hin hin2 HR2
    go_wp2_with fail
    refine (tmust_true _ _ _ rfl).mono ?_
    rintro e w7 ⟨rfl, rfl⟩
    by_cases hk : k = 11 ∨ k = 12
    · have HR4 : Hid (R = some (Ty.of 1)) := Lib.hid (by rw [HR3.out, if_pos hk])
      have HOF := Lib.hid (fun W => of_any 1 W)
      rcases hk with rfl | rfl
      all_goals
        go_wp2_with fail
        refine (HOF.out _).mono ?_
        rintro e w8 ⟨rfl, hb8⟩
        have hB8 := HB6.out.trans (hb8.mono HB6.out.size)
        have hbr := BR.out.below hB8 BR.out.lt
        have r0 := hbr.cell 0; have r1 := hbr.cell 1; have r2 := hbr.cell 2
        have s0 := hbr.frozen 0; have s1 := hbr.frozen 1; have s2 := hbr.frozen 2
        simp at r0 r1 r2
        obtain ⟨WF, hWF⟩ : ∃ WF, WF = ((w8.setCell ⟨A + 1 + 1, 0, none⟩ (.int .i64 1)).setCell ⟨A + 1 + 1, 1, none⟩ (.slice none 0 0)).setCell ⟨A + 1 + 1, 2, none⟩ (.slice none 0 0) := ⟨_, rfl⟩
        have hres := res_stored (u := Ty.of 1) (k4 := none) (k5 := none) (l4 := 0) (l5 := 0) HA.out HPP.out (HBW.out.trans (hB8.mono HBW.out.size)) hbr (of_in 1 (by unfold i64r; decide) _) (of_sep _ _) rfl rfl hWF
        have HRES := Lib.hid hres; have HWF := Lib.hid hWF
        clear hres hWF hbr hB8 hb8
        go_wp2_with fail
        rw [← HWF.out]
        obtain ⟨hF, hJ⟩ := HRES.out
        have f0 := hF.cell 0; have f1 := hF.cell 1; have f2 := hF.cell 2
        simp [Ty.of, Ty.k, Ty.ns, Ty.xs] at f0 f1 f2
        refine bodyPost_ret (v := .agg #[.int .i64 1, .slice none 0 0, .slice none 0 0]) (by simp [results, Tryz.results79, go_sem, f0, f1, f2]) rfl ?_
        rw [HR4.out]
        exact hJ
    · have HR4 : Hid (R = some v) := Lib.hid (by rw [HR3.out, if_neg hk])
      have j11 : (k == 11) = false := by simp; omega
      have j12 : (k == 12) = false := by simp; omega
      have hbt := HT.out.below HB6'.out HT.out.lt
      have g0 := hbt.cell 0; have g1 := hbt.cell 1; have g2 := hbt.cell 2
      have hbr := BR.out.below HB6.out BR.out.lt
      have r0 := hbr.cell 0; have r1 := hbr.cell 1; have r2 := hbr.cell 2
      have s0 := hbr.frozen 0; have s1 := hbr.frozen 1; have s2 := hbr.frozen 2
      simp at g0 g1 g2 r0 r1 r2
      obtain ⟨WF, hWF⟩ : ∃ WF, WF = ((w6.setCell ⟨A + 1 + 1, 0, none⟩ (.int .i64 u.k)).setCell ⟨A + 1 + 1, 1, none⟩ (.slice k4 u.ns.length l4)).setCell ⟨A + 1 + 1, 2, none⟩ (.slice k5 u.xs.length l5) := ⟨_, rfl⟩
      have hres := res_stored (u := u) HA.out HPP.out (HBW.out.trans (HB6.out.mono HBW.out.size)) hbr (HUI.out.below HB6'.out) HUS.out HF4.out HF5.out hWF
      have HRES := Lib.hid hres; have HWF := Lib.hid hWF
      clear hres hWF hbr hbt hk
      go_wp2_with fail
      rw [← HWF.out]
      obtain ⟨hF, hJ⟩ := HRES.out
      have f0 := hF.cell 0; have f1 := hF.cell 1; have f2 := hF.cell 2
      simp at f0 f1 f2
      refine bodyPost_ret (v := .agg #[.int .i64 u.k, .slice k4 u.ns.length l4, .slice k5 u.xs.length l5]) (by simp [results, Tryz.results79, go_sem, f0, f1, f2]) rfl ?_
      rw [HR4.out, ← HUE.out]
      exact hJ
end Go.Proofs.YtjpdbhhjlnmacaaGreat
