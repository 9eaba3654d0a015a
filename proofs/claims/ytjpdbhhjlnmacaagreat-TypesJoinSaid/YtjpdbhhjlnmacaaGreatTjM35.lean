/- types.binary of two types that may be types (printed by wip/gen_binary.py). -/
import Derived.Test.YtjpdbhhjlnmacaaGreatTjM34
namespace Go.Proofs.YtjpdbhhjlnmacaaGreat
set_option linter.unusedVariables false
open Go.RowKit

/-- The kinds that an operation on two takes, and what it gives. -/
def wantB (k : Int) : List Int := if k = 5 then [2, 3, 4, 5] else if k = 6 then [2, 3] else if k = 7 then [2, 3] else if k = 8 then [2, 3] else if k = 9 then [2] else if k = 11 then [2, 3, 4] else if k = 12 then [2, 3, 4] else [1]
def binaryP (k : Int) (a b : Ty) : Option Ty := (a.joinT b).bind fun t =>
  if k = 10 then some (Ty.of 1) else if a.k ∈ wantB k ∧ b.k ∈ wantB k then (if k = 11 ∨ k = 12 then some (Ty.of 1) else some t) else none
def BinState (W : World) (l : List Int) (sv : Value) (wx : World) : Prop :=
  ∃ (S c : Nat), sv = .slice (some ⟨S, 0, none⟩) l.length c ∧ l.length ≤ c ∧ IntsIn wx S l ∧ S < wx.heap.size ∧ Below W.heap.size W wx
theorem bin_slice (W : World) (l : List Int) (c : Nat) (hc : l.length ≤ c) : BinState W l (.slice (some ⟨W.heap.size, 0, none⟩) l.length c) (W.alloc (.cells (l.map (Value.int .i64)).toArray 3)) :=
  ⟨_, _, rfl, hc, ints_of_blk (Blk.new W 3 _), (Blk.new W 3 (l.map (Value.int .i64)).toArray).lt, (Below.refl _ W).alloc (Nat.le_refl _) _⟩
/-- A type stored as the result. -/
theorem res_stored {w W WF : World} {u : Ty} {P : Nat → Prop} {A : Nat} {k4 k5 : Option Addr} {l4 l5 : Nat} {x0 x1 x2 : Value} (hA : A = w.heap.size) (hP : ∀ b, P b → b < w.heap.size) (hB : Below w.heap.size w W) (hr : Blk W (A + 1 + 1) 36 #[x0, x1, x2]) (hi : u.In W) (hs : u.Sep (fun b => P b ∨ A + 1 + 1 + 1 ≤ b))
    (f4 : u.na.val u.ns.length = .slice k4 u.ns.length l4) (f5 : u.xa.val u.xs.length = .slice k5 u.xs.length l5) (hWF : WF = ((W.setCell ⟨A + 1 + 1, 0, none⟩ (.int .i64 u.k)).setCell ⟨A + 1 + 1, 1, none⟩ (.slice k4 u.ns.length l4)).setCell ⟨A + 1 + 1, 2, none⟩ (.slice k5 u.xs.length l5)) :
    Blk WF (A + 1 + 1) 36 #[.int .i64 u.k, .slice k4 u.ns.length l4, .slice k5 u.xs.length l5] ∧ Joined (some u.erase) P w (.returned (.agg #[.int .i64 u.k, .slice k4 u.ns.length l4, .slice k5 u.xs.length l5])) WF := by
  refine ⟨by rw [hWF]; exact blk3_set hr _ _ _, by rw [hWF]; exact below3_set hB (by omega) _ _ _, u, by unfold Ty.agg; rw [f4, f5], rfl, ?_, hs.mono (fun b hb => by rcases hb with h | h; exact .inl h; exact .inr (by omega))⟩
  refine hi.carryS hs (fun b o hb hlt => ?_) (by rw [hWF]; simp [World.setCell])
  have hne : ∀ k, (⟨A + 1 + 1, k, none⟩ : Addr) ≠ ⟨b, o, none⟩ := fun k e => by
    injection e with e _
    rcases hb with hb | hb
    · have := hP b hb; omega
    · omega
  rw [hWF, World.cell?_setCell_other _ _ _ _ (hne 2), World.cell?_setCell_other _ _ _ _ (hne 1), World.cell?_setCell_other _ _ _ _ (hne 0)]

set_option maxHeartbeats 8000000 in
set_option maxRecDepth 100000 in
theorem binary_any (a b : Ty) (k : Int) (P : Nat → Prop) (w : World) (hP : ∀ b, P b → b < w.heap.size) (ha : a.In w) (hb : b.In w) (hra : ∃ n, a.rightB n = true) (hrb : ∃ n, b.rightB n = true) (hsa : a.Sep P) (hsb : b.Sep P) :
    Calls Tryz.prog 79 #[.int .i64 k, a.agg, b.agg] w fun e w' => Joined (binaryP k a b) P w e w' := by
  obtain ⟨W, hW⟩ : ∃ W, W = ((w.alloc (.cells #[.int .i64 a.k, a.na.val a.ns.length, a.xa.val a.xs.length] 36)).alloc (.cells #[.int .i64 b.k, b.na.val b.ns.length, b.xa.val b.xs.length] 36)).alloc (.cells #[.int .i64 0, .slice none 0 0, .slice none 0 0] 36) := ⟨_, rfl⟩
  have hj : J0 w W a b #[.int .i64 0, .slice none 0 0, .slice none 0 0] := by rw [hW]; exact j0_start w a b _
  have hIa := ha.below hj.below
  have hIb := hb.below hj.below
  have hjn := join_any a.sz a b P W (Nat.le_refl _) (fun b hb => Nat.lt_of_lt_of_le (hP b hb) hj.below.size) hIa hIb hra hrb hsa hsb
  obtain ⟨p4, q4, e4⟩ := ha.nslice
  obtain ⟨p5, q5, e5⟩ := ha.xslice
  obtain ⟨r4, t4, g4⟩ := hb.nslice
  obtain ⟨r5, t5, g5⟩ := hb.xslice
  obtain ⟨A, hA⟩ : ∃ A, A = w.heap.size := ⟨_, rfl⟩
  have ba := hj.ba; have bb := hj.bb; have br := hj.br
  rw [← hA] at ba bb br
  rw [e4, e5] at ba
  rw [g4, g5] at bb
  rw [e4, e5, g4, g5] at hW
  have hag : a.agg = .agg #[.int .i64 a.k, .slice p4 a.ns.length q4, .slice p5 a.xs.length q5] := by unfold Ty.agg; rw [e4, e5]
  have hbg : b.agg = .agg #[.int .i64 b.k, .slice r4 b.ns.length t4, .slice r5 b.xs.length t5] := by unfold Ty.agg; rw [g4, g5]
  rw [hag, hbg] at hjn ⊢
  have hWS : W.heap.size = A + 1 + 1 + 1 := by rw [hW, hA]; simp
  have a0 := ba.cell 0; have a1 := ba.cell 1; have a2 := ba.cell 2
  have b0 := bb.cell 0; have b1 := bb.cell 1; have b2 := bb.cell 2
  simp at a0 a1 a2 b0 b1 b2
  obtain ⟨JT, hJT⟩ : ∃ JT, JT = a.joinT b := ⟨_, rfl⟩
  obtain ⟨R, hR⟩ : ∃ R, R = binaryP k a b := ⟨_, rfl⟩
  obtain ⟨l, hl⟩ : ∃ l, l = wantB k := ⟨_, rfl⟩
  have hR2 : R = JT.bind fun t => if k = 10 then some (Ty.of 1) else if a.k ∈ l ∧ b.k ∈ l then (if k = 11 ∨ k = 12 then some (Ty.of 1) else some t) else none := by rw [hR, hJT, hl]; rfl
  rw [← hR]
  rw [← hJT] at hjn
  have HW := Lib.hid hW; have HA := Lib.hid hA; have HBW := Lib.hid hj.below; have BA := Lib.hid ba; have BB := Lib.hid bb; have BR := Lib.hid br; have HJN := Lib.hid hjn; have HR := Lib.hid hR2; have HL := Lib.hid hl; have HAG := Lib.hid hag; have HBG := Lib.hid hbg; have HIA := Lib.hid hIa; have HIB := Lib.hid hIb; have HPP := Lib.hid hP; have HWS := Lib.hid hWS
  clear hW hA hj ba bb br hjn hR hR2 hl hag hbg hIa hIb hP hWS ha hb hra hrb hsa hsb hJT e4 e5 g4 g5
  go_enter Tryz.func79, Tryz.ntmps79
  go_wp2_with fail
  rw [← HW.out, ← HA.out]
  refine HJN.out.mono ?_
  cases JT with
  | none =>
    rintro e w1 ⟨hb1, rfl⟩
    have HB1 := Lib.hid (HBW.out.trans (hb1.mono HBW.out.size))
    clear hb1
    unfold gave
    go_wp2
    refine ⟨rfl, HB1.out, ?_⟩
    rw [HR.out]
    rfl
  | some v =>
    rintro e w1 ⟨hb1, u, rfl, hue, hui, hus⟩
    obtain ⟨k4, l4, f4⟩ := hui.nslice
    obtain ⟨k5, l5, f5⟩ := hui.xslice
    obtain ⟨W2, hW2⟩ : ∃ W2, W2 = w1.alloc (.cells #[.int .i64 u.k, .slice k4 u.ns.length l4, .slice k5 u.xs.length l5] 36) := ⟨_, rfl⟩
    have hb2 : Below W.heap.size W W2 := by rw [hW2]; exact hb1.alloc hb1.size _
    have hT : Blk W2 w1.heap.size 36 #[.int .i64 u.k, .slice k4 u.ns.length l4, .slice k5 u.xs.length l5] := by rw [hW2]; exact Blk.new w1 36 _
    have hag : u.agg = .agg #[.int .i64 u.k, .slice k4 u.ns.length l4, .slice k5 u.xs.length l5] := by unfold Ty.agg; rw [f4, f5]
    rw [hag]
    have hui2 : u.In W2 := hui.below (by rw [hW2]; exact (Below.refl _ _).alloc (Nat.le_refl _) _)
    have hus2 : u.Sep (fun b => P b ∨ A + 1 + 1 + 1 ≤ b) := hus.mono (fun b hb => by rw [HWS.out] at hb; exact hb)
    have ba := BA.out.below hb2 BA.out.lt
    have bb := BB.out.below hb2 BB.out.lt
    clear a0 a1 a2 b0 b1 b2
    have a0 := ba.cell 0; have a1 := ba.cell 1; have a2 := ba.cell 2
    have b0 := bb.cell 0; have b1 := bb.cell 1; have b2 := bb.cell 2
    simp at a0 a1 a2 b0 b1 b2
    have HW2 := Lib.hid hW2; have HB2 := Lib.hid hb2; have HT := Lib.hid hT; have HUI := Lib.hid hui2; have HUS := Lib.hid hus2; have HUE := Lib.hid hue; have HF4 := Lib.hid f4; have HF5 := Lib.hid f5
    clear hW2 hb2 hT hag hui2 hus2 hue f4 f5 hui hus hb1 ba bb
    by_cases h10 : k = 10
    · subst h10
      have HR2 : Hid (R = some (Ty.of 1)) := Lib.hid (by rw [HR.out]; rfl)
      have HOF := Lib.hid (fun W => of_any 1 W)
      go_upto_region 2 with fail
      rw [← HW2.out]
      go_wp2_with fail
      refine (HOF.out _).mono ?_
      rintro e w5 ⟨rfl, hb5⟩
      have hB5 := HB2.out.trans (hb5.mono HB2.out.size)
      have hbr := BR.out.below hB5 BR.out.lt
      have r0 := hbr.cell 0; have r1 := hbr.cell 1; have r2 := hbr.cell 2
      have s0 := hbr.frozen 0; have s1 := hbr.frozen 1; have s2 := hbr.frozen 2
      simp at r0 r1 r2
      obtain ⟨WF, hWF⟩ : ∃ WF, WF = ((w5.setCell ⟨A + 1 + 1, 0, none⟩ (.int .i64 1)).setCell ⟨A + 1 + 1, 1, none⟩ (.slice none 0 0)).setCell ⟨A + 1 + 1, 2, none⟩ (.slice none 0 0) := ⟨_, rfl⟩
      have hres := res_stored (u := Ty.of 1) (k4 := none) (k5 := none) (l4 := 0) (l5 := 0) HA.out HPP.out (HBW.out.trans (hB5.mono HBW.out.size)) hbr (of_in 1 (by unfold i64r; decide) _) (of_sep _ _) rfl rfl hWF
      have HRES := Lib.hid hres; have HWF := Lib.hid hWF
      clear hres hWF hbr hB5 hb5
      go_wp2_with fail
      rw [← HWF.out]
      obtain ⟨hF, hJ⟩ := HRES.out
      have f0 := hF.cell 0; have f1 := hF.cell 1; have f2 := hF.cell 2
      simp [Ty.of, Ty.k, Ty.ns, Ty.xs] at f0 f1 f2
      refine bodyPost_ret (v := .agg #[.int .i64 1, .slice none 0 0, .slice none 0 0]) (by simp [results, Tryz.results79, go_sem, f0, f1, f2]) rfl ?_
      rw [HR2.out]
      exact hJ
    have j10 : (k == 10) = false := by simpa using h10
    have HR2 : Hid (R = if a.k ∈ l ∧ b.k ∈ l then (if k = 11 ∨ k = 12 then some (Ty.of 1) else some v) else none) := Lib.hid (by rw [HR.out]; simp only [Option.bind_some]; rw [if_neg h10])
    clear HR h10
    go_upto_block 0 with fail
    rw [← HW2.out]
    go_cut [8] (fun sv wx => BinState W2 l sv wx)
    case first =>
      clear a0 a1 a2 b0 b1 b2
      by_cases h5 : k = 5
      · subst h5
        have hl : l = [2, 3, 4, 5] := by rw [HL.out]; rfl
        subst hl
        clear HL
        go_wp2
        go_meet
        exact bin_slice W2 [2, 3, 4, 5] 4 (by decide)
      by_cases h6 : k = 6
      · subst h6
        have hl : l = [2, 3] := by rw [HL.out]; rfl
        subst hl
        clear HL
        go_wp2
        go_meet
        exact bin_slice W2 [2, 3] 2 (by decide)
      by_cases h7 : k = 7
      · subst h7
        have hl : l = [2, 3] := by rw [HL.out]; rfl
        subst hl
        clear HL
        go_wp2
        go_meet
        exact bin_slice W2 [2, 3] 2 (by decide)
      by_cases h8 : k = 8
      · subst h8
        have hl : l = [2, 3] := by rw [HL.out]; rfl
        subst hl
        clear HL
        go_wp2
        go_meet
        exact bin_slice W2 [2, 3] 2 (by decide)
      by_cases h9 : k = 9
      · subst h9
        have hl : l = [2] := by rw [HL.out]; rfl
        subst hl
        clear HL
        go_wp2
        go_meet
        exact bin_slice W2 [2] 1 (by decide)
      by_cases h11 : k = 11
      · subst h11
        have hl : l = [2, 3, 4] := by rw [HL.out]; rfl
        subst hl
        clear HL
        go_wp2
        go_meet
        exact bin_slice W2 [2, 3, 4] 3 (by decide)
      by_cases h12 : k = 12
      · subst h12
        have hl : l = [2, 3, 4] := by rw [HL.out]; rfl
        subst hl
        clear HL
        go_wp2
        go_meet
        exact bin_slice W2 [2, 3, 4] 3 (by decide)
      have hl : l = [1] := by rw [HL.out]; unfold wantB; rw [if_neg h5, if_neg h6, if_neg h7, if_neg h8, if_neg h9, if_neg h11, if_neg h12]
      have j5 : (k == 5) = false := by simpa using h5
      have j6 : (k == 6) = false := by simpa using h6
      have j7 : (k == 7) = false := by simpa using h7
      have j8 : (k == 8) = false := by simpa using h8
      have j9 : (k == 9) = false := by simpa using h9
      have j11 : (k == 11) = false := by simpa using h11
      have j12 : (k == 12) = false := by simpa using h12
      subst hl
      clear HL h5 h6 h7 h8 h9 h11 h12
      go_wp2
      go_meet
      exact bin_slice W2 [1] 1 (by decide)
    case rest =>
    obtain ⟨S, c, rfl, hc, hIS, hS, hB3⟩ := hcut
    have hB3W := HB2.out.trans (hB3.mono HB2.out.size)
    have ba := BA.out.below hB3W BA.out.lt
    have bb := BB.out.below hB3W BB.out.lt
    clear a0 a1 a2 b0 b1 b2
    have a0 := ba.cell 0; have a1 := ba.cell 1; have a2 := ba.cell 2
    have b0 := bb.cell 0; have b1 := bb.cell 1; have b2 := bb.cell 2
    simp at a0 a1 a2 b0 b1 b2
    have hl100 : l.length ≤ 100 := by
      rw [HL.out]; unfold wantB
      repeat' split
      all_goals decide
    have hone := one_any a l S c wc (HIA.out.below hB3W) hS hIS hl100 hc
    rw [HAG.out] at hone
    have hone2 := fun (W' : World) (hb' : Below wc.heap.size wc W') => one_any b l S c W' ((HIB.out.below hB3W).below hb') (Nat.lt_of_lt_of_le hS hb'.size) (fun i hi => (hb'.cell (p := ⟨S, i, none⟩) hS).trans (hIS i hi)) hl100 hc
    rw [HBG.out] at hone2
    have HON := Lib.hid hone; have HON2 := Lib.hid hone2; have HB3 := Lib.hid hB3; have HB3W := Lib.hid hB3W
    clear hone hone2 hB3 hB3W hIS ba bb
    go_wp2_with fail
    refine HON.out.mono ?_
    rintro e w5 ⟨rfl, hb5⟩
    have HO2 := Lib.hid (HON2.out w5 hb5)
    have HB5 := Lib.hid (HB3W.out.trans (hb5.mono HB3W.out.size)); have HB5' := Lib.hid (HB3.out.trans (hb5.mono HB3.out.size))
    clear hb5 a0 a1 a2 b0 b1 b2
    by_cases hin : a.k ∈ l
    case neg =>
      have HR3 : Hid (R = none) := Lib.hid (by rw [HR2.out, if_neg (fun h => hin h.1)])
      rw [decide_eq_false hin]
      clear hin
      go_wp2_with fail
      refine (tmust_false _ _ _ rfl).mono ?_
      rintro e w6 ⟨rfl, rfl⟩
      unfold gave
      go_wp2
      refine ⟨rfl, HBW.out.trans (HB5.out.mono HBW.out.size), ?_⟩
      rw [HR3.out]
      rfl
    rw [decide_eq_true hin]
    have bb := BB.out.below HB5.out BB.out.lt
    have b0 := bb.cell 0; have b1 := bb.cell 1; have b2 := bb.cell 2
    simp at b0 b1 b2
    clear bb
    go_wp2_with fail
    refine HO2.out.mono ?_
    rintro e w6 ⟨rfl, hb6⟩
    have HB6 := Lib.hid (HB5.out.trans (hb6.mono HB5.out.size)); have HB6' := Lib.hid (HB5'.out.trans (hb6.mono HB5'.out.size))
    clear hb6 b0 b1 b2
    by_cases hin2 : b.k ∈ l
    case neg =>
      have HR3 : Hid (R = none) := Lib.hid (by rw [HR2.out, if_neg (fun h => hin2 h.2)])
      rw [decide_eq_false hin2]
      clear hin hin2
      go_wp2_with fail
      refine (tmust_false _ _ _ rfl).mono ?_
      rintro e w7 ⟨rfl, rfl⟩
      unfold gave
      go_wp2
      refine ⟨rfl, HBW.out.trans (HB6.out.mono HBW.out.size), ?_⟩
      rw [HR3.out]
      rfl
    have HR3 : Hid (R = if k = 11 ∨ k = 12 then some (Ty.of 1) else some v) := Lib.hid (by rw [HR2.out, if_pos ⟨hin, hin2⟩])
    rw [decide_eq_true hin2]
    clear hin hin2 HR2
    go_wp2_with fail
    refine (tmust_true _ _ _ rfl).mono ?_
    rintro e w7 ⟨rfl, rfl⟩
    by_cases hk : k = 11 ∨ k = 12
    · have HR4 : Hid (R = some (Ty.of 1)) := Lib.hid (by rw [HR3.out, if_pos hk])
      have HOF := Lib.hid (fun W => of_any 1 W)
      rcases hk with rfl | rfl
      all_goals
        go_wp2_with fail
        refine (HOF.out _).mono ?_
        rintro e w8 ⟨rfl, hb8⟩
        have hB8 := HB6.out.trans (hb8.mono HB6.out.size)
        have hbr := BR.out.below hB8 BR.out.lt
        have r0 := hbr.cell 0; have r1 := hbr.cell 1; have r2 := hbr.cell 2
        have s0 := hbr.frozen 0; have s1 := hbr.frozen 1; have s2 := hbr.frozen 2
        simp at r0 r1 r2
        obtain ⟨WF, hWF⟩ : ∃ WF, WF = ((w8.setCell ⟨A + 1 + 1, 0, none⟩ (.int .i64 1)).setCell ⟨A + 1 + 1, 1, none⟩ (.slice none 0 0)).setCell ⟨A + 1 + 1, 2, none⟩ (.slice none 0 0) := ⟨_, rfl⟩
        have hres := res_stored (u := Ty.of 1) (k4 := none) (k5 := none) (l4 := 0) (l5 := 0) HA.out HPP.out (HBW.out.trans (hB8.mono HBW.out.size)) hbr (of_in 1 (by unfold i64r; decide) _) (of_sep _ _) rfl rfl hWF
        have HRES := Lib.hid hres; have HWF := Lib.hid hWF
        clear hres hWF hbr hB8 hb8
        go_wp2_with fail
        rw [← HWF.out]
        obtain ⟨hF, hJ⟩ := HRES.out
        have f0 := hF.cell 0; have f1 := hF.cell 1; have f2 := hF.cell 2
        simp [Ty.of, Ty.k, Ty.ns, Ty.xs] at f0 f1 f2
        refine bodyPost_ret (v := .agg #[.int .i64 1, .slice none 0 0, .slice none 0 0]) (by simp [results, Tryz.results79, go_sem, f0, f1, f2]) rfl ?_
        rw [HR4.out]
        exact hJ
    · have HR4 : Hid (R = some v) := Lib.hid (by rw [HR3.out, if_neg hk])
      have j11 : (k == 11) = false := by simp; omega
      have j12 : (k == 12) = false := by simp; omega
      have hbt := HT.out.below HB6'.out HT.out.lt
      have g0 := hbt.cell 0; have g1 := hbt.cell 1; have g2 := hbt.cell 2
      have hbr := BR.out.below HB6.out BR.out.lt
      have r0 := hbr.cell 0; have r1 := hbr.cell 1; have r2 := hbr.cell 2
      have s0 := hbr.frozen 0; have s1 := hbr.frozen 1; have s2 := hbr.frozen 2
      simp at g0 g1 g2 r0 r1 r2
      obtain ⟨WF, hWF⟩ : ∃ WF, WF = ((w6.setCell ⟨A + 1 + 1, 0, none⟩ (.int .i64 u.k)).setCell ⟨A + 1 + 1, 1, none⟩ (.slice k4 u.ns.length l4)).setCell ⟨A + 1 + 1, 2, none⟩ (.slice k5 u.xs.length l5) := ⟨_, rfl⟩
      have hres := res_stored (u := u) HA.out HPP.out (HBW.out.trans (HB6.out.mono HBW.out.size)) hbr (HUI.out.below HB6'.out) HUS.out HF4.out HF5.out hWF
      have HRES := Lib.hid hres; have HWF := Lib.hid hWF
      clear hres hWF hbr hbt hk
      go_wp2_with fail
      rw [← HWF.out]
      obtain ⟨hF, hJ⟩ := HRES.out
      have f0 := hF.cell 0; have f1 := hF.cell 1; have f2 := hF.cell 2
      simp at f0 f1 f2
      refine bodyPost_ret (v := .agg #[.int .i64 u.k, .slice k4 u.ns.length l4, .slice k5 u.xs.length l5]) (by simp [results, Tryz.results79, go_sem, f0, f1, f2]) rfl ?_
      rw [HR4.out, ← HUE.out]
      exact hJ
end Go.Proofs.YtjpdbhhjlnmacaaGreat
