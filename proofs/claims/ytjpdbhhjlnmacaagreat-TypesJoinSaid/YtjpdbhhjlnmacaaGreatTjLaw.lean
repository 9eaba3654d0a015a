/- Any two types join to what the document says, or not; they are the same, and stand for one another, just as it says. No conditions. -/
import Derived.Test.YtjpdbhhjlnmacaaGreatTjM51
import Derived.Test.YtjpdbhhjlnmacaaGreatTjM18
import Derived.Test.YtjpdbhhjlnmacaaGreatTjM53
import Derived.Test.YtjpdbhhjlnmacaaGreatTjM19
import Derived.Deep.RegionHeld3
namespace Go.Proofs.YtjpdbhhjlnmacaaGreat.typesJoin
set_option linter.unusedVariables false
open Go.RowKit Go.ChangeShapes Go.WideShapes

/-- What a join answers, all three ways at once. -/
def Ans (a b T : Ty) (k : Int) : Prop :=
  (k = 2 ∧ (a.RightB && b.RightB) = false ∧ T.erase = Ty.zero) ∨ (k = 6 ∧ (a.RightB && b.RightB) = true ∧ a.joinT b = none ∧ T.erase = Ty.zero) ∨ (k = 0 ∧ (a.RightB && b.RightB) = true ∧ ∃ v, a.joinT b = some v ∧ T.erase = v)
theorem joined (a b : Ty) (w : World) (ha : a.In w) (hb : b.In w) :
    Calls Tryz.prog 17 #[a.agg, b.agg] w fun e w' => ∃ T k, e = .returned (.tuple #[Ty.agg T, .int .i64 k]) ∧ T.In w' ∧ Ans a b T k ∧ Below w.heap.size w w' := by
  refine (joinf_any a b (fun b => b < w.heap.size) w (fun b h => h) ha hb ha.sep hb.sep).mono ?_
  rintro e w' ⟨hb', hr⟩
  unfold Ty.joinF at hr
  cases h1 : (a.RightB && b.RightB) with
  | false =>
    rw [h1] at hr
    simp only [cond_false] at hr
    exact ⟨Ty.zero, 2, hr, tzero_in _, .inl ⟨rfl, h1, rfl⟩, hb'⟩
  | true =>
    rw [h1] at hr
    simp only [cond_true] at hr
    cases h2 : a.joinT b with
    | none =>
      rw [h2] at hr
      exact ⟨Ty.zero, 6, hr, tzero_in _, .inr (.inl ⟨rfl, h1, h2, rfl⟩), hb'⟩
    | some v =>
      rw [h2] at hr
      obtain ⟨u, he, hue, hui, hus⟩ := hr
      exact ⟨u, 0, he, hui, .inr (.inr ⟨rfl, h1, v, h2, hue⟩), hb'⟩

set_option maxHeartbeats 8000000 in
set_option maxRecDepth 100000 in
theorem law_any (a b : Ty) (w : World) (ha : a.In w) (hb : b.In w) : Calls Tryz.prog 5 #[a.agg, b.agg] w fun e w' => TrueBelow w e w' := by
  obtain ⟨W, hW⟩ : ∃ W, W = (w.alloc (.cells #[.int .i64 a.k, a.na.val a.ns.length, a.xa.val a.xs.length] 36)).alloc (.cells #[.int .i64 b.k, b.na.val b.ns.length, b.xa.val b.xs.length] 36) := ⟨_, rfl⟩
  have hBW : Below w.heap.size w W := by rw [hW]; exact ((Below.refl _ w).alloc (Nat.le_refl _) _).alloc (by simp) _
  have ba : Blk W w.heap.size 36 #[.int .i64 a.k, a.na.val a.ns.length, a.xa.val a.xs.length] := by rw [hW]; exact (Blk.new w 36 _).alloc _
  have bb : Blk W (w.heap.size + 1) 36 #[.int .i64 b.k, b.na.val b.ns.length, b.xa.val b.xs.length] := by
    rw [hW]
    have := Blk.new (w.alloc (.cells #[.int .i64 a.k, a.na.val a.ns.length, a.xa.val a.xs.length] 36)) 36 #[.int .i64 b.k, b.na.val b.ns.length, b.xa.val b.xs.length]
    rw [show (w.alloc (.cells #[.int .i64 a.k, a.na.val a.ns.length, a.xa.val a.xs.length] 36)).heap.size = w.heap.size + 1 from by simp] at this
    exact this
  have hIa := ha.below hBW; have hIb := hb.below hBW
  have HAW := Lib.hid awake09_any
  have hsa := fun (W' : World) (h : Below W.heap.size W W') => tsmall_any a W' (hIa.below h)
  have hsb := fun (W' : World) (h : Below W.heap.size W W') => tsmall_any b W' (hIb.below h)
  have hjf := fun (W' : World) (h : Below W.heap.size W W') => joined a b W' (hIa.below h) (hIb.below h)
  have hsm := fun (W' : World) (h : Below W.heap.size W W') => tsame_any a.sz a b W' (Nat.le_refl _) (hIa.below h) (hIb.below h)
  have hst := fun (W' : World) (h : Below W.heap.size W W') => samet_any a.sz a b W' (Nat.le_refl _) (hIa.below h) (hIb.below h)
  have his := fun (W' : World) (h : Below W.heap.size W W') => is_any a b W' (hIa.below h) (hIb.below h)
  have hri := fun (W' : World) (h : Below W.heap.size W W') => ris_any a b W' (hIa.below h) (hIb.below h)
  have hra := fun (W' : World) (h : Below W.heap.size W W') => rtrightf_any a W' (hIa.below h)
  have hrb := fun (W' : World) (h : Below W.heap.size W W') => rtrightf_any b W' (hIb.below h)
  have hrj := fun (W' : World) (h : Below W.heap.size W W') (h1 : a.RightB = true) (h2 : b.RightB = true) => rjoin_any a.sz a b (fun b => b < w.heap.size) W' (Nat.le_refl _) (fun b hb => Nat.lt_of_lt_of_le hb (Nat.le_trans hBW.size h.size)) (hIa.below h) (hIb.below h) (RightB.some h1) (RightB.some h2) ha.sep hb.sep
  obtain ⟨p4, q4, e4⟩ := ha.nslice
  obtain ⟨p5, q5, e5⟩ := ha.xslice
  obtain ⟨r4, t4, g4⟩ := hb.nslice
  obtain ⟨r5, t5, g5⟩ := hb.xslice
  obtain ⟨A, hA⟩ : ∃ A, A = w.heap.size := ⟨_, rfl⟩
  rw [← hA] at ba bb
  rw [e4, e5] at ba
  rw [g4, g5] at bb
  rw [e4, e5, g4, g5] at hW
  have hbag : b.agg = .agg #[.int .i64 b.k, .slice r4 b.ns.length t4, .slice r5 b.xs.length t5] := by unfold Ty.agg; rw [g4, g5]
  have haag : a.agg = .agg #[.int .i64 a.k, .slice p4 a.ns.length q4, .slice p5 a.xs.length q5] := by unfold Ty.agg; rw [e4, e5]
  rw [haag] at hsa hjf hsm hst his hri hra hrj ⊢
  rw [hbag] at hsb hjf hsm hst his hri hrb hrj ⊢
  have cells : ∀ W', Below W.heap.size W W' → W'.cell? ⟨A, 0, none⟩ = some (.int .i64 a.k) ∧ W'.cell? ⟨A, 1, none⟩ = some (.slice p4 a.ns.length q4) ∧ W'.cell? ⟨A, 2, none⟩ = some (.slice p5 a.xs.length q5) ∧ W'.cell? ⟨A + 1, 0, none⟩ = some (.int .i64 b.k) ∧ W'.cell? ⟨A + 1, 1, none⟩ = some (.slice r4 b.ns.length t4) ∧ W'.cell? ⟨A + 1, 2, none⟩ = some (.slice r5 b.xs.length t5) := fun W' h =>
    ⟨(ba.below h ba.lt).cell 0, (ba.below h ba.lt).cell 1, (ba.below h ba.lt).cell 2, (bb.below h bb.lt).cell 0, (bb.below h bb.lt).cell 1, (bb.below h bb.lt).cell 2⟩
  obtain ⟨SB, hSB⟩ : ∃ SB, SB = a.sameB b := ⟨_, rfl⟩
  obtain ⟨IB, hIB⟩ : ∃ IB, IB = a.isB b := ⟨_, rfl⟩
  rw [← hSB] at hsm hst
  rw [← hIB] at his hri
  obtain ⟨SA, hSA⟩ : ∃ SA, SA = a.smallB := ⟨_, rfl⟩
  obtain ⟨S2, hS2⟩ : ∃ S2, S2 = b.smallB := ⟨_, rfl⟩
  rw [← hSA] at hsa
  rw [← hS2] at hsb
  have HW := Lib.hid hW; have HA := Lib.hid hA; have HBW := Lib.hid hBW; have HC := Lib.hid cells; have HSA := Lib.hid hsa; have HSB := Lib.hid hsb; have HJF := Lib.hid hjf; have HSM := Lib.hid hsm; have HST := Lib.hid hst; have HIS := Lib.hid his; have HRI := Lib.hid hri; have HRA := Lib.hid hra; have HRB := Lib.hid hrb; have HRJ := Lib.hid hrj
  clear hW hA hBW ba bb hIa hIb hsa hsb hjf hsm hst his hri hra hrb hrj cells hSB hIB hSA hS2 haag hbag e4 e5 g4 g5 ha hb
  go_enter Tryz.func5, Tryz.ntmps5
  go_wp2_with fail
  rw [← HW.out, ← HA.out]
  refine (HAW.out _).mono ?_
  rintro e w1 ⟨rfl, hb1⟩
  have B1 := Lib.hid hb1
  obtain ⟨a0, a1, a2, b0, b1, b2⟩ := HC.out _ hb1
  clear hb1
  go_wp2_with fail
  refine (HSA.out _ B1.out).mono ?_
  rintro e w2 ⟨rfl, hb2⟩
  have B2 := Lib.hid (B1.out.trans (hb2.mono B1.out.size))
  clear hb2 a0 a1 a2 b0 b1 b2
  cases SA with
  | false =>
    go_wp2_with fail
    refine (HAW.out _).mono ?_
    rintro e w3 ⟨rfl, hb3⟩
    have B3 := Lib.hid (HBW.out.trans ((B2.out.trans (hb3.mono B2.out.size)).mono HBW.out.size))
    clear hb3
    go_wp2_with fail
    go_ret
    exact ⟨rfl, B3.out⟩
  | true =>
  obtain ⟨a0, a1, a2, b0, b1, b2⟩ := HC.out _ B2.out
  go_wp2_with fail
  refine (HSB.out _ B2.out).mono ?_
  rintro e w3 ⟨rfl, hb3⟩
  have B3 := Lib.hid (B2.out.trans (hb3.mono B2.out.size))
  clear hb3 a0 a1 a2 b0 b1 b2
  cases S2 with
  | false =>
    go_wp2_with fail
    refine (HAW.out _).mono ?_
    rintro e w4 ⟨rfl, hb4⟩
    have B4 := Lib.hid (HBW.out.trans ((B3.out.trans (hb4.mono B3.out.size)).mono HBW.out.size))
    clear hb4
    go_wp2_with fail
    go_ret
    exact ⟨rfl, B4.out⟩
  | true =>
  obtain ⟨a0, a1, a2, b0, b1, b2⟩ := HC.out _ B3.out
  go_wp2_with fail
  refine (HJF.out _ B3.out).mono ?_
  rintro e w4 ⟨T, k, rfl, hti, hans, hb4⟩
  obtain ⟨k4, l4, f4⟩ := hti.nslice
  obtain ⟨k5, l5, f5⟩ := hti.xslice
  obtain ⟨W4, hW4⟩ : ∃ W4, W4 = w4.alloc (.cells #[.int .i64 T.k, .slice k4 T.ns.length l4, .slice k5 T.xs.length l5] 36) := ⟨_, rfl⟩
  obtain ⟨Q, hQ⟩ : ∃ Q, Q = w4.heap.size := ⟨_, rfl⟩
  have hx4 : Below w4.heap.size w4 W4 := by rw [hW4]; exact (Below.refl _ _).alloc (Nat.le_refl _) _
  have hB4 : Below W.heap.size W W4 := B3.out.trans ((hb4.trans (hx4.mono hb4.size)).mono B3.out.size)
  have bt : Blk W4 Q 36 #[.int .i64 T.k, .slice k4 T.ns.length l4, .slice k5 T.xs.length l5] := by rw [hW4, hQ]; exact Blk.new w4 36 _
  have tcells : ∀ W', Below W4.heap.size W4 W' → W'.cell? ⟨Q, 0, none⟩ = some (.int .i64 T.k) ∧ W'.cell? ⟨Q, 1, none⟩ = some (.slice k4 T.ns.length l4) ∧ W'.cell? ⟨Q, 2, none⟩ = some (.slice k5 T.xs.length l5) := fun W' h =>
    ⟨(bt.below h bt.lt).cell 0, (bt.below h bt.lt).cell 1, (bt.below h bt.lt).cell 2⟩
  have hti4 := hti.below hx4
  have htag : T.agg = .agg #[.int .i64 T.k, .slice k4 T.ns.length l4, .slice k5 T.xs.length l5] := by unfold Ty.agg; rw [f4, f5]
  have htz := fun (W' : World) (h : Below W4.heap.size W4 W') (he : T.erase = Ty.zero) => samet_true T Ty.zero W' (hti4.below h) (tzero_in _) (by rw [he]; rfl)
  have htu := fun (u : Ty) (W' : World) (h : Below W4.heap.size W4 W') (hu : u.In W') (he : T.erase = u.erase) => samet_true T u W' (hti4.below h) hu he
  rw [htag] at htz htu ⊢
  rw [show Ty.zero.agg = .agg #[.int .i64 0, .slice none 0 0, .slice none 0 0] from rfl] at htz
  have HTC := Lib.hid tcells; have HANS := Lib.hid hans; have HTZ := Lib.hid htz; have HTU := Lib.hid htu; have HW4 := Lib.hid hW4; have HQ := Lib.hid hQ; have B4 := Lib.hid hB4
  clear hti hans hb4 f4 f5 hW4 hQ hx4 hB4 bt tcells hti4 htag htz htu a0 a1 a2 b0 b1 b2
  go_upto_region 4 with fail
  rw [← HW4.out, ← HQ.out]
  have HS0 := Lib.hid (HC.out W4.drew B4.out.drew)
  go_region_held3 (fun X => X.cell? ⟨A, 0, none⟩ = some (.int .i64 a.k) ∧ X.cell? ⟨A, 1, none⟩ = some (.slice p4 a.ns.length q4) ∧ X.cell? ⟨A, 2, none⟩ = some (.slice p5 a.xs.length q5) ∧ X.cell? ⟨A + 1, 0, none⟩ = some (.int .i64 b.k) ∧ X.cell? ⟨A + 1, 1, none⟩ = some (.slice r4 b.ns.length t4) ∧ X.cell? ⟨A + 1, 2, none⟩ = some (.slice r5 b.xs.length t5)) (first | with_reducible exact HS0.out | with_reducible exact HS1.out | with_reducible exact HS2.out | with_reducible exact HS3.out | with_reducible exact HS4.out | fail)
    (first
    | (go_at_call 15; refine (HSM.out _ B4.out.drew).mono ?_; rintro e w5 ⟨rfl, hb5⟩;
       have D5 := Lib.hid (B4.out.drew.trans (hb5.mono B4.out.size)); have E5 := Lib.hid ((Below.refl W4.heap.size W4).drew.trans hb5); have HS1 := Lib.hid (HC.out w5 D5.out); clear hb5)
    | (go_at_call 13; refine (HST.out _ D5.out).mono ?_; rintro e w6 ⟨rfl, hb6⟩;
       have D6 := Lib.hid (D5.out.trans (hb6.mono D5.out.size)); have E6 := Lib.hid (E5.out.trans (hb6.mono E5.out.size)); have HS2 := Lib.hid (HC.out w6 D6.out); clear hb6)
    | (go_at_call 18; refine (HIS.out _ D6.out).mono ?_; rintro e w7 ⟨rfl, hb7⟩;
       have D7 := Lib.hid (D6.out.trans (hb7.mono D6.out.size)); have E7 := Lib.hid (E6.out.trans (hb7.mono E6.out.size)); have HS3 := Lib.hid (HC.out w7 D7.out); clear hb7)
    | (go_at_call 19; refine (HRI.out _ D7.out).mono ?_; rintro e w8 ⟨rfl, hb8⟩;
       have D8 := Lib.hid (D7.out.trans (hb8.mono D7.out.size)); have E8 := Lib.hid (E7.out.trans (hb8.mono E7.out.size)); have HS4 := Lib.hid (HC.out w8 D8.out); clear hb8)
    | fail)
  obtain ⟨a0, a1, a2, b0, b1, b2⟩ := HC.out _ D8.out
  obtain ⟨t0, t1, t2⟩ := HTC.out _ E8.out
  clear HS0 HS1 HS2 HS3 HS4 HSM HST HIS HRI
  have HRA2 := Lib.hid (fun (r : Bool) (h : a.RightB = r) (W' : World) (hw : Below W.heap.size W W') => by have := HRA.out W' hw; rw [h] at this; exact this)
  have HRB2 := Lib.hid (fun (r : Bool) (h : b.RightB = r) (W' : World) (hw : Below W.heap.size W W') => by have := HRB.out W' hw; rw [h] at this; exact this)
  have HRJ2 := Lib.hid (fun (r : Option Ty) (h : a.joinT b = r) (h1 : a.RightB = true) (h2 : b.RightB = true) (W' : World) (hw : Below W.heap.size W W') => by have := HRJ.out W' hw h1 h2; rw [h] at this; exact this)
  clear HRA HRB HRJ
  rcases HANS.out with ⟨rfl, hnr, htz⟩ | ⟨rfl, hr, hj, htz⟩ | ⟨rfl, hr, v, hj, htv⟩
  · have HTZ2 := Lib.hid htz
    have hcs : a.RightB = false ∨ (a.RightB = true ∧ b.RightB = false) := by
      cases h1 : a.RightB with
      | false => exact .inl rfl
      | true => rw [h1] at hnr; exact .inr ⟨rfl, by simpa using hnr⟩
    clear hnr htz
    rcases hcs with h1 | ⟨h1, h2⟩
    · have HX := Lib.hid (HRA2.out _ h1)
      clear h1
      go_wp2_with fail
      refine (HX.out _ D8.out).mono ?_
      rintro e w9 ⟨rfl, hb9⟩
      have D9 := Lib.hid (D8.out.trans (hb9.mono D8.out.size)); have E9 := Lib.hid (E8.out.trans (hb9.mono E8.out.size))
      clear hb9 t0 t1 t2 a0 a1 a2 b0 b1 b2
      obtain ⟨t0, t1, t2⟩ := HTC.out _ E9.out
      go_wp2_with fail
      refine (HTZ.out _ E9.out HTZ2.out).mono ?_
      rintro e w10 ⟨rfl, hb10⟩
      have D10 := Lib.hid (HBW.out.trans ((D9.out.trans (hb10.mono D9.out.size)).mono HBW.out.size))
      clear hb10
      go_wp2
      go_ret
      exact ⟨rfl, D10.out⟩
    · have HX := Lib.hid (HRA2.out _ h1)
      have HY := Lib.hid (HRB2.out _ h2)
      clear h1 h2
      go_wp2_with fail
      refine (HX.out _ D8.out).mono ?_
      rintro e w9 ⟨rfl, hb9⟩
      have D9 := Lib.hid (D8.out.trans (hb9.mono D8.out.size)); have E9 := Lib.hid (E8.out.trans (hb9.mono E8.out.size))
      clear hb9 t0 t1 t2 a0 a1 a2 b0 b1 b2
      obtain ⟨a0, a1, a2, b0, b1, b2⟩ := HC.out _ D9.out
      go_wp2_with fail
      refine (HY.out _ D9.out).mono ?_
      rintro e w11 ⟨rfl, hb11⟩
      have D11 := Lib.hid (D9.out.trans (hb11.mono D9.out.size)); have E11 := Lib.hid (E9.out.trans (hb11.mono E9.out.size))
      clear hb11 a0 a1 a2 b0 b1 b2
      obtain ⟨t0, t1, t2⟩ := HTC.out _ E11.out
      go_wp2_with fail
      refine (HTZ.out _ E11.out HTZ2.out).mono ?_
      rintro e w10 ⟨rfl, hb10⟩
      have D10 := Lib.hid (HBW.out.trans ((D11.out.trans (hb10.mono D11.out.size)).mono HBW.out.size))
      clear hb10
      go_wp2
      go_ret
      exact ⟨rfl, D10.out⟩
  all_goals
    rw [Bool.and_eq_true] at hr
    obtain ⟨h1, h2⟩ := hr
    have HX := Lib.hid (HRA2.out _ h1)
    have HY := Lib.hid (HRB2.out _ h2)
    have HZ := Lib.hid (HRJ2.out _ hj h1 h2)
  case' inr.inl => have HTZ2 := Lib.hid htz; clear htz
  case' inr.inr => have HTV := Lib.hid htv; clear htv
  all_goals
    clear h1 h2 hj
    go_wp2_with fail
    refine (HX.out _ D8.out).mono ?_
    rintro e w9 ⟨rfl, hb9⟩
    have D9 := Lib.hid (D8.out.trans (hb9.mono D8.out.size)); have E9 := Lib.hid (E8.out.trans (hb9.mono E8.out.size))
    clear hb9 t0 t1 t2 a0 a1 a2 b0 b1 b2
    obtain ⟨a0, a1, a2, b0, b1, b2⟩ := HC.out _ D9.out
    go_wp2_with fail
    refine (HY.out _ D9.out).mono ?_
    rintro e w11 ⟨rfl, hb11⟩
    have D11 := Lib.hid (D9.out.trans (hb11.mono D9.out.size)); have E11 := Lib.hid (E9.out.trans (hb11.mono E9.out.size))
    clear hb11 a0 a1 a2 b0 b1 b2
    obtain ⟨a0, a1, a2, b0, b1, b2⟩ := HC.out _ D11.out
    go_wp2_with fail
    refine (HZ.out _ D11.out).mono ?_
    rintro e w12 ⟨hb12, u, rfl, hui, hus, hue⟩
    obtain ⟨m4, n4, f4⟩ := hui.nslice
    obtain ⟨m5, n5, f5⟩ := hui.xslice
    obtain ⟨W12, hW12⟩ : ∃ W12, W12 = w12.alloc (.cells #[.int .i64 u.k, .slice m4 u.ns.length n4, .slice m5 u.xs.length n5] 36) := ⟨_, rfl⟩
    obtain ⟨U, hU⟩ : ∃ U, U = w12.heap.size := ⟨_, rfl⟩
    have hx12 : Below w12.heap.size w12 W12 := by rw [hW12]; exact (Below.refl _ _).alloc (Nat.le_refl _) _
    have hl12 := hb12.trans (hx12.mono hb12.size)
    have D12 := Lib.hid (D11.out.trans (hl12.mono D11.out.size)); have E12 := Lib.hid (E11.out.trans (hl12.mono E11.out.size))
    have bu : Blk W12 U 36 #[.int .i64 u.k, .slice m4 u.ns.length n4, .slice m5 u.xs.length n5] := by rw [hW12, hU]; exact Blk.new w12 36 _
    have hu12 := hui.below hx12
    have huag : u.agg = .agg #[.int .i64 u.k, .slice m4 u.ns.length n4, .slice m5 u.xs.length n5] := by unfold Ty.agg; rw [f4, f5]
    rw [huag]
    have u0 := bu.cell 0; have u1 := bu.cell 1; have u2 := bu.cell 2
    simp at u0 u1 u2
    have HW12 := Lib.hid hW12; have HU := Lib.hid hU
    clear a0 a1 a2 b0 b1 b2 f4 f5 hW12 hU hx12 hl12 hb12 bu hui hus
    obtain ⟨t0, t1, t2⟩ := HTC.out _ E12.out
  · have hfin := HTU.out u W12 E12.out hu12 (by rw [HTV.out, hue]; rfl)
    rw [huag] at hfin
    have HFIN := Lib.hid hfin
    clear hue hu12 huag hfin
    go_upto_region 9 with fail
    rw [← HW12.out, ← HU.out]
    go_wp2_with fail
    refine HFIN.out.mono ?_
    rintro e w10 ⟨rfl, hb10⟩
    have D10 := Lib.hid (HBW.out.trans ((D12.out.trans (hb10.mono D12.out.size)).mono HBW.out.size))
    clear hb10
    go_wp2
    go_ret
    exact ⟨rfl, D10.out⟩
  · clear hue hu12 huag
    go_upto_region 9 with fail
    rw [← HW12.out, ← HU.out]
    go_wp2_with fail
    refine (HTZ.out _ E12.out HTZ2.out).mono ?_
    rintro e w10 ⟨rfl, hb10⟩
    have D10 := Lib.hid (HBW.out.trans ((D12.out.trans (hb10.mono D12.out.size)).mono HBW.out.size))
    clear hb10
    go_wp2
    go_ret
    exact ⟨rfl, D10.out⟩

set_option maxRecDepth 100000 in
theorem walk {H : Type} {enc : TypeId × Value → H} {W : World} {base : Nat} {args : Array Value} {ds : List (DataW H)} {ps : List MemPlace}
    (h : Handed enc Tryz.prog W base Tryz.f5.params.toList args ds ps) : Calls Tryz.prog 5 args W fun e w' => TrueBelow W e w' := by
  rw [Tryz.params5] at h
  have hval := h.val
  obtain ⟨v0, vs0, d0, ds0, p0, q0, hargs, rfl, rfl, h0, r0⟩ := trodAll_cons h.trod
  obtain ⟨v1, vs1, d1, ds1, p1, q1, rfl, rfl, rfl, h1, r1⟩ := trodAll_cons r0
  obtain ⟨rfl, rfl, rfl⟩ := trodAll_nil r1
  obtain rfl : args = #[v0, v1] := by cases args; simp_all
  have hv0 := hval 0 36 v0 rfl rfl
  unfold Value.okWide at hv0
  rw [Tryz.underlying36] at hv0
  obtain ⟨cs0, he0, _⟩ := hv0
  have hv1 := hval 1 36 v1 rfl rfl
  unfold Value.okWide at hv1
  rw [Tryz.underlying36] at hv1
  obtain ⟨cs1, he1, _⟩ := hv1
  obtain ⟨a, rfl, ha⟩ := arg_ty he0 h0 0 h.fits rfl rfl
  obtain ⟨b, rfl, hb⟩ := arg_ty he1 h1 1 h.fits rfl rfl
  exact law_any a b W ha hb


set_option maxRecDepth 100000 in
theorem lifted (os : Os) (started : os.Started) (H : Type) (enc : TypeId × Value → H) :
    ReturnsInHanded {} Tryz.checked os 5 .any (Rows.typesJoinSpec.pre6 enc Tryz.prog Tryz.f5 Rows.typesJoinRow.domain false) (Rows.typesJoinSpec.post enc Tryz.prog Tryz.f5 false true false false) := by
  refine returnsInHanded_of_change_sized (C := Tryz.checked) own started (by kernel_rfl) Tryz.func5
    (ChangeSpec.witness6 (enc := enc) (C := Tryz.checked) false ⟨#[], #[.agg #[.int .i64 0, .slice none 0 0, .slice none 0 0], .agg #[.int .i64 0, .slice none 0 0, .slice none 0 0]], []⟩ 8 (by kernel_rfl) (by kernel_rfl) (by kernel_rfl) (by kernel_rfl)) ?_
  intro W base args ds gs before hval hW _ hsz _
  refine (walk (handed_of hval hW rfl rfl hsz)).mono fun e W' ⟨he, hb⟩ => ?_
  subst he
  exact ⟨_, rfl, law_post hW rfl laidOut (by kernel_rfl) rfl Tryz.underlying4 (fun ds' h => by match ds', h with | [_, _], _ => rfl) hb⟩

theorem over : Rows.typesJoinRow.holds Tryz.pinned (OpenSpec.ofChange Rows.typesJoinSpec) :=
  OpenClaim.holds_of_wide 5 Tryz.f5 rfl rfl rfl rfl rfl rfl rfl ⟨rfl, rfl, rfl, rfl, rfl⟩ rfl rfl rfl rfl rfl (by kernel_rfl) Tryz.func5 (by kernel_rfl)
    (of_decide_eq_true (by kernel_rfl)) (by unfold Func.isWrapper; first | (rw [if_pos (by decide +kernel)]; kernel_rfl) | (rw [if_neg (by decide +kernel)]; exact ⟨rfl, rfl⟩))
    (fun os started H enc _ => lifted os started H enc)

theorem proved : Rows.TypesJoinSaid :=
  over
#print axioms proved
end Go.Proofs.YtjpdbhhjlnmacaaGreat.typesJoin
