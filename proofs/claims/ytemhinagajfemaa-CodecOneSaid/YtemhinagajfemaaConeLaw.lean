/- Each thing has just one way: what is read, and written again, gives the bytes that it was read from. No conditions. -/
import Derived.Test.YtemhinagajfemaaConeM49
import Derived.Test.YtemhinagajfemaaConeM51
import Derived.Test.YtemhinagajfemaaConeM45
import Derived.Test.YtemhinagajfemaaConeM52
import Derived.Test.YtemhinagajfemaaConeM50
import Derived.Test.YtemhinagajfemaaConeM53
import Derived.Deep.DeepCutAuto
import Derived.BigQuiet
namespace Go.Proofs.Ytemhinagajfemaa.codecOne
set_option linter.unusedVariables false
open Go.RowKit Go.ChangeShapes Go.WideShapes
open Go.ChangeMaps (open_string shut_string)

theorem ext_of {s : ByteArray} {q : Nat} {l : List UInt8} (h : sl s 0 q = l) : (⟨l.toArray⟩ : ByteArray) = s.extract 0 q := by
  apply ByteArray.ext
  apply Array.ext'
  rw [ByteArray.data_extract, Array.toList_extract, List.extract_eq_take_drop, ← h]
  rfl
def Ans (s : ByteArray) (q : Nat) (k : Int) (P : Prop) : Prop := (k = 0 ∧ q ≤ s.size ∧ P) ∨ (k == 0) = false
theorem uint_ans (s : ByteArray) (hs : s.size ≤ 100000) : ∃ (n q : Nat) (k : Int), n < 18446744073709551616 ∧ Ans s q k (uintS n = s.extract 0 q) ∧
    ∀ W, Calls Try.prog 14 #[.string s, .int .i64 0] W fun e w' => e = .returned (.tuple #[.int .u64 n, .int .i64 q, .int .i64 k]) ∧ Below W.heap.size W w' := by
  cases hu : readU s 0 0 0 with
  | error k =>
    refine ⟨0, 0, k, by omega, .inr (by rcases readU_err2 s 0 0 0 k hu with rfl | rfl <;> rfl), fun W => ?_⟩
    have := readuint_any s 0 W hs (Nat.zero_le _)
    rw [hu] at this
    exact this.mono fun e w' ⟨h1, h2⟩ => ⟨h2, h1⟩
  | ok x =>
    obtain ⟨n, q⟩ := x
    have hl := readU_lt s 0 0 0 (by decide) (by omega) n q hu
    refine ⟨n, q, 0, hl.1, .inl ⟨rfl, hl.2.2, ext_of (readU_ub hu)⟩, fun W => ?_⟩
    have := readuint_any s 0 W hs (Nat.zero_le _)
    rw [hu] at this
    exact this.mono fun e w' ⟨h1, h2⟩ => ⟨h2, h1⟩
theorem int_ans (s : ByteArray) (hs : s.size ≤ 100000) : ∃ (n : Int) (q : Nat) (k : Int), i64r n ∧ Ans s q k (intS n = s.extract 0 q) ∧
    ∀ W, Calls Try.prog 15 #[.string s, .int .i64 0] W fun e w' => e = .returned (.tuple #[.int .i64 n, .int .i64 q, .int .i64 k]) ∧ Below W.heap.size W w' := by
  cases hu : readU s 0 0 0 with
  | error k =>
    refine ⟨0, 0, k, by unfold i64r; omega, .inr (by rcases readU_err2 s 0 0 0 k hu with rfl | rfl <;> rfl), fun W => ?_⟩
    have := readint_any s 0 W hs (Nat.zero_le _)
    rw [hu] at this
    exact this.mono fun e w' ⟨h1, h2⟩ => ⟨h2, h1⟩
  | ok x =>
    obtain ⟨n, q⟩ := x
    have hl := readU_lt s 0 0 0 (by decide) (by omega) n q hu
    have hl1 := hl.1
    refine ⟨unzig n, q, 0, by unfold i64r unzig; split <;> omega, .inl ⟨rfl, hl.2.2, ?_⟩, fun W => ?_⟩
    · unfold intS
      rw [zig_unzig]
      exact ext_of (readU_ub hu)
    have := readint_any s 0 W hs (Nat.zero_le _)
    rw [hu] at this
    exact this.mono fun e w' ⟨h1, h2⟩ => ⟨h2, h1⟩
theorem readV_ne {s : ByteArray} {p : Nat} {k : Int} (h : readV s p = .error k) : (k == 0) = false := by
  have : Err2 k := by
    unfold readV at h
    cases hu : rdV s 12 p 0 with
    | error k' => rw [hu] at h; injection h with h; subst h; exact rdV_err2 s _ _ _ _ hu
    | ok x =>
      obtain ⟨v, q, m⟩ := x
      rw [hu] at h
      simp only at h
      cases hr : v.RightB with
      | true => rw [hr] at h; cases h
      | false => rw [hr] at h; exact err5 h
  rcases this with rfl | rfl <;> rfl
theorem readV_bytes {s : ByteArray} {p q : Nat} {v : Val} (hp : p ≤ s.size) (h : readV s p = .ok (v, q)) : sl s p q = v.enc := by
  unfold readV at h
  cases hu : rdV s 12 p 0 with
  | error k' => rw [hu] at h; cases h
  | ok x =>
    obtain ⟨v', q', m⟩ := x
    rw [hu] at h
    simp only at h
    cases hr : v'.RightB with
    | false => rw [hr] at h; cases h
    | true =>
      rw [hr] at h
      simp only [cond_true, Except.ok.injEq, Prod.mk.injEq] at h
      obtain ⟨rfl, rfl⟩ := h
      exact rdV_sl s 12 p 0 _ _ m hp (by omega) hu
theorem val_ans (s : ByteArray) (hs : s.size ≤ 100000) : ∃ (q : Nat) (k : Int), ((k = 0 ∧ q ≤ s.size) ∨ (k == 0) = false) ∧
    ∀ W, Calls Try.prog 43 #[.string s, .int .i64 0] W fun e w' => ∃ u : Val, e = .returned (.tuple #[u.agg, .int .i64 q, .int .i64 k]) ∧ u.In w' ∧ (k = 0 → u.RightB = true ∧ (⟨u.enc.toArray⟩ : ByteArray) = s.extract 0 q) ∧ Below W.heap.size W w' := by
  have hz : readVAt s 0 = readV s 0 := by unfold readVAt; rw [if_pos (by omega)]; rfl
  cases hu : readV s 0 with
  | error k =>
    have hk := readV_ne hu
    refine ⟨0, k, .inr hk, fun W => ?_⟩
    have := readval_any s 0 W hs
    rw [hz, hu] at this
    exact this.mono fun e w' ⟨h1, h2⟩ => ⟨Val.zero, h2, by rw [Val.in_iff]; exact ⟨⟨by unfold i64r; decide, by unfold i64r; decide, by decide, by unfold strok; decide, by decide, by decide, fun s h => by simp [Val.ns] at h⟩, rfl, rfl, fun x hx => by simp [Val.xs] at hx⟩,
      (fun h => by rw [h] at hk; cases hk), h1⟩
  | ok x =>
    obtain ⟨v, q⟩ := x
    have hl := readV_lt (Nat.zero_le _) hu
    have hb := readV_bytes (Nat.zero_le _) hu
    refine ⟨q, 0, .inl ⟨rfl, hl.2.1⟩, fun W => ?_⟩
    have := readval_any s 0 W hs
    rw [hz, hu] at this
    exact this.mono fun e w' ⟨h1, u, h2, h3, h4⟩ => ⟨u, h2, h4, fun _ => ⟨by rw [← Val.RightB_erase, h3]; exact hl.2.2, ext_of (by rw [hb, ← Val.Enc_erase u, h3])⟩, h1⟩
theorem readT_ne {s : ByteArray} {p : Nat} {k : Int} (h : readT s p = .error k) : (k == 0) = false := by
  have : Err2 k := by
    unfold readT at h
    cases hu : rdT s 12 p 0 with
    | error k' => rw [hu] at h; injection h with h; subst h; exact rdT_err2 s _ _ _ _ hu
    | ok x =>
      obtain ⟨v, q, m⟩ := x
      rw [hu] at h
      simp only at h
      cases hr : v.RightB with
      | true => rw [hr] at h; cases h
      | false => rw [hr] at h; exact err5 h
  rcases this with rfl | rfl <;> rfl
theorem readT_bytes {s : ByteArray} {p q : Nat} {v : Ty} (hp : p ≤ s.size) (h : readT s p = .ok (v, q)) : sl s p q = v.enc := by
  unfold readT at h
  cases hu : rdT s 12 p 0 with
  | error k' => rw [hu] at h; cases h
  | ok x =>
    obtain ⟨v', q', m⟩ := x
    rw [hu] at h
    simp only at h
    cases hr : v'.RightB with
    | false => rw [hr] at h; cases h
    | true =>
      rw [hr] at h
      simp only [cond_true, Except.ok.injEq, Prod.mk.injEq] at h
      obtain ⟨rfl, rfl⟩ := h
      exact rdT_sl s 12 p 0 _ _ m hp (by omega) hu
theorem ty_ans (s : ByteArray) (hs : s.size ≤ 100000) : ∃ (q : Nat) (k : Int), ((k = 0 ∧ q ≤ s.size) ∨ (k == 0) = false) ∧
    ∀ W, Calls Try.prog 45 #[.string s, .int .i64 0] W fun e w' => ∃ u : Ty, e = .returned (.tuple #[u.agg, .int .i64 q, .int .i64 k]) ∧ u.In w' ∧ (k = 0 → u.RightB = true ∧ (⟨u.enc.toArray⟩ : ByteArray) = s.extract 0 q) ∧ Below W.heap.size W w' := by
  have hz : readTAt s 0 = readT s 0 := by unfold readTAt; rw [if_pos (by omega)]; rfl
  cases hu : readT s 0 with
  | error k =>
    have hk := readT_ne hu
    refine ⟨0, k, .inr hk, fun W => ?_⟩
    have := readtyp_any s 0 W hs
    rw [hz, hu] at this
    exact this.mono fun e w' ⟨h1, h2⟩ => ⟨Ty.zero, h2, by rw [Ty.in_iff]; exact ⟨⟨by unfold i64r; decide, by decide, by decide, fun s h => by simp [Ty.ns] at h⟩, rfl, rfl, fun x hx => by simp [Ty.xs] at hx⟩,
      (fun h => by rw [h] at hk; cases hk), h1⟩
  | ok x =>
    obtain ⟨v, q⟩ := x
    have hl := readT_lt (Nat.zero_le _) hu
    have hb := readT_bytes (Nat.zero_le _) hu
    refine ⟨q, 0, .inl ⟨rfl, hl.2.1⟩, fun W => ?_⟩
    have := readtyp_any s 0 W hs
    rw [hz, hu] at this
    exact this.mono fun e w' ⟨h1, u, h2, h3, h4⟩ => ⟨u, h2, h4, fun _ => ⟨by rw [← Ty.RightB_erase, h3]; exact hl.2.2, ext_of (by rw [hb, ← Ty.Enc_erase u, h3])⟩, h1⟩

set_option maxHeartbeats 16000000 in
set_option maxRecDepth 100000 in
theorem law_any (s : ByteArray) (w : World) (hz : s.size ≤ 9223372036854775807) : Calls Try.prog 11 #[.string s] w fun e w' => TrueBelow w e w' := by
  by_cases h3 : s.size ≤ 3000
  case neg =>
    have i0 : decide ((3000 : Int) < (s.size : Int)) = true := by simp; omega
    have i0' : decide (3000 < s.size) = true := by simp; omega
    go_enter Try.func11, Try.ntmps11
    go_wp2_with fail
    refine (awake05_any _).mono ?_
    rintro e w1 ⟨rfl, hl⟩
    have B1 := Lib.hid hl
    clear hl
    go_wp2_with fail
    refine (awake05_any _).mono ?_
    rintro e w2 ⟨rfl, hl⟩
    have B2 := Lib.hid (B1.out.trans (hl.mono B1.out.size))
    clear hl
    go_wp2
    go_ret
    exact ⟨rfl, B2.out⟩
  have i0 : decide ((3000 : Int) < (s.size : Int)) = false := by simp; omega
  have i0' : decide (3000 < s.size) = false := by simp; omega
  have hsz : s.size ≤ 100000 := by omega
  obtain ⟨n, q1, k1, hn, ha1, hc1⟩ := uint_ans s hsz
  obtain ⟨z, q2, k2, hzr, ha2, hc2⟩ := int_ans s hsz
  obtain ⟨q3, k3, ha3, hc3⟩ := val_ans s hsz
  obtain ⟨q4, k4, ha4, hc4⟩ := ty_ans s hsz
  have A1 := Lib.hid ha1; have A2 := Lib.hid ha2; have C1 := Lib.hid hc1; have C2 := Lib.hid hc2; have C3 := Lib.hid hc3; have C4 := Lib.hid hc4; have HN := Lib.hid hn; have HZ := Lib.hid hzr
  have A3 := Lib.hid ha3; have A4 := Lib.hid ha4
  clear ha1 ha2 hc1 hc2 hc3 hc4 hn hzr ha3 ha4
  go_enter Try.func11, Try.ntmps11
  go_wp2_with fail
  refine (awake05_any _).mono ?_
  rintro e w1 ⟨rfl, hl⟩
  have B1 := Lib.hid hl
  clear hl
  go_wp2_with fail
  refine (C1.out _).mono ?_
  rintro e w2 ⟨rfl, hl⟩
  have B2 := Lib.hid (B1.out.trans (hl.mono B1.out.size))
  clear hl
  go_upto_region 4 with fail
  go_cut [42] (fun c wx => c = .bool false ∧ Below w.heap.size w wx)
  case first =>
    rcases A1.out with ⟨rfl, hq, he⟩ | hk
    · have HU := Lib.hid (fun W => uint_any n W HN.out)
      rw [he] at HU
      have j1 : (0 : Int) ≤ (q1 : Int) := by omega
      have j2 : (q1 : Int) ≤ (s.size : Int) := by omega
      clear he
      go_region_held3 (fun _ => True) (trivial) (first | (go_at_call 13; refine (HU.out _).mono ?_; rintro e w5 ⟨rfl, hl5⟩))
      all_goals
        have B3 := Lib.hid (B2.out.drew.trans (hl5.mono B2.out.size))
        clear hl5
        go_wp2
        go_meet
        exact ⟨rfl, B3.out⟩
    · go_big_quiet (fail)
      go_wp2
      go_meet
      exact ⟨rfl, Go.Proofs.Ytemhinagajfemaa.below_drewN B2.out _⟩
  case rest =>
  obtain ⟨rfl, hb3⟩ := hcut
  have B3 := Lib.hid hb3
  clear hb3
  go_wp2_with fail
  refine (C2.out _).mono ?_
  rintro e w3 ⟨rfl, hl⟩
  have B4 := Lib.hid (B3.out.trans (hl.mono B3.out.size))
  clear hl
  go_upto_region 7 with fail
  go_cut [58] (fun c wx => c = .bool false ∧ Below w.heap.size w wx)
  case first =>
    rcases A2.out with ⟨rfl, hq, he⟩ | hk
    · have HU := Lib.hid (fun W => int_any z W HZ.out.1 HZ.out.2)
      rw [he] at HU
      have j1 : (0 : Int) ≤ (q2 : Int) := by omega
      have j2 : (q2 : Int) ≤ (s.size : Int) := by omega
      clear he
      go_region_held3 (fun _ => True) (trivial) (first | (go_at_call 39; refine (HU.out _).mono ?_; rintro e w5 ⟨rfl, hl5⟩))
      all_goals
        have B5 := Lib.hid (B4.out.drew.trans (hl5.mono B4.out.size))
        clear hl5
        go_wp2
        go_meet
        exact ⟨rfl, B5.out⟩
    · go_big_quiet (fail)
      go_wp2
      go_meet
      exact ⟨rfl, Go.Proofs.Ytemhinagajfemaa.below_drewN B4.out _⟩
  case rest =>
  obtain ⟨rfl, hb5⟩ := hcut
  have B5 := Lib.hid hb5
  clear hb5
  have hsf := run_store_flt
  go_wp2_with fail
  refine (C3.out _).mono ?_
  rintro e w4 ⟨u, rfl, hui, hur, hl⟩
  have B6 := Lib.hid (B5.out.trans (hl.mono B5.out.size))
  obtain ⟨a4, b4, e4⟩ := hui.nslice
  obtain ⟨a5, b5, e5⟩ := hui.xslice
  have hval := fun (W : World) (hb : Below w4.heap.size w4 W) => value_any u W (hui.below hb)
  obtain ⟨W4, hW4⟩ : ∃ W4, W4 = w4.alloc (.cells u.cells.toArray 46) := ⟨_, rfl⟩
  have hb4 : Below w4.heap.size w4 W4 := by rw [hW4]; exact (Below.refl _ _).alloc (Nat.le_refl _) _
  have hblk : Blk W4 w4.heap.size 46 u.cells.toArray := by rw [hW4]; exact Blk.new w4 46 _
  unfold Val.cells at hW4 hblk
  unfold Val.agg at hval ⊢
  rw [e4, e5] at hval hW4 hblk ⊢
  have HVAL := Lib.hid hval; have HW4 := Lib.hid hW4; have HUR := Lib.hid hur; have HB4 := Lib.hid hb4
  have v0 := hblk.cell 0; have v1 := hblk.cell 1; have v2 := hblk.cell 2; have v3 := hblk.cell 3; have v4 := hblk.cell 4; have v5 := hblk.cell 5
  simp only [List.getElem?_toArray, List.getElem?_cons_zero, List.getElem?_cons_succ] at v0 v1 v2 v3 v4 v5
  have B7 := Lib.hid (B6.out.trans (hb4.mono B6.out.size))
  clear hl hui hval hW4 hur hb4 hblk e4 e5
  go_upto_region 10 with fail
  rw [← HW4.out]
  rcases A3.out with ⟨rfl, hq⟩ | hk
  · obtain ⟨hr, he⟩ := HUR.out rfl
    have HC := Lib.hid (HVAL.out W4 HB4.out)
    rw [hr] at HC
    simp only [ValuedOr, cond_true, he] at HC
    have j1 : (0 : Int) ≤ (q3 : Int) := by omega
    have j2 : (q3 : Int) ≤ (s.size : Int) := by omega
    clear hr he HUR HVAL
    go_wp2_with fail
    refine HC.out.mono ?_
    rintro e w5 ⟨rfl, hl⟩
    have B8 := Lib.hid (B7.out.trans (hl.mono B7.out.size))
    clear hl v0 v1 v2 v3 v4 v5
    have hsf := run_store_flt
    go_wp2_with fail
    refine (C4.out _).mono ?_
    rintro e w6 ⟨t, rfl, hti, htr, hl⟩
    have D6 := Lib.hid (B8.out.trans (hl.mono B8.out.size))
    obtain ⟨r4, t4, f4⟩ := hti.nslice
    obtain ⟨r5, t5, f5⟩ := hti.xslice
    have hty := fun (W : World) (hb : Below w6.heap.size w6 W) => type_any t W (hti.below hb)
    obtain ⟨W6, hW6⟩ : ∃ W6, W6 = w6.alloc (.cells t.cells.toArray 61) := ⟨_, rfl⟩
    have hb6 : Below w6.heap.size w6 W6 := by rw [hW6]; exact (Below.refl _ _).alloc (Nat.le_refl _) _
    have hblk : Blk W6 w6.heap.size 61 t.cells.toArray := by rw [hW6]; exact Blk.new w6 61 _
    unfold Ty.cells at hW6 hblk
    unfold Ty.agg at hty ⊢
    rw [f4, f5] at hty hW6 hblk ⊢
    have HTY := Lib.hid hty; have HW6 := Lib.hid hW6; have HTR := Lib.hid htr; have HB6 := Lib.hid hb6
    have y0 := hblk.cell 0; have y1 := hblk.cell 1; have y2 := hblk.cell 2
    simp only [List.getElem?_toArray, List.getElem?_cons_zero, List.getElem?_cons_succ] at y0 y1 y2
    have D7 := Lib.hid (D6.out.trans (hb6.mono D6.out.size))
    clear hl hti hty hW6 htr hb6 hblk f4 f5
    go_upto_region 15 with fail
    rw [← HW6.out]
    rcases A4.out with ⟨rfl, hq⟩ | hk
    · obtain ⟨hr, he⟩ := HTR.out rfl
      have HC := Lib.hid (HTY.out W6 HB6.out)
      rw [hr] at HC
      simp only [ValuedOr, cond_true, he] at HC
      have j1 : (0 : Int) ≤ (q4 : Int) := by omega
      have j2 : (q4 : Int) ≤ (s.size : Int) := by omega
      clear hr he HTR HTY
      go_wp2_with fail
      refine HC.out.mono ?_
      rintro e w7 ⟨rfl, hl⟩
      have D8 := Lib.hid (D7.out.trans (hl.mono D7.out.size))
      clear hl
      go_wp2
      go_ret
      exact ⟨rfl, D8.out⟩
    · go_wp2
      go_ret
      exact ⟨rfl, D7.out⟩
  · clear v0 v1 v2 v3 v4 v5
    have hsf := run_store_flt
    go_wp2_with fail
    refine (C4.out _).mono ?_
    rintro e w6 ⟨t, rfl, hti, htr, hl⟩
    have D6 := Lib.hid (B7.out.trans (hl.mono B7.out.size))
    obtain ⟨r4, t4, f4⟩ := hti.nslice
    obtain ⟨r5, t5, f5⟩ := hti.xslice
    have hty := fun (W : World) (hb : Below w6.heap.size w6 W) => type_any t W (hti.below hb)
    obtain ⟨W6, hW6⟩ : ∃ W6, W6 = w6.alloc (.cells t.cells.toArray 61) := ⟨_, rfl⟩
    have hb6 : Below w6.heap.size w6 W6 := by rw [hW6]; exact (Below.refl _ _).alloc (Nat.le_refl _) _
    have hblk : Blk W6 w6.heap.size 61 t.cells.toArray := by rw [hW6]; exact Blk.new w6 61 _
    unfold Ty.cells at hW6 hblk
    unfold Ty.agg at hty ⊢
    rw [f4, f5] at hty hW6 hblk ⊢
    have HTY := Lib.hid hty; have HW6 := Lib.hid hW6; have HTR := Lib.hid htr; have HB6 := Lib.hid hb6
    have y0 := hblk.cell 0; have y1 := hblk.cell 1; have y2 := hblk.cell 2
    simp only [List.getElem?_toArray, List.getElem?_cons_zero, List.getElem?_cons_succ] at y0 y1 y2
    have D7 := Lib.hid (D6.out.trans (hb6.mono D6.out.size))
    clear hl hti hty hW6 htr hb6 hblk f4 f5
    go_upto_region 15 with fail
    rw [← HW6.out]
    rcases A4.out with ⟨rfl, hq⟩ | hk
    · obtain ⟨hr, he⟩ := HTR.out rfl
      have HC := Lib.hid (HTY.out W6 HB6.out)
      rw [hr] at HC
      simp only [ValuedOr, cond_true, he] at HC
      have j1 : (0 : Int) ≤ (q4 : Int) := by omega
      have j2 : (q4 : Int) ≤ (s.size : Int) := by omega
      clear hr he HTR HTY
      go_wp2_with fail
      refine HC.out.mono ?_
      rintro e w7 ⟨rfl, hl⟩
      have D8 := Lib.hid (D7.out.trans (hl.mono D7.out.size))
      clear hl
      go_wp2
      go_ret
      exact ⟨rfl, D8.out⟩
    · go_wp2
      go_ret
      exact ⟨rfl, D7.out⟩

set_option maxRecDepth 100000 in
theorem walk {H : Type} {enc : TypeId × Value → H} {W : World} {base : Nat} {args : Array Value} {ds : List (DataW H)} {ps : List MemPlace}
    (h : Handed enc Try.prog W base Try.f11.params.toList args ds ps) : Calls Try.prog 11 args W fun e w' => TrueBelow W e w' := by
  rw [Try.params11] at h
  have hval := h.val
  obtain ⟨v0, vs0, d0, ds0, p0, q0, hargs, rfl, rfl, h0, r0⟩ := trodAll_cons h.trod
  obtain ⟨rfl, rfl, rfl⟩ := trodAll_nil r0
  obtain rfl : args = #[v0] := by cases args; simp_all
  obtain ⟨s, rfl, rfl, rfl, ws⟩ := open_string Try.underlying9 (hval 0 9 v0 rfl rfl) h0
  exact law_any s W (by unfold maxLen at ws; omega)


set_option maxRecDepth 100000 in
theorem lifted (os : Os) (started : os.Started) (H : Type) (enc : TypeId × Value → H) :
    ReturnsInHanded {} Try.checked os 11 .any (Rows.codecOneSpec.pre6 enc Try.prog Try.f11 Rows.codecOneRow.domain false) (Rows.codecOneSpec.post enc Try.prog Try.f11 false true false false) := by
  refine returnsInHanded_of_change_sized (C := Try.checked) own started (by kernel_rfl) Try.func11
    (ChangeSpec.witness6 (enc := enc) (C := Try.checked) false ⟨#[], #[.string ByteArray.empty], []⟩ 8 (by kernel_rfl) (by kernel_rfl) (by kernel_rfl) (by kernel_rfl)) ?_
  intro W base args ds gs before hval hW _ hsz _
  refine (walk (handed_of hval hW rfl rfl hsz)).mono fun e W' ⟨he, hb⟩ => ?_
  subst he
  exact ⟨_, rfl, law_post hW rfl laidOut (by kernel_rfl) rfl Try.underlying4 (fun ds' h => by match ds', h with | [_], _ => rfl) hb⟩

theorem over : Rows.codecOneRow.holds Try.pinned (OpenSpec.ofChange Rows.codecOneSpec) :=
  OpenClaim.holds_of_wide 11 Try.f11 rfl rfl rfl rfl rfl rfl rfl ⟨rfl, rfl, rfl, rfl, rfl⟩ rfl rfl rfl rfl rfl (by kernel_rfl) Try.func11 (by kernel_rfl)
    (of_decide_eq_true (by kernel_rfl)) (by unfold Func.isWrapper; first | (rw [if_pos (by decide +kernel)]; kernel_rfl) | (rw [if_neg (by decide +kernel)]; exact ⟨rfl, rfl⟩))
    (fun os started H enc _ => lifted os started H enc)

theorem proved : Rows.CodecOneSaid :=
  over
#print axioms proved
end Go.Proofs.Ytemhinagajfemaa.codecOne
