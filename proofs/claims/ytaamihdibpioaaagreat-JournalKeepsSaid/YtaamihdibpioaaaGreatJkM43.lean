/- journal: a record's bytes, Write, Crash. -/
import Derived.Test.YtaamihdibpioaaaGreatJkM4
import Derived.Test.YtaamihdibpioaaaGreatJkM5
import Derived.Test.YtaamihdibpioaaaGreatJkM36
import Derived.Test.YtaamihdibpioaaaGreatJkM39
import Derived.Test.YtaamihdibpioaaaGreatJkM41
import Derived.Test.YtaamihdibpioaaaGreatJkM42
namespace Go.Proofs.YtaamihdibpioaaaGreat.Jr
set_option linter.unusedVariables false
open Go.RowKit Go.Proofs.YtaamihdibpioaaaGreat.Crc Go.Proofs.YtaamihdibpioaaaGreat.Pk

/-- The error ahead of the disk's. -/
def encE : Option (List UInt8) → Int
  | none => 5
  | some l => if 2000 < 4 + l.length then 5 else 0
def jB (s : Jt) (label : Int) (enc : Option (List UInt8)) : Int :=
  bif s.torn then 14 else bif isSeg s.n label then encE enc else 3
theorem jE_eq (s : Jt) (label : Int) (enc : Option (List UInt8)) : jE s label enc = if jB s label enc = 0 then tearE s.n s.rows label (jF s enc) else jB s label enc := by
  unfold jE jB
  cases s.torn with
  | true => rfl
  | false =>
    cases isSeg s.n label with
    | false => rfl
    | true =>
      cases enc with
      | none => rfl
      | some l =>
        show (if 2000 < 4 + l.length then 5 else tearE s.n s.rows label (frameOf (payB s.next l))) = if encE (some l) = 0 then tearE s.n s.rows label (jF s (some l)) else encE (some l)
        by_cases h : 2000 < 4 + l.length
        · have e : encE (some l) = 5 := by simp only [encE]; rw [if_pos h]
          rw [if_pos h, e]; rfl
        · have e : encE (some l) = 0 := by simp only [encE]; rw [if_neg h]
          rw [if_neg h, e]; rfl
def jS (s : Jt) (label : Int) (enc : Option (List UInt8)) : ByteArray := if jB s label enc = 0 then jF s enc else ByteArray.empty
def Byted (S : ByteArray) (k : Int) (w : World) (e : Ending) (w' : World) : Prop := e = .returned (.tuple #[.string S, .int .i64 k]) ∧ Below w.heap.size w w'
theorem pay_join (n : Nat) (l : List UInt8) : (⟨(num4 n).toArray⟩ : ByteArray) ++ ⟨l.toArray⟩ = payB n l := strB_append (num4 n) l
set_option maxHeartbeats 4000000 in
set_option maxRecDepth 100000 in
theorem bytes_any (j d : Nat) (s : Jt) (label : Int) (c : Cm) (w : World) (h : JAt w j d s) (hn : s.next < 1000000000) (hc : c.In w) :
    Calls Tryz.prog 25 #[.pointer (some ⟨j, 0, none⟩), .int .i64 label, c.agg] w fun e w' => Byted (jS s label c.enc) (jB s label c.enc) w e w' := by
  obtain ⟨p4, q4, e4⟩ := hc.2.1.nslice
  obtain ⟨p5, q5, e5⟩ := hc.2.1.xslice
  obtain ⟨r4, t4, f4⟩ := hc.2.2.nslice
  obtain ⟨r5, t5, f5⟩ := hc.2.2.xslice
  obtain ⟨C, hC⟩ : ∃ C, C = w.heap.size := ⟨_, rfl⟩
  obtain ⟨W, hW⟩ : ∃ W, W = w.alloc (.cells c.cells.toArray 39) := ⟨_, rfl⟩
  have hb : Below w.heap.size w W := by rw [hW]; exact (Below.refl _ _).alloc (Nat.le_refl _) _
  have hbc : Blk W C 39 c.cells.toArray := by rw [hW, hC]; exact Blk.new _ _ _
  have hcW := hc.below hb
  have hJ := h.below hb
  have hcm := cmd_any c W hcW
  have hag : c.agg = .agg #[.int .i64 c.k, .int .i64 c.nd, .int .i64 c.il, .int .i64 c.inn, .int .i64 c.n, .int .i64 c.key.k, .int .i64 c.key.n, .float .f64 c.key.f, .string c.key.s, .slice p4 c.key.ns.length q4, .slice p5 c.key.xs.length q5, .int .i64 c.v.k, .int .i64 c.v.n, .float .f64 c.v.f, .string c.v.s, .slice r4 c.v.ns.length t4, .slice r5 c.v.xs.length t5] := by
    unfold Cm.agg Cm.cells Val.cells; rw [e4, e5, f4, f5]; rfl
  have hbc' : Blk W C 39 #[.int .i64 c.k, .int .i64 c.nd, .int .i64 c.il, .int .i64 c.inn, .int .i64 c.n, .int .i64 c.key.k, .int .i64 c.key.n, .float .f64 c.key.f, .string c.key.s, .slice p4 c.key.ns.length q4, .slice p5 c.key.xs.length q5, .int .i64 c.v.k, .int .i64 c.v.n, .float .f64 c.v.f, .string c.v.s, .slice r4 c.v.ns.length t4, .slice r5 c.v.xs.length t5] := by
    unfold Cm.cells Val.cells at hbc; rw [e4, e5, f4, f5] at hbc; exact hbc
  unfold Cm.cells Val.cells at hW
  rw [e4, e5, f4, f5] at hW
  simp only [List.cons_append, List.nil_append] at hW
  rw [hag] at hcm ⊢
  have j1 := hJ.jb.cell 1; have j2 := hJ.jb.cell 2; have j3 := hJ.jb.cell 3
  simp at j1 j2 j3
  have hz8 := h.dk.n8
  have hz1 := h.dk.n1
  have hjl := hJ.jb.lt
  obtain ⟨EN, hEN⟩ : ∃ EN, EN = c.enc := ⟨_, rfl⟩
  rw [← hEN] at hcm ⊢
  have hls : ∀ l, EN = some l → l.length ≤ 1000000 := fun l hl => by
    rw [hEN] at hl
    have hl' := hl
    unfold Cm.enc at hl'
    cases hA : c.ints.all numOk with
    | false => rw [hA] at hl'; cases hl'
    | true =>
      rw [hA] at hl'
      simp only [cond_true] at hl'
      cases hk : someB c.key with
      | none => rw [hk] at hl'; cases hl'
      | some a =>
        rw [hk] at hl'
        simp only at hl'
        cases hv : someB c.v with
        | none => rw [hv] at hl'; cases hl'
        | some b =>
          rw [hv] at hl'
          injection hl' with hl'
          have h1 := someB_len hc.2.1 hk
          have h2 := someB_len hc.2.2 hv
          have h3 := numsB_len c.ints hA
          have h4 : c.ints.length = 5 := rfl
          rw [← hl', List.length_append, List.length_append]
          omega
  obtain ⟨B, hB⟩ : ∃ B, B = jB s label EN := ⟨_, rfl⟩
  obtain ⟨SS, hSS⟩ : ∃ SS, SS = jS s label EN := ⟨_, rfl⟩
  have hB2 : B = bif s.torn then 14 else bif isSeg s.n label then encE EN else 3 := hB
  have hS2 : SS = if B = 0 then jF s EN else ByteArray.empty := by rw [hSS, hB]; rfl
  rw [← hB, ← hSS]
  obtain ⟨T, hT⟩ : ∃ T, T = s.torn := ⟨_, rfl⟩
  rw [← hT] at j3 hB2
  obtain ⟨n, hnn⟩ : ∃ n, n = s.n := ⟨_, rfl⟩
  rw [← hnn] at j1 hB2 hz8 hz1
  obtain ⟨x, hx⟩ : ∃ x, x = s.next := ⟨_, rfl⟩
  rw [← hx] at j2 hn
  have hjb := hJ.jb
  rw [← hT, ← hnn, ← hx] at hjb
  have hF : ∀ l, jF s (some l) = frameOf (payB x l) := fun l => by rw [hx]; rfl
  have HC := Lib.hid hC; have HW := Lib.hid hW; have HB := Lib.hid hb; have HBC := Lib.hid hbc'; have HCM := Lib.hid hcm; have HB2 := Lib.hid hB2; have HS2 := Lib.hid hS2; have HF := Lib.hid hF; have HJ := Lib.hid hjb; have HLS := Lib.hid hls
  clear hC hW hb hbc hbc' hcm hB2 hS2 hF hJ hjb hag hB hSS hT hnn hx hEN e4 e5 f4 f5 hcW hc h hls
  cases T with
  | true =>
    have HBV : Hid (B = 14) := Lib.hid (by rw [HB2.out]; rfl)
    have HSV : Hid (SS = ByteArray.empty) := Lib.hid (by rw [HS2.out, HBV.out]; rfl)
    go_enter Tryz.func25, Tryz.ntmps25
    go_upto_region 1 with fail
    rw [← HW.out, ← HC.out]
    go_wp2
    go_ret2
    rw [HBV.out, HSV.out]
    exact ⟨rfl, HB.out⟩
  | false =>
    by_cases hl0 : label < 0
    · have i0 : decide (label < 0) = true := by simpa using hl0
      have HBV : Hid (B = 3) := Lib.hid (by rw [HB2.out, show isSeg n label = false by unfold isSeg; simp; omega]; rfl)
      have HSV : Hid (SS = ByteArray.empty) := Lib.hid (by rw [HS2.out, HBV.out]; rfl)
      go_enter Tryz.func25, Tryz.ntmps25
      go_upto_region 1 with fail
      rw [← HW.out, ← HC.out]
      go_wp2
      go_ret2
      rw [HBV.out, HSV.out]
      exact ⟨rfl, HB.out⟩
    · by_cases hln : (n : Int) ≤ label
      · have i0 : decide (label < 0) = false := by simpa using hl0
        have i1 : decide ((n : Int) ≤ label) = true := by simpa using hln
        have HBV : Hid (B = 3) := Lib.hid (by rw [HB2.out, show isSeg n label = false by unfold isSeg; simp; omega]; rfl)
        have HSV : Hid (SS = ByteArray.empty) := Lib.hid (by rw [HS2.out, HBV.out]; rfl)
        go_enter Tryz.func25, Tryz.ntmps25
        go_upto_region 1 with fail
        rw [← HW.out, ← HC.out]
        go_wp2
        go_ret2
        rw [HBV.out, HSV.out]
        exact ⟨rfl, HB.out⟩
      · have i0 : decide (label < 0) = false := by simpa using hl0
        have i1 : decide ((n : Int) ≤ label) = false := by simpa using hln
        have HSG : Hid (isSeg n label = true) := Lib.hid (by unfold isSeg; simp; omega)
        have c0 := HBC.out.cell 0; have c1 := HBC.out.cell 1; have c2 := HBC.out.cell 2; have c3 := HBC.out.cell 3; have c4 := HBC.out.cell 4; have c5 := HBC.out.cell 5; have c6 := HBC.out.cell 6; have c7 := HBC.out.cell 7; have c8 := HBC.out.cell 8; have c9 := HBC.out.cell 9; have c10 := HBC.out.cell 10; have c11 := HBC.out.cell 11; have c12 := HBC.out.cell 12; have c13 := HBC.out.cell 13; have c14 := HBC.out.cell 14; have c15 := HBC.out.cell 15; have c16 := HBC.out.cell 16
        simp only [List.getElem?_toArray, List.getElem?_cons_zero, List.getElem?_cons_succ] at c0 c1 c2 c3 c4 c5 c6 c7 c8 c9 c10 c11 c12 c13 c14 c15 c16
        go_enter Tryz.func25, Tryz.ntmps25
        go_upto_region 1 with fail
        rw [← HW.out, ← HC.out]
        go_wp2_with fail
        refine HCM.out.mono ?_
        rintro e w1 ⟨hb1, rfl⟩
        have B1 := Lib.hid (HB.out.trans (hb1.mono HB.out.size))
        have J1 := Lib.hid (HJ.out.below hb1 hjl)
        clear hb1 c0 c1 c2 c3 c4 c5 c6 c7 c8 c9 c10 c11 c12 c13 c14 c15 c16 j1 j2 j3 HCM
        cases EN with
        | none =>
          have HBV : Hid (B = 5) := Lib.hid (by rw [HB2.out, HSG.out]; rfl)
          have HSV : Hid (SS = ByteArray.empty) := Lib.hid (by rw [HS2.out, HBV.out]; rfl)
          simp only [cmdS, cmdErr]
          go_wp2
          go_ret2
          rw [HBV.out, HSV.out]
          exact ⟨rfl, B1.out⟩
        | some l =>
          have j2 := J1.out.cell 2
          simp at j2
          have hll := HLS.out l rfl
          have HNM := Lib.hid (number_any x w1 (by omega))
          have hcat : ¬ 9223372036854775807 < (⟨(num4 x).toArray⟩ : ByteArray).size + (⟨l.toArray⟩ : ByteArray).size := by
            have e1 : (⟨(num4 x).toArray⟩ : ByteArray).size = 4 := by rw [← size_list]; rfl
            have e2 : (⟨l.toArray⟩ : ByteArray).size = l.length := by rw [← size_list]
            omega
          have hpj := pay_join x l
          have HPJ := Lib.hid hpj
          clear hpj
          simp only [cmdS, cmdErr]
          go_wp2_with fail
          refine HNM.out.mono ?_
          rintro e w2 ⟨rfl, hb2⟩
          have B2 := Lib.hid (B1.out.trans (hb2.mono B1.out.size))
          clear hb2 HNM
          by_cases hlong : 2000 < 4 + l.length
          · have HBV : Hid (B = 5) := Lib.hid (by rw [HB2.out, HSG.out]; simp only [cond_false, cond_true, encE]; rw [if_pos hlong])
            have HSV : Hid (SS = ByteArray.empty) := Lib.hid (by rw [HS2.out, HBV.out]; rfl)
            have HMK := Lib.hid (make_bad (payB x l) w2 (by rw [payB_size]; omega) (.inr (by rw [payB_size]; omega)))
            clear hlong
            go_wp2_with fail
            rw [HPJ.out]
            refine HMK.out.mono ?_
            rintro e w3 ⟨rfl, rfl⟩
            go_wp2
            go_ret2
            rw [HBV.out, HSV.out]
            exact ⟨rfl, B2.out⟩
          · have HBV : Hid (B = 0) := Lib.hid (by rw [HB2.out, HSG.out]; simp only [cond_false, cond_true, encE]; rw [if_neg hlong])
            have HSV : Hid (SS = frameOf (payB x l)) := Lib.hid (by rw [HS2.out, if_pos HBV.out, HF.out])
            have HMK := Lib.hid (make_ok (payB x l) w2 (by rw [payB_size]; omega) (by rw [payB_size]; omega))
            clear hlong
            go_wp2_with fail
            rw [HPJ.out]
            refine HMK.out.mono ?_
            rintro e w3 ⟨rfl, hb3⟩
            have B3 := Lib.hid (B2.out.trans (hb3.mono B2.out.size))
            clear hb3
            go_wp2
            go_ret2
            rw [HBV.out, HSV.out]
            exact ⟨rfl, B3.out⟩
end Go.Proofs.YtaamihdibpioaaaGreat.Jr

/- journal: what is read of a segment. -/
namespace Go.Proofs.YtaamihdibpioaaaGreat.Jr
set_option linter.unusedVariables false
open Go.RowKit Go.Proofs.YtaamihdibpioaaaGreat.Crc Go.Proofs.YtaamihdibpioaaaGreat.Pk

/-- A record as it is read. -/
def recOf (label : Int) (p : ByteArray) : Rc := ⟨numOf (p.extract 0 4), label, readC p⟩
def cmdOf : Option (Cm × Nat) → Cm
  | some (c, _) => c
  | none => Cm.zero
theorem readC_of (p : ByteArray) : readC p = cmdOf (rdCm p (min 4 p.size)) := by
  unfold readC
  cases rdCm p (min 4 p.size) <;> rfl
theorem CmdRead.any {r : Option (Cm × Nat)} {w w' : World} {e : Ending} (h : CmdRead r w e w') :
    Below w.heap.size w w' ∧ ∃ (u : Cm) (q k : Int), e = .returned (.tuple #[u.agg, .int .i64 q, .int .i64 k]) ∧ u.erase = cmdOf r ∧ u.In w' ∧ u.Sep (fun b => w.heap.size ≤ b) := by
  refine ⟨h.1, ?_⟩
  have h2 := h.2
  cases r with
  | none => exact ⟨Cm.zero, 0, 5, h2, rfl, ⟨fun x hx => by simp [Cm.ints] at hx; subst hx; exact ⟨by omega, by omega⟩, zero_in _, zero_in _⟩, zero_sep _, zero_sep _⟩
  | some x =>
    obtain ⟨c, q⟩ := x
    obtain ⟨u, h3, h4, h5, h6⟩ := h2
    exact ⟨u, q, 0, h3, h4, h5, h6⟩
theorem rec_one {S4 p : ByteArray} {u : Cm} {label : Int} (h : S4 = p.extract 0 4) (hu : u.erase = readC p) : Rc.erase ⟨(numOf S4 : Int), label, u⟩ = recOf label p := by
  unfold recOf Rc.erase
  rw [← h, hu]
def JReadOut (ps : List ByteArray) (label good : Int) (w : World) (e : Ending) (w' : World) : Prop :=
  ∃ (B : Nat) (v : Value) (us : List Rc), w.heap.size ≤ B ∧ e = .returned (.tuple #[v, .int .i64 good]) ∧ Below w.heap.size w w' ∧ Rowed recE (fun _ => False) B 44 w' us v ∧ us.map Rc.erase = ps.map (recOf label)
theorem rec_facts : (Tryz.prog.info? 44).map (fun i => (i.zero, i.size, i.bytes)) = some (some (.agg #[.int .i64 0, .int .i64 0, .int .i64 0, .int .i64 0, .int .i64 0, .int .i64 0, .int .i64 0, .int .i64 0, .int .i64 0, .float .f64 0, .string ByteArray.empty, .slice none 0 0, .slice none 0 0, .int .i64 0, .int .i64 0, .float .f64 0, .string ByteArray.empty, .slice none 0 0, .slice none 0 0]), 19, 232) := by kernel_rfl
set_option maxHeartbeats 4000000 in
set_option maxRecDepth 100000 in
theorem jread_any (j d : Nat) (s : Jt) (label good : Int) (ps : List ByteArray) (w : World) (h : JAt w j d s) (hl : i64r label) (ha : allOf (readR s.n s.rows label) = (ps, good)) (hps : ∀ p, p ∈ ps → 4 ≤ p.size ∧ p.size ≤ 2000) :
    Calls Tryz.prog 28 #[.pointer (some ⟨j, 0, none⟩), .int .i64 label] w fun e w' => JReadOut ps label good w e w' := by
  have hsf := run_store_flt
  have c0 := h.jb.cell 0
  simp at c0
  have HR := Lib.hid (read_any d s.n s.rows label w h.db h.dk)
  have hsz : (readR s.n s.rows label).size ≤ 10000 := by
    unfold readR
    cases hs : isSeg s.n label with
    | false => simp
    | true =>
      have := rowOf_size h.dk label
      simp only [cond_true]
      omega
  have hal := all_any (readR s.n s.rows label) w hsz
  have hlen := all_len (readR s.n s.rows label)
  unfold Alled at hal
  rw [ha] at hal hlen
  simp only at hal hlen
  obtain ⟨i0, hi0, hz0, hz1, hz2⟩ := info_parts rec_facts
  obtain ⟨n, hn⟩ : ∃ n, n = ps.length := ⟨_, rfl⟩
  rw [← hn] at hal hlen
  have hn1 : n ≤ 10001 := by omega
  have HAL := Lib.hid hal; have HN := Lib.hid hn; have HPS := Lib.hid hps; have HI0 := Lib.hid hi0; have HZ0 := Lib.hid hz0; have HZ1 := Lib.hid hz1; have HZ2 := Lib.hid hz2; have HLB := Lib.hid hl
  clear hal hn hps hi0 hz0 hz1 hz2 h ha hlen hsz hl
  go_enter Tryz.func28, Tryz.ntmps28
  go_wp2_with fail
  refine HR.out.mono ?_
  rintro e w0 ⟨rfl, rfl⟩
  go_wp2_with fail
  refine HAL.out.mono ?_
  rintro e w1 ⟨fv, rfl, hown, hb1⟩
  obtain ⟨fa, fc, rfl⟩ := row_form hown
  have HOW := Lib.hid hown; have HB1 := Lib.hid hb1
  clear hown hb1 c0 HR HAL
  go_wp2_with fail
  go_loopw [4, 25] (fun lv iv wr => ∃ (i : Nat) (us : List Rc), i ≤ n ∧ iv = .int .i64 (i : Int) ∧ Hid (us.map Rc.erase = (ps.take i).map (recOf label)) ∧ Hid (Rowed recE (fun _ => False) w1.heap.size 44 wr us lv) ∧ Hid (Below w1.heap.size w1 wr)) (fun _ iv _ => n - (intOf iv).toNat)
  case atStart => exact ⟨0, [], by omega, rfl, Lib.hid rfl, Lib.hid (rowed_start _), Lib.hid (Below.refl _ _)⟩
  case round =>
    obtain ⟨i, us, hi, rfl, HM, HG, HBL⟩ := hrel
    by_cases hlt : i < n
    · have hil : i < ps.length := by rw [← HN.out]; exact hlt
      obtain ⟨p, hp⟩ : ∃ p, p = ps[i]'hil := ⟨_, rfl⟩
      obtain ⟨g, rfl, hgl, hcell, hcap⟩ : ∃ g, fa = some ⟨g, 0, none⟩ ∧ g < w1.heap.size ∧ w1.cell? ⟨g, i, none⟩ = some (.string p) ∧ n ≤ fc := by
        rcases HOW.out.2 with ⟨_, h0⟩ | ⟨g, cap, cur, hv, hb, hg, hrest⟩
        · omega
        · injection hv with h1 h2 h3
          subst h1
          refine ⟨g, rfl, (show Blk w1 g 9 cur from hg).lt, ?_, ?_⟩
          · have := HOW.out.cells (g := g) rfl i (.string p) (by simp [hil, hp])
            rw [Addr.add_lit, Nat.zero_add] at this
            exact this
          · rw [h3]; exact hrest.1
      have hmem : p ∈ ps := by rw [hp]; exact List.getElem_mem hil
      obtain ⟨hp4, hp2⟩ := HPS.out p hmem
      have htk : ps.take (i + 1) = ps.take i ++ [p] := by rw [hp, List.take_succ_eq_append_getElem hil]
      have hrc := readcmd_any p 4 wr (by omega) (by omega)
      have hrC : readC p = cmdOf (rdCm p 4) := by rw [readC_of, Nat.min_eq_left hp4]
      obtain ⟨S4, hS4⟩ : ∃ S4, S4 = p.extract 0 4 := ⟨_, rfl⟩
      have hS4z : S4.size = 4 := by rw [hS4, ByteArray.size_extract]; omega
      have hcl := (HBL.out.cell (p := ⟨g, i, none⟩) hgl).trans hcell
      have hnum := fun W : World => numbered_any S4 W hS4z
      have hnl : numOf S4 < 4294967296 := by
        unfold numOf
        have b0 := UInt8.toNat_lt (byteAt S4 0); have b1 := UInt8.toNat_lt (byteAt S4 1); have b2 := UInt8.toNat_lt (byteAt S4 2); have b3 := UInt8.toNat_lt (byteAt S4 3)
        omega
      obtain ⟨ax, cx, rfl⟩ := HG.out.form
      have hk0 : (0 : Int) ≤ (i : Int) := by omega
      have hk1 : (i : Int) < (n : Int) := by omega
      have hmn : min (4 : Int) (p.size : Int) = 4 := by omega
      have hmn2 : ¬ ((p.size : Int) < 4) := by omega
      have HTK := Lib.hid htk; have HRC := Lib.hid hrc; have HRD := Lib.hid hrC; have HS4 := Lib.hid hS4; have HNUM := Lib.hid hnum; have HNL := Lib.hid hnl
      have hz1 := HBL.out.size
      have husl : us.length ≤ 10001 := by
        have := congrArg List.length HM.out
        rw [List.length_map, List.length_map, List.length_take] at this
        omega
      clear hp hmem htk hrc hrC hS4 hS4z hnum hnl hil hcell
      go_wp2_with fail
      refine HRC.out.mono ?_
      rintro e w3 hr
      obtain ⟨hb3, u, q, k, rfl, hue, hui, hus⟩ := CmdRead.any hr
      obtain ⟨p4, q4, e4⟩ := hui.2.1.nslice
      obtain ⟨p5, q5, e5⟩ := hui.2.1.xslice
      obtain ⟨r4, t4, f4⟩ := hui.2.2.nslice
      obtain ⟨r5, t5, f5⟩ := hui.2.2.xslice
      have hag : u.agg = .agg #[.int .i64 u.k, .int .i64 u.nd, .int .i64 u.il, .int .i64 u.inn, .int .i64 u.n, .int .i64 u.key.k, .int .i64 u.key.n, .float .f64 u.key.f, .string u.key.s, .slice p4 u.key.ns.length q4, .slice p5 u.key.xs.length q5, .int .i64 u.v.k, .int .i64 u.v.n, .float .f64 u.v.f, .string u.v.s, .slice r4 u.v.ns.length t4, .slice r5 u.v.xs.length t5] := by
        unfold Cm.agg Cm.cells Val.cells; rw [e4, e5, f4, f5]; rfl
      obtain ⟨X, hX⟩ : ∃ X, X = w3.heap.size := ⟨_, rfl⟩
      obtain ⟨W4, hW4⟩ : ∃ W4, W4 = w3.alloc (.cells #[.int .i64 u.k, .int .i64 u.nd, .int .i64 u.il, .int .i64 u.inn, .int .i64 u.n, .int .i64 u.key.k, .int .i64 u.key.n, .float .f64 u.key.f, .string u.key.s, .slice p4 u.key.ns.length q4, .slice p5 u.key.xs.length q5, .int .i64 u.v.k, .int .i64 u.v.n, .float .f64 u.v.f, .string u.v.s, .slice r4 u.v.ns.length t4, .slice r5 u.v.xs.length t5] 39) := ⟨_, rfl⟩
      have hbX : Blk W4 X 39 #[.int .i64 u.k, .int .i64 u.nd, .int .i64 u.il, .int .i64 u.inn, .int .i64 u.n, .int .i64 u.key.k, .int .i64 u.key.n, .float .f64 u.key.f, .string u.key.s, .slice p4 u.key.ns.length q4, .slice p5 u.key.xs.length q5, .int .i64 u.v.k, .int .i64 u.v.n, .float .f64 u.v.f, .string u.v.s, .slice r4 u.v.ns.length t4, .slice r5 u.v.xs.length t5] := by rw [hW4, hX]; exact Blk.new _ _ _
      have hb34 : Below w3.heap.size w3 W4 := by rw [hW4]; exact (Below.refl _ _).alloc (Nat.le_refl _) _
      have hb4 : Below wr.heap.size wr W4 := hb3.trans (hb34.mono hb3.size)
      have hui4 : u.In W4 := hui.below hb34
      have hrow4 : Rowed recE (fun _ => False) w1.heap.size 44 W4 us (.slice ax us.length cx) := HG.out.below hb4
      have hcells : ([.int .i64 (numOf S4), .int .i64 label] ++ u.cells : List Value) = [.int .i64 (numOf S4), .int .i64 label, .int .i64 u.k, .int .i64 u.nd, .int .i64 u.il, .int .i64 u.inn, .int .i64 u.n, .int .i64 u.key.k, .int .i64 u.key.n, .float .f64 u.key.f, .string u.key.s, .slice p4 u.key.ns.length q4, .slice p5 u.key.xs.length q5, .int .i64 u.v.k, .int .i64 u.v.n, .float .f64 u.v.f, .string u.v.s, .slice r4 u.v.ns.length t4, .slice r5 u.v.xs.length t5] := by
        unfold Cm.cells Val.cells; rw [e4, e5, f4, f5]; rfl
      have hown5 := World.ownsRow.alloc (w := W4.drew) hrow4.items (.cells [.int .i64 (numOf S4), .int .i64 label, .int .i64 u.k, .int .i64 u.nd, .int .i64 u.il, .int .i64 u.inn, .int .i64 u.n, .int .i64 u.key.k, .int .i64 u.key.n, .float .f64 u.key.f, .string u.key.s, .slice p4 u.key.ns.length q4, .slice p5 u.key.xs.length q5, .int .i64 u.v.k, .int .i64 u.v.n, .float .f64 u.v.f, .string u.v.s, .slice r4 u.v.ns.length t4, .slice r5 u.v.xs.length t5].toArray 44)
      have HXW := Lib.hid hb3.size; have HB4 := Lib.hid hb4; have HUI := Lib.hid hui4; have HUS := Lib.hid hus; have HUE := Lib.hid (hue.trans HRD.out.symm); have HX := Lib.hid hX; have HW4 := Lib.hid hW4; have HBX := Lib.hid hbX; have HROW := Lib.hid hrow4; have HCL := Lib.hid hcells; have HOW5 := Lib.hid hown5
      have HZX : Hid (∀ b, (Value.slice ax us.length cx).ownBlock = some b → b < wr.heap.size) := Lib.hid (fun b hb => by
        rcases HG.out.items.2 with ⟨h, _⟩ | ⟨g', cap, cur, h, _, hg', _⟩
        · rw [h] at hb; cases hb
        · rw [h] at hb
          injection hb with hb
          subst hb
          exact (show Blk wr g' 44 cur from hg').lt)
      rw [hag]
      clear hb3 hue hui hus e4 e5 f4 f5 hag hX hW4 hbX hb34 hb4 hui4 hrow4 hcells hown5 hr HRC hcl
      go_upto_region 7 with fail
      rw [← HW4.out, ← HX.out]
      refine wp_region_held_drew (S := (fun Y => Blk Y X 39 #[.int .i64 u.k, .int .i64 u.nd, .int .i64 u.il, .int .i64 u.inn, .int .i64 u.n, .int .i64 u.key.k, .int .i64 u.key.n, .float .f64 u.key.f, .string u.key.s, .slice p4 u.key.ns.length q4, .slice p5 u.key.xs.length q5, .int .i64 u.v.k, .int .i64 u.v.n, .float .f64 u.v.f, .string u.v.s, .slice r4 u.v.ns.length t4, .slice r5 u.v.xs.length t5])) (by kernel_rfl) (HBX.out.drew) (fun hHeld => ?_)
      refine held_take (i := 0) (d := some 39) (v := ?_) rfl rfl (by kernel_rfl) (by kernel_rfl) (by kernel_rfl) (fun _ _ _ h => h) (by rfl) ?_ hHeld ?_
      rotate_left
      · (intro w hSw; (try dsimp only at hSw); have hX := hSw; have x0 := hX.cell 0; have x1 := hX.cell 1; have x2 := hX.cell 2; have x3 := hX.cell 3; have x4 := hX.cell 4; have x5 := hX.cell 5; have x6 := hX.cell 6; have x7 := hX.cell 7; have x8 := hX.cell 8; have x9 := hX.cell 9; have x10 := hX.cell 10; have x11 := hX.cell 11; have x12 := hX.cell 12; have x13 := hX.cell 13; have x14 := hX.cell 14; have x15 := hX.cell 15; have x16 := hX.cell 16; simp only [List.getElem?_toArray, List.getElem?_cons_zero, List.getElem?_cons_succ] at x0 x1 x2 x3 x4 x5 x6 x7 x8 x9 x10 x11 x12 x13 x14 x15 x16; clear hX; go_simp; try with_reducible rfl)
      try simp only [Act.put, List.setIfInBounds_toArray, List.set_cons_zero, List.set_cons_succ]
      refine held_take (i := 1) (d := some 40) (v := ?_) rfl rfl (by kernel_rfl) (by kernel_rfl) (by kernel_rfl) (fun _ _ _ h => h) (by rfl) ?_ hHeld ?_
      rotate_left
      · (intro w hSw; (try dsimp only at hSw); have hX := hSw; have x0 := hX.cell 0; have x1 := hX.cell 1; have x2 := hX.cell 2; have x3 := hX.cell 3; have x4 := hX.cell 4; have x5 := hX.cell 5; have x6 := hX.cell 6; have x7 := hX.cell 7; have x8 := hX.cell 8; have x9 := hX.cell 9; have x10 := hX.cell 10; have x11 := hX.cell 11; have x12 := hX.cell 12; have x13 := hX.cell 13; have x14 := hX.cell 14; have x15 := hX.cell 15; have x16 := hX.cell 16; simp only [List.getElem?_toArray, List.getElem?_cons_zero, List.getElem?_cons_succ] at x0 x1 x2 x3 x4 x5 x6 x7 x8 x9 x10 x11 x12 x13 x14 x15 x16; clear hX; go_simp; try with_reducible rfl)
      try simp only [Act.put, List.setIfInBounds_toArray, List.set_cons_zero, List.set_cons_succ]
      refine held_take (i := 2) (d := some 41) (v := ?_) rfl rfl (by kernel_rfl) (by kernel_rfl) (by kernel_rfl) (fun _ _ _ h => h) (by rfl) ?_ hHeld ?_
      rotate_left
      · (intro w hSw; (try dsimp only at hSw); have hX := hSw; have x0 := hX.cell 0; have x1 := hX.cell 1; have x2 := hX.cell 2; have x3 := hX.cell 3; have x4 := hX.cell 4; have x5 := hX.cell 5; have x6 := hX.cell 6; have x7 := hX.cell 7; have x8 := hX.cell 8; have x9 := hX.cell 9; have x10 := hX.cell 10; have x11 := hX.cell 11; have x12 := hX.cell 12; have x13 := hX.cell 13; have x14 := hX.cell 14; have x15 := hX.cell 15; have x16 := hX.cell 16; simp only [List.getElem?_toArray, List.getElem?_cons_zero, List.getElem?_cons_succ] at x0 x1 x2 x3 x4 x5 x6 x7 x8 x9 x10 x11 x12 x13 x14 x15 x16; clear hX; go_simp; try with_reducible rfl)
      try simp only [Act.put, List.setIfInBounds_toArray, List.set_cons_zero, List.set_cons_succ]
      refine held_take (i := 3) (d := some 42) (v := ?_) rfl rfl (by kernel_rfl) (by kernel_rfl) (by kernel_rfl) (fun _ _ _ h => h) (by rfl) ?_ hHeld ?_
      rotate_left
      · (intro w hSw; (try dsimp only at hSw); have hX := hSw; have x0 := hX.cell 0; have x1 := hX.cell 1; have x2 := hX.cell 2; have x3 := hX.cell 3; have x4 := hX.cell 4; have x5 := hX.cell 5; have x6 := hX.cell 6; have x7 := hX.cell 7; have x8 := hX.cell 8; have x9 := hX.cell 9; have x10 := hX.cell 10; have x11 := hX.cell 11; have x12 := hX.cell 12; have x13 := hX.cell 13; have x14 := hX.cell 14; have x15 := hX.cell 15; have x16 := hX.cell 16; simp only [List.getElem?_toArray, List.getElem?_cons_zero, List.getElem?_cons_succ] at x0 x1 x2 x3 x4 x5 x6 x7 x8 x9 x10 x11 x12 x13 x14 x15 x16; clear hX; go_simp; try with_reducible rfl)
      try simp only [Act.put, List.setIfInBounds_toArray, List.set_cons_zero, List.set_cons_succ]
      refine held_take (i := 5) (d := some 44) (v := ?_) rfl rfl (by kernel_rfl) (by kernel_rfl) (by kernel_rfl) (fun _ _ _ h => h) (by rfl) ?_ hHeld ?_
      rotate_left
      · (intro w hSw; (try dsimp only at hSw); have hX := hSw; have x0 := hX.cell 0; have x1 := hX.cell 1; have x2 := hX.cell 2; have x3 := hX.cell 3; have x4 := hX.cell 4; have x5 := hX.cell 5; have x6 := hX.cell 6; have x7 := hX.cell 7; have x8 := hX.cell 8; have x9 := hX.cell 9; have x10 := hX.cell 10; have x11 := hX.cell 11; have x12 := hX.cell 12; have x13 := hX.cell 13; have x14 := hX.cell 14; have x15 := hX.cell 15; have x16 := hX.cell 16; simp only [List.getElem?_toArray, List.getElem?_cons_zero, List.getElem?_cons_succ] at x0 x1 x2 x3 x4 x5 x6 x7 x8 x9 x10 x11 x12 x13 x14 x15 x16; clear hX; go_simp; try with_reducible rfl)
      try simp only [Act.put, List.setIfInBounds_toArray, List.set_cons_zero, List.set_cons_succ]
      refine held_take (i := 6) (d := some 45) (v := ?_) rfl rfl (by kernel_rfl) (by kernel_rfl) (by kernel_rfl) (fun _ _ _ h => h) (by rfl) ?_ hHeld ?_
      rotate_left
      · (intro w hSw; (try dsimp only at hSw); have hX := hSw; have x0 := hX.cell 0; have x1 := hX.cell 1; have x2 := hX.cell 2; have x3 := hX.cell 3; have x4 := hX.cell 4; have x5 := hX.cell 5; have x6 := hX.cell 6; have x7 := hX.cell 7; have x8 := hX.cell 8; have x9 := hX.cell 9; have x10 := hX.cell 10; have x11 := hX.cell 11; have x12 := hX.cell 12; have x13 := hX.cell 13; have x14 := hX.cell 14; have x15 := hX.cell 15; have x16 := hX.cell 16; simp only [List.getElem?_toArray, List.getElem?_cons_zero, List.getElem?_cons_succ] at x0 x1 x2 x3 x4 x5 x6 x7 x8 x9 x10 x11 x12 x13 x14 x15 x16; clear hX; go_simp; try with_reducible rfl)
      try simp only [Act.put, List.setIfInBounds_toArray, List.set_cons_zero, List.set_cons_succ]
      rw [← HS4.out]
      refine held_only (i := 4) (by kernel_rfl) rfl (by rfl) (fun K hK => ?_)
      go_simp
      go_at_call 48
      refine (HNUM.out _).mono ?_
      rintro e w' ⟨rfl, rfl⟩
      refine hK.out _ _ (HBX.out.drew) (fun hHeld => ?_)
      clear hK K
      try simp only [Act.put, List.setIfInBounds_toArray, List.set_cons_zero, List.set_cons_succ]
      refine held_take (i := 7) (d := some 46) (v := ?_) rfl rfl (by kernel_rfl) (by kernel_rfl) (by kernel_rfl) (fun _ _ _ h => h) (by rfl) ?_ hHeld ?_
      rotate_left
      · (intro w hSw; (try dsimp only at hSw); have hX := hSw; have x0 := hX.cell 0; have x1 := hX.cell 1; have x2 := hX.cell 2; have x3 := hX.cell 3; have x4 := hX.cell 4; have x5 := hX.cell 5; have x6 := hX.cell 6; have x7 := hX.cell 7; have x8 := hX.cell 8; have x9 := hX.cell 9; have x10 := hX.cell 10; have x11 := hX.cell 11; have x12 := hX.cell 12; have x13 := hX.cell 13; have x14 := hX.cell 14; have x15 := hX.cell 15; have x16 := hX.cell 16; simp only [List.getElem?_toArray, List.getElem?_cons_zero, List.getElem?_cons_succ] at x0 x1 x2 x3 x4 x5 x6 x7 x8 x9 x10 x11 x12 x13 x14 x15 x16; clear hX; go_simp; try with_reducible rfl)
      try simp only [Act.put, List.setIfInBounds_toArray, List.set_cons_zero, List.set_cons_succ]
      refine held_only (i := 8) (by kernel_rfl) rfl (by rfl) (fun K hK => ?_)
      go_simp
      refine hK.out _ _ ((HBX.out.drew).alloc _) (fun hHeld => ?_)
      clear hK K
      try simp only [Act.put, List.setIfInBounds_toArray, List.set_cons_zero, List.set_cons_succ]
      refine held_only (i := 9) (by kernel_rfl) rfl (by rfl) (fun K hK => ?_)
      have hred := row_reads W4.drew [.int .i64 (numOf S4), .int .i64 label, .int .i64 u.k, .int .i64 u.nd, .int .i64 u.il, .int .i64 u.inn, .int .i64 u.n, .int .i64 u.key.k, .int .i64 u.key.n, .float .f64 u.key.f, .string u.key.s, .slice p4 u.key.ns.length q4, .slice p5 u.key.xs.length q5, .int .i64 u.v.k, .int .i64 u.v.n, .float .f64 u.v.f, .string u.v.s, .slice r4 u.v.ns.length t4, .slice r5 u.v.xs.length t5] 44
      refine wp_append_any (W4.drew.alloc (.cells [.int .i64 (numOf S4), .int .i64 label, .int .i64 u.k, .int .i64 u.nd, .int .i64 u.il, .int .i64 u.inn, .int .i64 u.n, .int .i64 u.key.k, .int .i64 u.key.n, .float .f64 u.key.f, .string u.key.s, .slice p4 u.key.ns.length q4, .slice p5 u.key.xs.length q5, .int .i64 u.v.k, .int .i64 u.v.n, .float .f64 u.v.f, .string u.v.s, .slice r4 u.v.ns.length t4, .slice r5 u.v.xs.length t5].toArray 44)) (.tmp 39) (.tmp 47) 30 rfl w1.heap.size 44 i0 (.agg #[.int .i64 0, .int .i64 0, .int .i64 0, .int .i64 0, .int .i64 0, .int .i64 0, .int .i64 0, .int .i64 0, .int .i64 0, .float .f64 0, .string ByteArray.empty, .slice none 0 0, .slice none 0 0, .int .i64 0, .int .i64 0, .float .f64 0, .string ByteArray.empty, .slice none 0 0, .slice none 0 0]) 19 232 Tryz.underlying30 HI0.out HZ0.out HZ1.out HZ2.out rfl (by decide) (.slice ax us.length cx) us.length (recE.row us) rfl HOW5.out (W4.heap.size + 1) (some ⟨W4.heap.size, 0, none⟩) 1 1 [.int .i64 (numOf S4), .int .i64 label, .int .i64 u.k, .int .i64 u.nd, .int .i64 u.il, .int .i64 u.inn, .int .i64 u.n, .int .i64 u.key.k, .int .i64 u.key.n, .float .f64 u.key.f, .string u.key.s, .slice p4 u.key.ns.length q4, .slice p5 u.key.xs.length q5, .int .i64 u.v.k, .int .i64 u.v.n, .float .f64 u.v.f, .string u.v.s, .slice r4 u.v.ns.length t4, .slice r5 u.v.xs.length t5] rfl hred (by rw [← HCL.out]; exact recE.one ⟨(numOf S4 : Int), label, u⟩) (by unfold maxLen; omega) (by omega) (by have := HB4.out.size; simp; omega) ?_
      intro v' w8 hown' hgrow hor
      have hal : Below W4.heap.size W4 (W4.drew.alloc (.cells [.int .i64 (numOf S4), .int .i64 label, .int .i64 u.k, .int .i64 u.nd, .int .i64 u.il, .int .i64 u.inn, .int .i64 u.n, .int .i64 u.key.k, .int .i64 u.key.n, .float .f64 u.key.f, .string u.key.s, .slice p4 u.key.ns.length q4, .slice p5 u.key.xs.length q5, .int .i64 u.v.k, .int .i64 u.v.n, .float .f64 u.v.f, .string u.v.s, .slice r4 u.v.ns.length t4, .slice r5 u.v.xs.length t5].toArray 44)) := (Below.refl W4.heap.size W4).drew.alloc (Nat.le_refl _) _
      have hlb := HLB.out; have hnl := HNL.out
      have hg8 := Rowed.item (x := (⟨(numOf S4 : Int), label, u⟩ : Rc)) (Z := wr.heap.size) (Rowed.below HROW.out hal) (fun b hb => hb.elim) (by have := HB4.out.size; simp; omega) ⟨⟨by show (-9223372036854775808 : Int) ≤ (numOf S4 : Int); omega, by show (numOf S4 : Int) ≤ 9223372036854775807; omega⟩, hlb, HUI.out.below hal⟩ (cmE.mono HUS.out (fun b hb => .inr hb)) (by omega) HZX.out (by rw [← HCL.out] at hown'; exact hown') hgrow hor
      have hbX8 : Blk w8 X 39 #[.int .i64 u.k, .int .i64 u.nd, .int .i64 u.il, .int .i64 u.inn, .int .i64 u.n, .int .i64 u.key.k, .int .i64 u.key.n, .float .f64 u.key.f, .string u.key.s, .slice p4 u.key.ns.length q4, .slice p5 u.key.xs.length q5, .int .i64 u.v.k, .int .i64 u.v.n, .float .f64 u.v.f, .string u.v.s, .slice r4 u.v.ns.length t4, .slice r5 u.v.xs.length t5] := Blk.grown (Blk.alloc (w := W4.drew) HBX.out (.cells [.int .i64 (numOf S4), .int .i64 label, .int .i64 u.k, .int .i64 u.nd, .int .i64 u.il, .int .i64 u.inn, .int .i64 u.n, .int .i64 u.key.k, .int .i64 u.key.n, .float .f64 u.key.f, .string u.key.s, .slice p4 u.key.ns.length q4, .slice p5 u.key.xs.length q5, .int .i64 u.v.k, .int .i64 u.v.n, .float .f64 u.v.f, .string u.v.s, .slice r4 u.v.ns.length t4, .slice r5 u.v.xs.length t5].toArray 44)) hgrow (fun e => by have h1 := HZX.out X e.symm; have h2 := HBX.out.lt; have h3 := HX.out; have h4 := HB4.out.size; have h5 := HXW.out; omega)
      have hb8 : Below w1.heap.size w1 w8 := ((HBL.out.trans (HB4.out.mono hz1)).trans (hal.mono (by have := HB4.out.size; omega))).grown hgrow (by have := HB4.out.size; simp; omega) (fun k hk => own_ge HROW.out.items hk)
      obtain ⟨ax', cx', rfl⟩ := row_form hown'
      have HG8 := Lib.hid hg8; have HBX8 := Lib.hid hbX8; have HB8 := Lib.hid hb8
      clear hg8 hbX8 hb8 hown' hgrow hor hal hred
      refine hK.out _ _ HBX8.out (fun hHeld => ?_)
      clear hK K
      try simp only [Act.put, List.setIfInBounds_toArray, List.set_cons_zero, List.set_cons_succ]
      refine held_take (i := 10) (d := some 4) (v := ?_) rfl rfl (by kernel_rfl) (by kernel_rfl) (by kernel_rfl) (fun _ _ _ h => h) (by rfl) ?_ hHeld ?_
      rotate_left
      · (intro w hSw; (try dsimp only at hSw); go_simp; try with_reducible rfl)
      try simp only [Act.put, List.setIfInBounds_toArray, List.set_cons_zero, List.set_cons_succ]
      refine wpAnyH_done (by kernel_rfl) ?_ _
      have hmapF : (us ++ [(⟨(numOf S4 : Int), label, u⟩ : Rc)]).map Rc.erase = (ps.take (i + 1)).map (recOf label) := by
        rw [HTK.out, List.map_append, List.map_append, HM.out]
        exact congrArg (fun r => (ps.take i).map (recOf label) ++ [r]) (rec_one HS4.out HUE.out)
      go_wp2
      go_roundw
      case rel =>
        refine ⟨i + 1, us ++ [⟨(numOf S4 : Int), label, u⟩], by omega, rfl, Lib.hid ?_, ?_, HB8⟩
        · exact hmapF
        · exact HG8
      case measure => simp [intOf]; omega
    · obtain rfl : i = n := by omega
      have HMF : Hid (us.map Rc.erase = ps.map (recOf label)) := Lib.hid (by
        have h1 := HM.out
        rw [HN.out, List.take_length] at h1
        exact h1)
      have hk1 : ¬ ((i : Int) < (i : Int)) := by omega
      have hz1 := HB1.out.size
      obtain ⟨ax, cx, rfl⟩ := HG.out.form
      go_wp2
      go_ret2
      exact ⟨_, _, us, hz1, rfl, HB1.out.trans (HBL.out.mono hz1), HG.out, HMF.out⟩
end Go.Proofs.YtaamihdibpioaaaGreat.Jr

/- journal: all records, sorted. -/
namespace Go.Proofs.YtaamihdibpioaaaGreat.Jr
set_option linter.unusedVariables false
open Go.RowKit Go.Proofs.YtaamihdibpioaaaGreat.Crc Go.Proofs.YtaamihdibpioaaaGreat.Pk

theorem own_lt {w : World} {base n size k : Nat} {e : TypeId} {v : Value} {xs : List Value} (h : w.ownsRow base e size v n xs) (hk : v.ownBlock = some k) : k < w.heap.size := by
  rcases h.2 with ⟨rfl, _⟩ | ⟨g, cap, cur, rfl, hb, hg, _⟩
  · simp [Value.ownBlock] at hk
  · simp [Value.ownBlock] at hk
    rw [← hk]
    exact Blk.lt hg
section
variable {A : Type} {E : Elem A} {S : Nat → Prop} {B : Nat} {TE : TypeId} {w w' : World} {us : List A} {xv : Value}
/-- Some items more. -/
theorem Rowed_more {v' : Value} {xs : List A} {Z : Nat} (h : Rowed E S B TE w us xv) (hP : ∀ b, S b → b < B) (hx : ∀ x, x ∈ xs → E.In w x ∧ E.Sep (fun b => S b ∨ Z ≤ b) x) (hZ : B ≤ Z) (hxz : ∀ b, xv.ownBlock = some b → b < Z)
    (ho : w'.ownsRow B TE E.size v' (us.length + xs.length) (E.row us ++ E.row xs)) (hg : w.grownBy w' xv.ownBlock)
    (hor : v'.ownBlock = xv.ownBlock ∨ v'.ownBlock = some w.heap.size) : Rowed E S B TE w' (us ++ xs) v' := by
  have hxb : ∀ b, xv.ownBlock = some b → B ≤ b := fun b hb => own_ge h.items hb
  refine ⟨by rw [List.length_append, show E.row (us ++ xs) = E.row us ++ E.row xs from by simp [Elem.row]]; exact ho, fun u hu => ?_⟩
  rcases List.mem_append.1 hu with hu | hu
  · obtain ⟨h1, h2⟩ := h.each u hu
    have h3 := E.and h2 (E.lt h1)
    refine ⟨E.carry h1 h2 (fun b o hs hlt => World.cell?_of_block (a := ⟨b, o, none⟩) (hg.block b hlt hs.2)) hg.size, E.mono h3 (fun b hb => ⟨hb.1.1, ?_⟩)⟩
    rcases hor with h' | h'
    · rw [h']; exact hb.1.2
    · rw [h']; intro e; injection e with e; have := hb.2; omega
  · obtain ⟨hi, hs⟩ := hx u hu
    have h3 := E.and hs (E.lt hi)
    have hne : ∀ b, (S b ∨ Z ≤ b) → some b ≠ xv.ownBlock := fun b hb e => by
      have h4 := hxz b e.symm
      have h5 := hxb b e.symm
      rcases hb with hb | hb
      · have := hP b hb; omega
      · omega
    refine ⟨E.carry hi hs (fun b o hs' hlt => World.cell?_of_block (a := ⟨b, o, none⟩) (hg.block b hlt (hne b hs'))) hg.size, E.mono h3 (fun b hb => ⟨by rcases hb.1 with h | h; exact .inl h; exact .inr (by omega), ?_⟩)⟩
    rcases hor with h' | h'
    · rw [h']; exact hne b hb.1
    · rw [h']; intro e; injection e with e; have := hb.2; omega
end

def SortedOut (B : Nat) (v : Value) (us : List Rc) (w : World) (e : Ending) (w' : World) : Prop :=
  e = .returned (.tuple #[]) ∧ ∃ us' : List Rc, us'.Perm us ∧ us'.Pairwise (fun a b => a.seq ≤ b.seq) ∧ Rowed recE (fun _ => False) B 44 w' us' v ∧ Below B w w'
/-- What sorting does. -/
def SortSpec : Prop := ∀ (B : Nat) (v : Value) (us : List Rc) (w : World), Rowed recE (fun _ => False) B 44 w us v → us.length ≤ 100000 → B ≤ w.heap.size →
  Calls Tryz.prog 31 #[v, .func (.func 32) #[] #[]] w fun e w' => SortedOut B v us w e w'

theorem rc_of {n : Nat} {h : He} (hs : h.seq < 4294967296) : recOf h.label h.pay = h.rc := by
  unfold recOf He.rc He.pay
  rw [numOf_pay _ hs]
theorem seg_recs {H : List He} (hs : ∀ h, h ∈ H → h.seq < 4294967296) (i : Nat) : (segOf H i).map (recOf (i : Int)) = (segL H i).map He.rc := by
  unfold segOf
  rw [List.map_map]
  refine List.map_congr_left (fun h hh => ?_)
  have h1 := (List.mem_filter.1 hh).1
  have h2 : h.label = i := by simpa using (List.mem_filter.1 hh).2
  show recOf (i : Int) h.pay = h.rc
  rw [← h2]
  exact rc_of (n := 0) (hs h h1)
/-- What Records answers. -/
def RecsOut (H : List He) (w : World) (e : Ending) (w' : World) : Prop :=
  ∃ (B : Nat) (v : Value) (us : List Rc), w.heap.size ≤ B ∧ B ≤ w'.heap.size ∧ e = .returned v ∧ Below w.heap.size w w' ∧ Rowed recE (fun _ => False) B 44 w' us v ∧ us.map Rc.erase = H.map He.rc
theorem segL_len (H : List He) (i : Nat) : (segL H i).length ≤ H.length := List.length_filter_le _ _
theorem inSegs_len (H : List He) : ∀ n, (inSegs H n).length ≤ n * H.length
  | 0 => by simp [inSegs]
  | n + 1 => by
    have ih := inSegs_len H n
    have := segL_len H n
    simp only [inSegs, List.length_append, Nat.succ_mul]
    omega
set_option maxHeartbeats 4000000 in
set_option maxRecDepth 100000 in
theorem records_any (hsort : SortSpec) (j d : Nat) (s : Jt) (H : List He) (r : Nat → ByteArray) (w : World) (h : JAt w j d s) (hh : Hist s.n s.rows H r) (hs : ∀ h, h ∈ H → h.seq < 4294967296) (hH : H.length ≤ 10000) :
    Calls Tryz.prog 14 #[.pointer (some ⟨j, 0, none⟩)] w fun e w' => RecsOut H w e w' := by
  obtain ⟨i0, hi0, hz0, hz1, hz2⟩ := info_parts rec_facts
  have c1 := h.jb.cell 1
  simp at c1
  have hn8 := h.dk.n8
  have hrd := fun (i : Nat) (hi : i < s.n) (W : World) (hb : Below w.heap.size w W) => jread_any j d s (i : Int) ((cat (segOf H i)).size : Int) (segOf H i) W (h.below hb) ⟨by omega, by omega⟩ (by
    have e : readR s.n s.rows (i : Int) = rowOf s.rows (i : Int) := by
      unfold readR isSeg
      rw [decide_eq_true (by omega)]
      rfl
    rw [e]
    exact hh.all hi) (fun p hp => by
      obtain ⟨x, hx, rfl⟩ := List.mem_map.1 hp
      have := hh.ok x (List.mem_filter.1 hx).1
      unfold He.pay
      rw [payB_size]
      have := this.1
      omega)
  have hfin : ∀ us us' : List Rc, us.map Rc.erase = (inSegs H s.n).map He.rc → us'.Perm us → us'.Pairwise (fun a b => a.seq ≤ b.seq) → us'.map Rc.erase = H.map He.rc := fun us us' h1 h2 h3 => by
    refine rising_same Rc.seq ?_ ?_ ?_
    · refine (h2.map _).trans ?_
      rw [h1]
      exact (inSegs_perm (fun x hx => (hh.ok x hx).2.1)).map _
    · rw [List.pairwise_map]
      exact hh.up.imp (fun {a b} hab => by show ((a.seq : Nat) : Int) < b.seq; omega)
    · rw [List.pairwise_map]
      exact h3
  have hsr := seg_recs hs
  have hil := inSegs_len H s.n
  have hsl := segL_len H
  obtain ⟨n, hn⟩ : ∃ n, n = s.n := ⟨_, rfl⟩
  have hil2 : ∀ k, k ≤ 8 → (inSegs H k).length ≤ 80000 := fun k hk => by
    have := inSegs_len H k
    have := Nat.mul_le_mul hk hH
    omega
  rw [← hn] at c1 hn8 hrd hfin hil
  have HRD := Lib.hid hrd; have HFI := Lib.hid hfin; have HSR := Lib.hid hsr; have HSRT := Lib.hid hsort; have HIL := Lib.hid hil2; have HI0 := Lib.hid hi0; have HZ0 := Lib.hid hz0; have HZ1 := Lib.hid hz1; have HZ2 := Lib.hid hz2; have HSL := Lib.hid hsl; have HH := Lib.hid hH
  clear hrd hfin hsr hsort hil hil2 hi0 hz0 hz1 hz2 h hh hs hn hsl hH
  go_enter Tryz.func14, Tryz.ntmps14
  go_wp2_with fail
  go_loopw [2, 12] (fun lv iv wr => ∃ (i : Nat) (us : List Rc), i ≤ n ∧ iv = .int .i64 (i : Int) ∧ Hid (us.map Rc.erase = (inSegs H i).map He.rc) ∧ Hid (Rowed recE (fun _ => False) w.heap.size 44 wr us lv) ∧ Hid (Below w.heap.size w wr)) (fun _ iv _ => n - (intOf iv).toNat)
  case atStart => exact ⟨0, [], by omega, rfl, Lib.hid rfl, Lib.hid (rowed_start _), Lib.hid (Below.refl _ _)⟩
  case round =>
    obtain ⟨i, us, hi, rfl, HM, HG, HBL⟩ := hrel
    obtain ⟨ax, cx, rfl⟩ := HG.out.form
    have husl : us.length ≤ 80000 := by
      have h1 := congrArg List.length HM.out
      have h2 := HIL.out i (by omega)
      rw [List.length_map, List.length_map] at h1
      omega
    by_cases hlt : i < n
    · have hk1 : (i : Int) < (n : Int) := by omega
      have HR1 := Lib.hid (HRD.out i hlt wr HBL.out)
      have hzr := HBL.out.size
      go_wp2_with fail
      refine HR1.out.mono ?_
      rintro e w1 ⟨B1, v1, us1, hB1, rfl, hb1, hr1, hm1⟩
      have hul1 : us1.length ≤ 10000 := by
        have h1 := congrArg List.length hm1
        rw [List.length_map, HSR.out, List.length_map] at h1
        have := HSL.out i
        have := HH.out
        omega
      obtain ⟨ax1, cx1, rfl⟩ := hr1.form
      have hrow1 : Rowed recE (fun _ => False) w.heap.size 44 w1 us (.slice ax us.length cx) := HG.out.below hb1
      have hreads := Reads.of_own hr1.items
      have HROW := Lib.hid hrow1; have HRE := Lib.hid hreads; have HB1 := Lib.hid hb1; have HR1' := Lib.hid hr1; have HM1 := Lib.hid (hm1.trans (HSR.out i)); have HBB := Lib.hid hB1
      have hz1' := hb1.size
      clear hb1 hr1 hm1 hrow1 hreads HR1 hB1
      go_wp2_with (at_builtin; refine wpList_append_any _ rfl (.tmp 21) (.tmp 22) 30 rfl w.heap.size 44 i0 (.agg #[.int .i64 0, .int .i64 0, .int .i64 0, .int .i64 0, .int .i64 0, .int .i64 0, .int .i64 0, .int .i64 0, .int .i64 0, .float .f64 0, .string ByteArray.empty, .slice none 0 0, .slice none 0 0, .int .i64 0, .int .i64 0, .float .f64 0, .string ByteArray.empty, .slice none 0 0, .slice none 0 0]) 19 232 Tryz.underlying30 HI0.out HZ0.out HZ1.out HZ2.out rfl (by decide) _ us.length (recE.row us) rfl HROW.out.items _ ax1 us1.length cx1 (recE.row us1) rfl HRE.out (fun u hu => by
          obtain ⟨x, hx, hu⟩ := List.mem_flatMap.1 hu
          exact recE.one x u hu) (by unfold maxLen; omega) (by omega) (by omega) ?_)
      intro v' w8 hown' hgrow hor
      have hg8 := Rowed_more (xs := us1) (Z := B1) HROW.out (fun b hb => hb.elim) (fun x hx => ⟨(HR1'.out.each x hx).1, recE.mono (HR1'.out.each x hx).2 (fun b hb => hb.1)⟩) (by have := HBB.out; omega) (fun b hb => by
        have h1 := own_lt HG.out.items hb
        have := HBB.out
        omega) hown' hgrow hor
      have hb8 : Below w.heap.size w w8 := (HBL.out.trans (HB1.out.mono hzr)).grown hgrow (by omega) (fun k hk => own_ge HROW.out.items hk)
      have hmF : (us ++ us1).map Rc.erase = (inSegs H (i + 1)).map He.rc := by
        rw [List.map_append, HM.out, HM1.out, ← List.map_append]
        rfl
      obtain ⟨ax', cx', rfl⟩ := row_form hown'
      have HG8 := Lib.hid hg8; have HB8 := Lib.hid hb8; have HMF := Lib.hid hmF
      clear hg8 hb8 hmF hown' hgrow hor
      go_wp2
      go_roundw
      case rel => exact ⟨i + 1, us ++ us1, by omega, rfl, HMF, HG8, HB8⟩
      case measure => simp [intOf]; omega
    · obtain rfl : i = n := by omega
      have hk1 : ¬ ((i : Int) < (i : Int)) := by omega
      have HS := Lib.hid (HSRT.out w.heap.size _ us wr HG.out (by omega) HBL.out.size)
      go_wp2_with fail
      refine HS.out.mono ?_
      rintro e w2 ⟨rfl, us', hp, hpw, hr2, hb2⟩
      have HF := Lib.hid (show Below w.heap.size w w2 ∧ Rowed recE (fun _ => False) w.heap.size 44 w2 us' (.slice ax us.length cx) ∧ us'.map Rc.erase = H.map He.rc ∧ w.heap.size ≤ w2.heap.size from
        ⟨HBL.out.trans hb2, hr2, HFI.out us us' HM.out hp hpw, (HBL.out.trans hb2).size⟩)
      clear hp hpw hr2 hb2 HS
      go_wp2
      go_ret
      exact ⟨w.heap.size, _, us', Nat.le_refl _, HF.out.2.2.2, rfl, HF.out.1, HF.out.2.1, HF.out.2.2.1⟩
end Go.Proofs.YtaamihdibpioaaaGreat.Jr
