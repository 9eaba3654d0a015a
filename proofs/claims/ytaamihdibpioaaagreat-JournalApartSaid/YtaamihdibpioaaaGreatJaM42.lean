/- journal: what is read of a segment. -/
import Derived.Test.YtaamihdibpioaaaGreatJaM5
import Derived.Test.YtaamihdibpioaaaGreatJaM40
import Derived.Test.YtaamihdibpioaaaGreatJaM41
namespace Go.Proofs.YtaamihdibpioaaaGreat.Jr
set_option linter.unusedVariables false
open Go.RowKit Go.Proofs.YtaamihdibpioaaaGreat.Crc Go.Proofs.YtaamihdibpioaaaGreat.Pk

/-- A record as it is read. -/
def recOf (label : Int) (p : ByteArray) : Rc := ⟨numOf (p.extract 0 4), label, readC p⟩
def cmdOf : Option (Cm × Nat) → Cm
  | some (c, _) => c
  | none => Cm.zero
theorem readC_of (p : ByteArray) : readC p = cmdOf (rdCm p (min 4 p.size)) := by
  unfold readC
  cases rdCm p (min 4 p.size) <;> rfl
theorem CmdRead.any {r : Option (Cm × Nat)} {w w' : World} {e : Ending} (h : CmdRead r w e w') :
    Below w.heap.size w w' ∧ ∃ (u : Cm) (q k : Int), e = .returned (.tuple #[u.agg, .int .i64 q, .int .i64 k]) ∧ u.erase = cmdOf r ∧ u.In w' ∧ u.Sep (fun b => w.heap.size ≤ b) := by
  refine ⟨h.1, ?_⟩
  have h2 := h.2
  cases r with
  | none => exact ⟨Cm.zero, 0, 5, h2, rfl, ⟨fun x hx => by simp [Cm.ints] at hx; subst hx; exact ⟨by omega, by omega⟩, zero_in _, zero_in _⟩, zero_sep _, zero_sep _⟩
  | some x =>
    obtain ⟨c, q⟩ := x
    obtain ⟨u, h3, h4, h5, h6⟩ := h2
    exact ⟨u, q, 0, h3, h4, h5, h6⟩
theorem rec_one {S4 p : ByteArray} {u : Cm} {label : Int} (h : S4 = p.extract 0 4) (hu : u.erase = readC p) : Rc.erase ⟨(numOf S4 : Int), label, u⟩ = recOf label p := by
  unfold recOf Rc.erase
  rw [← h, hu]
def JReadOut (ps : List ByteArray) (label good : Int) (w : World) (e : Ending) (w' : World) : Prop :=
  ∃ (B : Nat) (v : Value) (us : List Rc), w.heap.size ≤ B ∧ e = .returned (.tuple #[v, .int .i64 good]) ∧ Below w.heap.size w w' ∧ Rowed recE (fun _ => False) B 44 w' us v ∧ us.map Rc.erase = ps.map (recOf label)
theorem rec_facts : (Tryz.prog.info? 44).map (fun i => (i.zero, i.size, i.bytes)) = some (some (.agg #[.int .i64 0, .int .i64 0, .int .i64 0, .int .i64 0, .int .i64 0, .int .i64 0, .int .i64 0, .int .i64 0, .int .i64 0, .float .f64 0, .string ByteArray.empty, .slice none 0 0, .slice none 0 0, .int .i64 0, .int .i64 0, .float .f64 0, .string ByteArray.empty, .slice none 0 0, .slice none 0 0]), 19, 232) := by kernel_rfl
set_option maxHeartbeats 4000000 in
set_option maxRecDepth 100000 in
theorem jread_any (j d : Nat) (s : Jt) (label good : Int) (ps : List ByteArray) (w : World) (h : JAt w j d s) (hl : i64r label) (ha : allOf (readR s.n s.rows label) = (ps, good)) (hps : ∀ p, p ∈ ps → 4 ≤ p.size ∧ p.size ≤ 2000) :
    Calls Tryz.prog 28 #[.pointer (some ⟨j, 0, none⟩), .int .i64 label] w fun e w' => JReadOut ps label good w e w' := by
  have hsf := run_store_flt
  have c0 := h.jb.cell 0
  simp at c0
  have HR := Lib.hid (read_any d s.n s.rows label w h.db h.dk)
  have hsz : (readR s.n s.rows label).size ≤ 10000 := by
    unfold readR
    cases hs : isSeg s.n label with
    | false => simp
    | true =>
      have := rowOf_size h.dk label
      simp only [cond_true]
      omega
  have hal := all_any (readR s.n s.rows label) w hsz
  have hlen := all_len (readR s.n s.rows label)
  unfold Alled at hal
  rw [ha] at hal hlen
  simp only at hal hlen
  obtain ⟨i0, hi0, hz0, hz1, hz2⟩ := info_parts rec_facts
  obtain ⟨n, hn⟩ : ∃ n, n = ps.length := ⟨_, rfl⟩
  rw [← hn] at hal hlen
  have hn1 : n ≤ 10001 := by omega
  have HAL := Lib.hid hal; have HN := Lib.hid hn; have HPS := Lib.hid hps; have HI0 := Lib.hid hi0; have HZ0 := Lib.hid hz0; have HZ1 := Lib.hid hz1; have HZ2 := Lib.hid hz2; have HLB := Lib.hid hl
  clear hal hn hps hi0 hz0 hz1 hz2 h ha hlen hsz hl
  go_enter Tryz.func28, Tryz.ntmps28
  go_wp2_with fail
  refine HR.out.mono ?_
  rintro e w0 ⟨rfl, rfl⟩
  go_wp2_with fail
  refine HAL.out.mono ?_
  rintro e w1 ⟨fv, rfl, hown, hb1⟩
  obtain ⟨fa, fc, rfl⟩ := row_form hown
  have HOW := Lib.hid hown; have HB1 := Lib.hid hb1
  clear hown hb1 c0 HR HAL
  go_wp2_with fail
  go_loopw [4, 25] (fun lv iv wr => ∃ (i : Nat) (us : List Rc), i ≤ n ∧ iv = .int .i64 (i : Int) ∧ Hid (us.map Rc.erase = (ps.take i).map (recOf label)) ∧ Hid (Rowed recE (fun _ => False) w1.heap.size 44 wr us lv) ∧ Hid (Below w1.heap.size w1 wr)) (fun _ iv _ => n - (intOf iv).toNat)
  case atStart => exact ⟨0, [], by omega, rfl, Lib.hid rfl, Lib.hid (rowed_start _), Lib.hid (Below.refl _ _)⟩
  case round =>
    obtain ⟨i, us, hi, rfl, HM, HG, HBL⟩ := hrel
    by_cases hlt : i < n
    · have hil : i < ps.length := by rw [← HN.out]; exact hlt
      obtain ⟨p, hp⟩ : ∃ p, p = ps[i]'hil := ⟨_, rfl⟩
      obtain ⟨g, rfl, hgl, hcell, hcap⟩ : ∃ g, fa = some ⟨g, 0, none⟩ ∧ g < w1.heap.size ∧ w1.cell? ⟨g, i, none⟩ = some (.string p) ∧ n ≤ fc := by
        rcases HOW.out.2 with ⟨_, h0⟩ | ⟨g, cap, cur, hv, hb, hg, hrest⟩
        · omega
        · injection hv with h1 h2 h3
          subst h1
          refine ⟨g, rfl, (show Blk w1 g 9 cur from hg).lt, ?_, ?_⟩
          · have := HOW.out.cells (g := g) rfl i (.string p) (by simp [hil, hp])
            rw [Addr.add_lit, Nat.zero_add] at this
            exact this
          · rw [h3]; exact hrest.1
      have hmem : p ∈ ps := by rw [hp]; exact List.getElem_mem hil
      obtain ⟨hp4, hp2⟩ := HPS.out p hmem
      have htk : ps.take (i + 1) = ps.take i ++ [p] := by rw [hp, List.take_succ_eq_append_getElem hil]
      have hrc := readcmd_any p 4 wr (by omega) (by omega)
      have hrC : readC p = cmdOf (rdCm p 4) := by rw [readC_of, Nat.min_eq_left hp4]
      obtain ⟨S4, hS4⟩ : ∃ S4, S4 = p.extract 0 4 := ⟨_, rfl⟩
      have hS4z : S4.size = 4 := by rw [hS4, ByteArray.size_extract]; omega
      have hcl := (HBL.out.cell (p := ⟨g, i, none⟩) hgl).trans hcell
      have hnum := fun W : World => numbered_any S4 W hS4z
      have hnl : numOf S4 < 4294967296 := by
        unfold numOf
        have b0 := UInt8.toNat_lt (byteAt S4 0); have b1 := UInt8.toNat_lt (byteAt S4 1); have b2 := UInt8.toNat_lt (byteAt S4 2); have b3 := UInt8.toNat_lt (byteAt S4 3)
        omega
      obtain ⟨ax, cx, rfl⟩ := HG.out.form
      have hk0 : (0 : Int) ≤ (i : Int) := by omega
      have hk1 : (i : Int) < (n : Int) := by omega
      have hmn : min (4 : Int) (p.size : Int) = 4 := by omega
      have hmn2 : ¬ ((p.size : Int) < 4) := by omega
      have HTK := Lib.hid htk; have HRC := Lib.hid hrc; have HRD := Lib.hid hrC; have HS4 := Lib.hid hS4; have HNUM := Lib.hid hnum; have HNL := Lib.hid hnl
      have hz1 := HBL.out.size
      have husl : us.length ≤ 10001 := by
        have := congrArg List.length HM.out
        rw [List.length_map, List.length_map, List.length_take] at this
        omega
      clear hp hmem htk hrc hrC hS4 hS4z hnum hnl hil hcell
      go_wp2_with fail
      refine HRC.out.mono ?_
      rintro e w3 hr
      obtain ⟨hb3, u, q, k, rfl, hue, hui, hus⟩ := CmdRead.any hr
      obtain ⟨p4, q4, e4⟩ := hui.2.1.nslice
      obtain ⟨p5, q5, e5⟩ := hui.2.1.xslice
      obtain ⟨r4, t4, f4⟩ := hui.2.2.nslice
      obtain ⟨r5, t5, f5⟩ := hui.2.2.xslice
      have hag : u.agg = .agg #[.int .i64 u.k, .int .i64 u.nd, .int .i64 u.il, .int .i64 u.inn, .int .i64 u.n, .int .i64 u.key.k, .int .i64 u.key.n, .float .f64 u.key.f, .string u.key.s, .slice p4 u.key.ns.length q4, .slice p5 u.key.xs.length q5, .int .i64 u.v.k, .int .i64 u.v.n, .float .f64 u.v.f, .string u.v.s, .slice r4 u.v.ns.length t4, .slice r5 u.v.xs.length t5] := by
        unfold Cm.agg Cm.cells Val.cells; rw [e4, e5, f4, f5]; rfl
      obtain ⟨X, hX⟩ : ∃ X, X = w3.heap.size := ⟨_, rfl⟩
      obtain ⟨W4, hW4⟩ : ∃ W4, W4 = w3.alloc (.cells #[.int .i64 u.k, .int .i64 u.nd, .int .i64 u.il, .int .i64 u.inn, .int .i64 u.n, .int .i64 u.key.k, .int .i64 u.key.n, .float .f64 u.key.f, .string u.key.s, .slice p4 u.key.ns.length q4, .slice p5 u.key.xs.length q5, .int .i64 u.v.k, .int .i64 u.v.n, .float .f64 u.v.f, .string u.v.s, .slice r4 u.v.ns.length t4, .slice r5 u.v.xs.length t5] 39) := ⟨_, rfl⟩
      have hbX : Blk W4 X 39 #[.int .i64 u.k, .int .i64 u.nd, .int .i64 u.il, .int .i64 u.inn, .int .i64 u.n, .int .i64 u.key.k, .int .i64 u.key.n, .float .f64 u.key.f, .string u.key.s, .slice p4 u.key.ns.length q4, .slice p5 u.key.xs.length q5, .int .i64 u.v.k, .int .i64 u.v.n, .float .f64 u.v.f, .string u.v.s, .slice r4 u.v.ns.length t4, .slice r5 u.v.xs.length t5] := by rw [hW4, hX]; exact Blk.new _ _ _
      have hb34 : Below w3.heap.size w3 W4 := by rw [hW4]; exact (Below.refl _ _).alloc (Nat.le_refl _) _
      have hb4 : Below wr.heap.size wr W4 := hb3.trans (hb34.mono hb3.size)
      have hui4 : u.In W4 := hui.below hb34
      have hrow4 : Rowed recE (fun _ => False) w1.heap.size 44 W4 us (.slice ax us.length cx) := HG.out.below hb4
      have hcells : ([.int .i64 (numOf S4), .int .i64 label] ++ u.cells : List Value) = [.int .i64 (numOf S4), .int .i64 label, .int .i64 u.k, .int .i64 u.nd, .int .i64 u.il, .int .i64 u.inn, .int .i64 u.n, .int .i64 u.key.k, .int .i64 u.key.n, .float .f64 u.key.f, .string u.key.s, .slice p4 u.key.ns.length q4, .slice p5 u.key.xs.length q5, .int .i64 u.v.k, .int .i64 u.v.n, .float .f64 u.v.f, .string u.v.s, .slice r4 u.v.ns.length t4, .slice r5 u.v.xs.length t5] := by
        unfold Cm.cells Val.cells; rw [e4, e5, f4, f5]; rfl
      have hown5 := World.ownsRow.alloc (w := W4.drew) hrow4.items (.cells [.int .i64 (numOf S4), .int .i64 label, .int .i64 u.k, .int .i64 u.nd, .int .i64 u.il, .int .i64 u.inn, .int .i64 u.n, .int .i64 u.key.k, .int .i64 u.key.n, .float .f64 u.key.f, .string u.key.s, .slice p4 u.key.ns.length q4, .slice p5 u.key.xs.length q5, .int .i64 u.v.k, .int .i64 u.v.n, .float .f64 u.v.f, .string u.v.s, .slice r4 u.v.ns.length t4, .slice r5 u.v.xs.length t5].toArray 44)
      have HXW := Lib.hid hb3.size; have HB4 := Lib.hid hb4; have HUI := Lib.hid hui4; have HUS := Lib.hid hus; have HUE := Lib.hid (hue.trans HRD.out.symm); have HX := Lib.hid hX; have HW4 := Lib.hid hW4; have HBX := Lib.hid hbX; have HROW := Lib.hid hrow4; have HCL := Lib.hid hcells; have HOW5 := Lib.hid hown5
      have HZX : Hid (∀ b, (Value.slice ax us.length cx).ownBlock = some b → b < wr.heap.size) := Lib.hid (fun b hb => by
        rcases HG.out.items.2 with ⟨h, _⟩ | ⟨g', cap, cur, h, _, hg', _⟩
        · rw [h] at hb; cases hb
        · rw [h] at hb
          injection hb with hb
          subst hb
          exact (show Blk wr g' 44 cur from hg').lt)
      rw [hag]
      clear hb3 hue hui hus e4 e5 f4 f5 hag hX hW4 hbX hb34 hb4 hui4 hrow4 hcells hown5 hr HRC hcl
      go_upto_region 7 with fail
      rw [← HW4.out, ← HX.out]
      refine wp_region_held_drew (S := (fun Y => Blk Y X 39 #[.int .i64 u.k, .int .i64 u.nd, .int .i64 u.il, .int .i64 u.inn, .int .i64 u.n, .int .i64 u.key.k, .int .i64 u.key.n, .float .f64 u.key.f, .string u.key.s, .slice p4 u.key.ns.length q4, .slice p5 u.key.xs.length q5, .int .i64 u.v.k, .int .i64 u.v.n, .float .f64 u.v.f, .string u.v.s, .slice r4 u.v.ns.length t4, .slice r5 u.v.xs.length t5])) (by kernel_rfl) (HBX.out.drew) (fun hHeld => ?_)
      refine held_take (i := 0) (d := some 39) (v := ?_) rfl rfl (by kernel_rfl) (by kernel_rfl) (by kernel_rfl) (fun _ _ _ h => h) (by rfl) ?_ hHeld ?_
      rotate_left
      · (intro w hSw; (try dsimp only at hSw); have hX := hSw; have x0 := hX.cell 0; have x1 := hX.cell 1; have x2 := hX.cell 2; have x3 := hX.cell 3; have x4 := hX.cell 4; have x5 := hX.cell 5; have x6 := hX.cell 6; have x7 := hX.cell 7; have x8 := hX.cell 8; have x9 := hX.cell 9; have x10 := hX.cell 10; have x11 := hX.cell 11; have x12 := hX.cell 12; have x13 := hX.cell 13; have x14 := hX.cell 14; have x15 := hX.cell 15; have x16 := hX.cell 16; simp only [List.getElem?_toArray, List.getElem?_cons_zero, List.getElem?_cons_succ] at x0 x1 x2 x3 x4 x5 x6 x7 x8 x9 x10 x11 x12 x13 x14 x15 x16; clear hX; go_simp; try with_reducible rfl)
      try simp only [Act.put, List.setIfInBounds_toArray, List.set_cons_zero, List.set_cons_succ]
      refine held_take (i := 1) (d := some 40) (v := ?_) rfl rfl (by kernel_rfl) (by kernel_rfl) (by kernel_rfl) (fun _ _ _ h => h) (by rfl) ?_ hHeld ?_
      rotate_left
      · (intro w hSw; (try dsimp only at hSw); have hX := hSw; have x0 := hX.cell 0; have x1 := hX.cell 1; have x2 := hX.cell 2; have x3 := hX.cell 3; have x4 := hX.cell 4; have x5 := hX.cell 5; have x6 := hX.cell 6; have x7 := hX.cell 7; have x8 := hX.cell 8; have x9 := hX.cell 9; have x10 := hX.cell 10; have x11 := hX.cell 11; have x12 := hX.cell 12; have x13 := hX.cell 13; have x14 := hX.cell 14; have x15 := hX.cell 15; have x16 := hX.cell 16; simp only [List.getElem?_toArray, List.getElem?_cons_zero, List.getElem?_cons_succ] at x0 x1 x2 x3 x4 x5 x6 x7 x8 x9 x10 x11 x12 x13 x14 x15 x16; clear hX; go_simp; try with_reducible rfl)
      try simp only [Act.put, List.setIfInBounds_toArray, List.set_cons_zero, List.set_cons_succ]
      refine held_take (i := 2) (d := some 41) (v := ?_) rfl rfl (by kernel_rfl) (by kernel_rfl) (by kernel_rfl) (fun _ _ _ h => h) (by rfl) ?_ hHeld ?_
      rotate_left
      · (intro w hSw; (try dsimp only at hSw); have hX := hSw; have x0 := hX.cell 0; have x1 := hX.cell 1; have x2 := hX.cell 2; have x3 := hX.cell 3; have x4 := hX.cell 4; have x5 := hX.cell 5; have x6 := hX.cell 6; have x7 := hX.cell 7; have x8 := hX.cell 8; have x9 := hX.cell 9; have x10 := hX.cell 10; have x11 := hX.cell 11; have x12 := hX.cell 12; have x13 := hX.cell 13; have x14 := hX.cell 14; have x15 := hX.cell 15; have x16 := hX.cell 16; simp only [List.getElem?_toArray, List.getElem?_cons_zero, List.getElem?_cons_succ] at x0 x1 x2 x3 x4 x5 x6 x7 x8 x9 x10 x11 x12 x13 x14 x15 x16; clear hX; go_simp; try with_reducible rfl)
      try simp only [Act.put, List.setIfInBounds_toArray, List.set_cons_zero, List.set_cons_succ]
      refine held_take (i := 3) (d := some 42) (v := ?_) rfl rfl (by kernel_rfl) (by kernel_rfl) (by kernel_rfl) (fun _ _ _ h => h) (by rfl) ?_ hHeld ?_
      rotate_left
      · (intro w hSw; (try dsimp only at hSw); have hX := hSw; have x0 := hX.cell 0; have x1 := hX.cell 1; have x2 := hX.cell 2; have x3 := hX.cell 3; have x4 := hX.cell 4; have x5 := hX.cell 5; have x6 := hX.cell 6; have x7 := hX.cell 7; have x8 := hX.cell 8; have x9 := hX.cell 9; have x10 := hX.cell 10; have x11 := hX.cell 11; have x12 := hX.cell 12; have x13 := hX.cell 13; have x14 := hX.cell 14; have x15 := hX.cell 15; have x16 := hX.cell 16; simp only [List.getElem?_toArray, List.getElem?_cons_zero, List.getElem?_cons_succ] at x0 x1 x2 x3 x4 x5 x6 x7 x8 x9 x10 x11 x12 x13 x14 x15 x16; clear hX; go_simp; try with_reducible rfl)
      try simp only [Act.put, List.setIfInBounds_toArray, List.set_cons_zero, List.set_cons_succ]
      refine held_take (i := 5) (d := some 44) (v := ?_) rfl rfl (by kernel_rfl) (by kernel_rfl) (by kernel_rfl) (fun _ _ _ h => h) (by rfl) ?_ hHeld ?_
      rotate_left
      · (intro w hSw; (try dsimp only at hSw); have hX := hSw; have x0 := hX.cell 0; have x1 := hX.cell 1; have x2 := hX.cell 2; have x3 := hX.cell 3; have x4 := hX.cell 4; have x5 := hX.cell 5; have x6 := hX.cell 6; have x7 := hX.cell 7; have x8 := hX.cell 8; have x9 := hX.cell 9; have x10 := hX.cell 10; have x11 := hX.cell 11; have x12 := hX.cell 12; have x13 := hX.cell 13; have x14 := hX.cell 14; have x15 := hX.cell 15; have x16 := hX.cell 16; simp only [List.getElem?_toArray, List.getElem?_cons_zero, List.getElem?_cons_succ] at x0 x1 x2 x3 x4 x5 x6 x7 x8 x9 x10 x11 x12 x13 x14 x15 x16; clear hX; go_simp; try with_reducible rfl)
      try simp only [Act.put, List.setIfInBounds_toArray, List.set_cons_zero, List.set_cons_succ]
      refine held_take (i := 6) (d := some 45) (v := ?_) rfl rfl (by kernel_rfl) (by kernel_rfl) (by kernel_rfl) (fun _ _ _ h => h) (by rfl) ?_ hHeld ?_
      rotate_left
      · (intro w hSw; (try dsimp only at hSw); have hX := hSw; have x0 := hX.cell 0; have x1 := hX.cell 1; have x2 := hX.cell 2; have x3 := hX.cell 3; have x4 := hX.cell 4; have x5 := hX.cell 5; have x6 := hX.cell 6; have x7 := hX.cell 7; have x8 := hX.cell 8; have x9 := hX.cell 9; have x10 := hX.cell 10; have x11 := hX.cell 11; have x12 := hX.cell 12; have x13 := hX.cell 13; have x14 := hX.cell 14; have x15 := hX.cell 15; have x16 := hX.cell 16; simp only [List.getElem?_toArray, List.getElem?_cons_zero, List.getElem?_cons_succ] at x0 x1 x2 x3 x4 x5 x6 x7 x8 x9 x10 x11 x12 x13 x14 x15 x16; clear hX; go_simp; try with_reducible rfl)
      try simp only [Act.put, List.setIfInBounds_toArray, List.set_cons_zero, List.set_cons_succ]
      rw [← HS4.out]
      refine held_only (i := 4) (by kernel_rfl) rfl (by rfl) (fun K hK => ?_)
      go_simp
      go_at_call 48
      refine (HNUM.out _).mono ?_
      rintro e w' ⟨rfl, rfl⟩
      refine hK.out _ _ (HBX.out.drew) (fun hHeld => ?_)
      clear hK K
      try simp only [Act.put, List.setIfInBounds_toArray, List.set_cons_zero, List.set_cons_succ]
      refine held_take (i := 7) (d := some 46) (v := ?_) rfl rfl (by kernel_rfl) (by kernel_rfl) (by kernel_rfl) (fun _ _ _ h => h) (by rfl) ?_ hHeld ?_
      rotate_left
      · (intro w hSw; (try dsimp only at hSw); have hX := hSw; have x0 := hX.cell 0; have x1 := hX.cell 1; have x2 := hX.cell 2; have x3 := hX.cell 3; have x4 := hX.cell 4; have x5 := hX.cell 5; have x6 := hX.cell 6; have x7 := hX.cell 7; have x8 := hX.cell 8; have x9 := hX.cell 9; have x10 := hX.cell 10; have x11 := hX.cell 11; have x12 := hX.cell 12; have x13 := hX.cell 13; have x14 := hX.cell 14; have x15 := hX.cell 15; have x16 := hX.cell 16; simp only [List.getElem?_toArray, List.getElem?_cons_zero, List.getElem?_cons_succ] at x0 x1 x2 x3 x4 x5 x6 x7 x8 x9 x10 x11 x12 x13 x14 x15 x16; clear hX; go_simp; try with_reducible rfl)
      try simp only [Act.put, List.setIfInBounds_toArray, List.set_cons_zero, List.set_cons_succ]
      refine held_only (i := 8) (by kernel_rfl) rfl (by rfl) (fun K hK => ?_)
      go_simp
      refine hK.out _ _ ((HBX.out.drew).alloc _) (fun hHeld => ?_)
      clear hK K
      try simp only [Act.put, List.setIfInBounds_toArray, List.set_cons_zero, List.set_cons_succ]
      refine held_only (i := 9) (by kernel_rfl) rfl (by rfl) (fun K hK => ?_)
      have hred := row_reads W4.drew [.int .i64 (numOf S4), .int .i64 label, .int .i64 u.k, .int .i64 u.nd, .int .i64 u.il, .int .i64 u.inn, .int .i64 u.n, .int .i64 u.key.k, .int .i64 u.key.n, .float .f64 u.key.f, .string u.key.s, .slice p4 u.key.ns.length q4, .slice p5 u.key.xs.length q5, .int .i64 u.v.k, .int .i64 u.v.n, .float .f64 u.v.f, .string u.v.s, .slice r4 u.v.ns.length t4, .slice r5 u.v.xs.length t5] 44
      refine wp_append_any (W4.drew.alloc (.cells [.int .i64 (numOf S4), .int .i64 label, .int .i64 u.k, .int .i64 u.nd, .int .i64 u.il, .int .i64 u.inn, .int .i64 u.n, .int .i64 u.key.k, .int .i64 u.key.n, .float .f64 u.key.f, .string u.key.s, .slice p4 u.key.ns.length q4, .slice p5 u.key.xs.length q5, .int .i64 u.v.k, .int .i64 u.v.n, .float .f64 u.v.f, .string u.v.s, .slice r4 u.v.ns.length t4, .slice r5 u.v.xs.length t5].toArray 44)) (.tmp 39) (.tmp 47) 30 rfl w1.heap.size 44 i0 (.agg #[.int .i64 0, .int .i64 0, .int .i64 0, .int .i64 0, .int .i64 0, .int .i64 0, .int .i64 0, .int .i64 0, .int .i64 0, .float .f64 0, .string ByteArray.empty, .slice none 0 0, .slice none 0 0, .int .i64 0, .int .i64 0, .float .f64 0, .string ByteArray.empty, .slice none 0 0, .slice none 0 0]) 19 232 Tryz.underlying30 HI0.out HZ0.out HZ1.out HZ2.out rfl (by decide) (.slice ax us.length cx) us.length (recE.row us) rfl HOW5.out (W4.heap.size + 1) (some ⟨W4.heap.size, 0, none⟩) 1 1 [.int .i64 (numOf S4), .int .i64 label, .int .i64 u.k, .int .i64 u.nd, .int .i64 u.il, .int .i64 u.inn, .int .i64 u.n, .int .i64 u.key.k, .int .i64 u.key.n, .float .f64 u.key.f, .string u.key.s, .slice p4 u.key.ns.length q4, .slice p5 u.key.xs.length q5, .int .i64 u.v.k, .int .i64 u.v.n, .float .f64 u.v.f, .string u.v.s, .slice r4 u.v.ns.length t4, .slice r5 u.v.xs.length t5] rfl hred (by rw [← HCL.out]; exact recE.one ⟨(numOf S4 : Int), label, u⟩) (by unfold maxLen; omega) (by omega) (by have := HB4.out.size; simp; omega) ?_
      intro v' w8 hown' hgrow hor
      have hal : Below W4.heap.size W4 (W4.drew.alloc (.cells [.int .i64 (numOf S4), .int .i64 label, .int .i64 u.k, .int .i64 u.nd, .int .i64 u.il, .int .i64 u.inn, .int .i64 u.n, .int .i64 u.key.k, .int .i64 u.key.n, .float .f64 u.key.f, .string u.key.s, .slice p4 u.key.ns.length q4, .slice p5 u.key.xs.length q5, .int .i64 u.v.k, .int .i64 u.v.n, .float .f64 u.v.f, .string u.v.s, .slice r4 u.v.ns.length t4, .slice r5 u.v.xs.length t5].toArray 44)) := (Below.refl W4.heap.size W4).drew.alloc (Nat.le_refl _) _
      have hlb := HLB.out; have hnl := HNL.out
      have hg8 := Rowed.item (x := (⟨(numOf S4 : Int), label, u⟩ : Rc)) (Z := wr.heap.size) (Rowed.below HROW.out hal) (fun b hb => hb.elim) (by have := HB4.out.size; simp; omega) ⟨⟨by show (-9223372036854775808 : Int) ≤ (numOf S4 : Int); omega, by show (numOf S4 : Int) ≤ 9223372036854775807; omega⟩, hlb, HUI.out.below hal⟩ (cmE.mono HUS.out (fun b hb => .inr hb)) (by omega) HZX.out (by rw [← HCL.out] at hown'; exact hown') hgrow hor
      have hbX8 : Blk w8 X 39 #[.int .i64 u.k, .int .i64 u.nd, .int .i64 u.il, .int .i64 u.inn, .int .i64 u.n, .int .i64 u.key.k, .int .i64 u.key.n, .float .f64 u.key.f, .string u.key.s, .slice p4 u.key.ns.length q4, .slice p5 u.key.xs.length q5, .int .i64 u.v.k, .int .i64 u.v.n, .float .f64 u.v.f, .string u.v.s, .slice r4 u.v.ns.length t4, .slice r5 u.v.xs.length t5] := Blk.grown (Blk.alloc (w := W4.drew) HBX.out (.cells [.int .i64 (numOf S4), .int .i64 label, .int .i64 u.k, .int .i64 u.nd, .int .i64 u.il, .int .i64 u.inn, .int .i64 u.n, .int .i64 u.key.k, .int .i64 u.key.n, .float .f64 u.key.f, .string u.key.s, .slice p4 u.key.ns.length q4, .slice p5 u.key.xs.length q5, .int .i64 u.v.k, .int .i64 u.v.n, .float .f64 u.v.f, .string u.v.s, .slice r4 u.v.ns.length t4, .slice r5 u.v.xs.length t5].toArray 44)) hgrow (fun e => by have h1 := HZX.out X e.symm; have h2 := HBX.out.lt; have h3 := HX.out; have h4 := HB4.out.size; have h5 := HXW.out; omega)
      have hb8 : Below w1.heap.size w1 w8 := ((HBL.out.trans (HB4.out.mono hz1)).trans (hal.mono (by have := HB4.out.size; omega))).grown hgrow (by have := HB4.out.size; simp; omega) (fun k hk => own_ge HROW.out.items hk)
      obtain ⟨ax', cx', rfl⟩ := row_form hown'
      have HG8 := Lib.hid hg8; have HBX8 := Lib.hid hbX8; have HB8 := Lib.hid hb8
      clear hg8 hbX8 hb8 hown' hgrow hor hal hred
      refine hK.out _ _ HBX8.out (fun hHeld => ?_)
      clear hK K
      try simp only [Act.put, List.setIfInBounds_toArray, List.set_cons_zero, List.set_cons_succ]
      refine held_take (i := 10) (d := some 4) (v := ?_) rfl rfl (by kernel_rfl) (by kernel_rfl) (by kernel_rfl) (fun _ _ _ h => h) (by rfl) ?_ hHeld ?_
      rotate_left
      · (intro w hSw; (try dsimp only at hSw); go_simp; try with_reducible rfl)
      try simp only [Act.put, List.setIfInBounds_toArray, List.set_cons_zero, List.set_cons_succ]
      refine wpAnyH_done (by kernel_rfl) ?_ _
      have hmapF : (us ++ [(⟨(numOf S4 : Int), label, u⟩ : Rc)]).map Rc.erase = (ps.take (i + 1)).map (recOf label) := by
        rw [HTK.out, List.map_append, List.map_append, HM.out]
        exact congrArg (fun r => (ps.take i).map (recOf label) ++ [r]) (rec_one HS4.out HUE.out)
      go_wp2
      go_roundw
      case rel =>
        refine ⟨i + 1, us ++ [⟨(numOf S4 : Int), label, u⟩], by omega, rfl, Lib.hid ?_, ?_, HB8⟩
        · exact hmapF
        · exact HG8
      case measure => simp [intOf]; omega
    · obtain rfl : i = n := by omega
      have HMF : Hid (us.map Rc.erase = ps.map (recOf label)) := Lib.hid (by
        have h1 := HM.out
        rw [HN.out, List.take_length] at h1
        exact h1)
      have hk1 : ¬ ((i : Int) < (i : Int)) := by omega
      have hz1 := HB1.out.size
      obtain ⟨ax, cx, rfl⟩ := HG.out.form
      go_wp2
      go_ret2
      exact ⟨_, _, us, hz1, rfl, HB1.out.trans (HBL.out.mono hz1), HG.out, HMF.out⟩
end Go.Proofs.YtaamihdibpioaaaGreat.Jr
