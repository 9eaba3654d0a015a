/- In every order of calls the segments have the bytes that the reference says, and refuse what it refuses. No conditions. -/
import Derived.Test.YtiemfdglejenpaaRow
import Derived.Test.YtiemfdglejenpaaOpenOps
import Derived.Test.YtiemfdglejenpaaRefDisk
import Derived.Deep.RegionHeld3
import Derived.Laws.MakeOwn
import Derived.Deep.OwnRows
namespace Go.Proofs.Ytiemfdglejenpaa.diskPlays
open Go.RowKit Go.ChangeShapes Go.WideShapes Go.Proofs.Ytiemfdglejenpaa.Ref17
open Go.ChangeMaps (open_string shut_string)
set_option linter.unusedVariables false

/-! The plain law: what the disk and the reference do to the first n rows is the same. -/
section
variable {n : Nat} {rows : List ByteArray} (hD : Dk n rows)
include hD
theorem rowOf_take {i : Int} (hi : isSeg n i = true) : rowOf (rows.take n) i = rowOf rows i := by
  obtain ⟨k, rfl, h1, _⟩ := hD.at_ hi
  simp [rowOf, List.getElem?_take, h1]
theorem tearE_take (i : Int) (s : ByteArray) : tearE n (rows.take n) i s = tearE n rows i s := by
  unfold tearE fits
  cases hi : isSeg n i
  · rfl
  · rw [rowOf_take hD hi]
theorem tearR_take (i : Int) (s : ByteArray) (keep : Int) : tearR n (rows.take n) i s keep = (tearR n rows i s keep).take n := by
  unfold tearR fits
  cases hi : isSeg n i
  · rfl
  · rw [rowOf_take hD hi]
    simp only [Bool.true_and]
    cases decide ((rowOf rows i).size + s.size ≤ 4000)
    · rfl
    · simp only [cond_true, List.take_set]
theorem cutE_take (i m : Int) : cutE n (rows.take n) i m = cutE n rows i m := by
  unfold cutE within
  cases hi : isSeg n i
  · rfl
  · rw [rowOf_take hD hi]
theorem cutR_take (i m : Int) : cutR n (rows.take n) i m = (cutR n rows i m).take n := by
  unfold cutR within
  cases hi : isSeg n i
  · rfl
  · rw [rowOf_take hD hi]
    simp only [Bool.true_and]
    cases decide (0 ≤ m ∧ m ≤ ((rowOf rows i).size : Int))
    · rfl
    · simp only [cond_true, List.take_set]
theorem readR_take (i : Int) : readR n (rows.take n) i = readR n rows i := by
  unfold readR
  cases hi : isSeg n i
  · rfl
  · rw [rowOf_take hD hi]
end

section
variable {p q n : Nat} {rows : List ByteArray} {w : World} (h : RefAt w p q n (rows.take n)) (hD : Dk n rows)
include h hD
theorem ref_tear (i : Int) (s : ByteArray) (keep : Int) (hs : s.size ≤ 140737488355328) :
    Calls Try.prog 29 #[.pointer (some ⟨p, 0, none⟩), .int .i64 i, .string s, .int .i64 keep] w fun e w' => e = .returned (.int .i64 (tearE n rows i s)) ∧ Turned p q n ((tearR n rows i s keep).take n) w w' := by
  rw [← tearE_take hD, ← tearR_take hD]; exact Ref17.tear_any p q n _ i s keep w h hs
theorem ref_append (i : Int) (s : ByteArray) (hs : s.size ≤ 140737488355328) :
    Calls Try.prog 28 #[.pointer (some ⟨p, 0, none⟩), .int .i64 i, .string s] w fun e w' => e = .returned (.int .i64 (tearE n rows i s)) ∧ Turned p q n ((tearR n rows i s s.size).take n) w w' := by
  rw [← tearE_take hD, ← tearR_take hD]; exact Ref17.append_any p q n _ i s w h hs
theorem ref_cut (i m : Int) :
    Calls Try.prog 30 #[.pointer (some ⟨p, 0, none⟩), .int .i64 i, .int .i64 m] w fun e w' => e = .returned (.int .i64 (cutE n rows i m)) ∧ Turned p q n ((cutR n rows i m).take n) w w' := by
  rw [← cutE_take hD, ← cutR_take hD]; exact Ref17.cut_any p q n _ i m w h
theorem ref_read (i : Int) :
    Calls Try.prog 32 #[.pointer (some ⟨p, 0, none⟩), .int .i64 i] w fun e w' => e = .returned (.string (readR n rows i)) ∧ w = w' := by
  rw [← readR_take hD]; exact Ref17.read_any p q n _ i w h
end

def opCells (o : OpV) : Array Value := #[.int .i64 o.kind, .int .i64 o.i, .int .i64 o.n, .string o.s]

/-- What holds of the disk and the reference at each round. -/
structure Inv (w : World) (p q n b : Nat) (rows : List ByteArray) (wr : World) : Prop where
  dk : Dk n rows
  blk : Blk wr b 70 (diskCells n rows)
  ref : RefAt wr p q n (rows.take n)
  below : Below w.heap.size w wr
  hb : w.heap.size ≤ b
  hq : w.heap.size ≤ q

section
variable {w wr w1 w2 : World} {p q n b : Nat} {rows rows' : List ByteArray}
theorem Inv.alloc (h : Inv w p q n b rows wr) (o : Obj) : Inv w p q n b rows (wr.alloc o) :=
  ⟨h.dk, h.blk.alloc o, ⟨h.ref.top.alloc o, h.ref.row.alloc o, h.ref.len, h.ref.n1, h.ref.n8, h.ref.sz⟩, h.below.alloc h.below.size o, h.hb, h.hq⟩
theorem Inv.drew (h : Inv w p q n b rows wr) (k : Nat) : Inv w p q n b rows (wr.drewN k) :=
  ⟨h.dk, h.blk.drewN k, ⟨h.ref.top.drewN k, h.ref.row.drewN k, h.ref.len, h.ref.n1, h.ref.n8, h.ref.sz⟩, below_drewN h.below k, h.hb, h.hq⟩
theorem Inv.drew1 (h : Inv w p q n b rows wr) : Inv w p q n b rows wr.drew :=
  ⟨h.dk, h.blk.drew, ⟨h.ref.top.drew, h.ref.row.drew, h.ref.len, h.ref.n1, h.ref.n8, h.ref.sz⟩, h.below.drew, h.hb, h.hq⟩
/-- The disk alone has done a call. -/
theorem Inv.half (h : Inv w p q n b rows wr) (hd : Disked b n rows' wr w1) : RefAt w1 p q n (rows.take n) ∧ Below w.heap.size w w1 :=
  ⟨h.ref.grown hd.1 (by have := h.ref.top.ne_ h.blk (by decide); simpa using this) (by have := h.ref.row.ne_ h.blk (by decide); simpa using this), h.below.trans (hd.below h.hb h.below.size)⟩
/-- Something was laid. -/
theorem Inv.later (h : Inv w p q n b rows wr) (hb : Below wr.heap.size wr w1) : Inv w p q n b rows w1 ∧ b < wr.heap.size :=
  ⟨⟨h.dk, h.blk.below hb h.blk.lt, ⟨h.ref.top.below hb h.ref.top.lt, h.ref.row.below hb h.ref.row.lt, h.ref.len, h.ref.n1, h.ref.n8, h.ref.sz⟩, h.below.trans (hb.mono h.below.size), h.hb, h.hq⟩, h.blk.lt⟩
/-- Another disk takes its place. -/
theorem Inv.swap {c : Nat} {rows' : List ByteArray} (h : Inv w p q n b rows wr) (hd : Disked b n rows' wr w1) (hc : Blk w1 c 70 (diskCells n rows)) (hcw : w.heap.size ≤ c) : Inv w p q n c rows w1 :=
  ⟨h.dk, hc, (h.half hd).1, (h.half hd).2, hcw, h.hq⟩
/-- Then the reference has, too. -/
theorem Inv.full (h : Inv w p q n b rows wr) (hD : Dk n rows') (hd : Disked b n rows' wr w1) (ht : Turned p q n (rows'.take n) w1 w2) : Inv w p q n b rows' w2 := by
  have h1 := h.half hd
  exact ⟨hD, hd.2.grown ht.1 (by have := hd.2.ne_ h1.1.row (by decide); simpa using this), ht.2, h1.2.trans (ht.1.below h.hq h1.2.size), h.hb, h.hq⟩
end

set_option maxHeartbeats 400000 in
theorem outside (n : Int) (v : Value) (w : World) (hn : n < 1 ∨ 8 < n) : Calls Try.prog 7 #[.int .i64 n, v] w fun e w' => TrueBelow w e w' := by
  by_cases h1 : n < 1
  all_goals
    try have h2 : 8 < n := by omega
    try have h3 : decide (1 ≤ n) = true := by simp; omega
    try have h3 : decide (1 ≤ n) = false := by simp; omega
    try have h4 : decide (n ≤ 8) = false := by simp; omega
    have HN := Lib.hid hn
    clear hn
    go_enter Try.func7, Try.ntmps7
    go_wp2_with fail
    refine (new_bad n _ HN.out).mono ?_
    rintro e w1 ⟨rfl, rfl⟩
    go_wp2_with fail
    refine (awake17_any _).mono ?_
    rintro e w2 ⟨rfl, hl⟩
    go_wp2
    go_ret
    exact ⟨rfl, hl⟩

theorem made_one (z : Value) (n : Nat) : madeCells #[z] n = (List.replicate n z).toArray := by
  apply Array.ext
  · simp [madeCells]
  · intro i h1 h2
    simp [madeCells, Nat.mod_one]
theorem str_info : (Try.prog.info? 9).map (fun i => (i.zero, i.size, i.bytes)) = some (some (.string ByteArray.empty), 1, 16) := by kernel_rfl

set_option maxRecDepth 100000 in
set_option maxHeartbeats 2000000 in
theorem inside (n : Nat) (A : Option Addr) (L : List OpV) (cap : Nat) (w : World) (h : OpsAt w w.heap.size A L) (hL : L.length ≤ 140737488351232) (hn1 : 1 ≤ n) (hn8 : n ≤ 8) :
    Calls Try.prog 7 #[.int .i64 n, .slice A L.length cap] w fun e w' => TrueBelow w e w' := by
  obtain ⟨len, hlen⟩ : ∃ len, len = L.length := ⟨_, rfl⟩
  have HL := Lib.hid hlen
  rw [← hlen]
  have hnn : len ≤ 140737488351232 := by omega
  clear hL hlen
  have hmk := fun W : World => _root_.Go.run_make_row' (P := Try.prog) 51 9 _ 16 Try.underlying51 str_info rfl .i64 .i64 n (by omega) (by omega) W
  go_enter Try.func7, Try.ntmps7
  go_wp2_with fail
  refine (new_ok n _ hn1 hn8).mono ?_
  rintro e w1 ⟨rfl, hl1, hb1⟩
  have h1 := h.below hl1
  go_wp2_with fail
  refine (awake17_any _).mono ?_
  rintro e w2 ⟨rfl, hl2⟩
  have hb2 := hb1.below hl2 hb1.lt
  have h2 := h1.below (hl2.mono hl1.size)
  have hl := hl1.trans (hl2.mono hl1.size)
  clear hl1 hl2 hb1
  have hd1 : decide (1 ≤ (n : Int)) = true := by simp; omega
  have hd2 : decide ((n : Int) ≤ 8) = true := by simp; omega
  go_wp2_with fail
  rw [HL.out]
  refine (long_any A L cap _ (h2.more hl.size) (by rw [← HL.out]; exact hnn)).mono ?_
  rw [← HL.out]
  rintro e w3 ⟨r, rfl, hl3⟩
  have hb3 := hb2.below hl3 hb2.lt
  have hl' := hl.trans (hl3.mono hl.size)
  clear hl hl3 hb2 h1 h2
  cases r
  · generalize hgb : w.heap.size = b at hb3
    have hB : w.heap.size ≤ b := by omega
    have HB := Lib.hid hgb
    go_wp2_with fail
    have hw0 : Inv w (w3.heap.size + 1) w3.heap.size n b noRows ((w3.alloc (Obj.cells (madeCells #[Value.string ByteArray.empty] n) 9)).alloc (Obj.cells #[Value.slice (some ⟨w3.heap.size, 0, none⟩) n n] 53)) := by
      have e : (noRows.take n).map Value.string = List.replicate n (Value.string ByteArray.empty) := by
        rw [noRows, List.take_replicate, Nat.min_eq_left hn8, List.map_replicate]
      refine ⟨dk_no hn1 hn8, (hb3.alloc _).alloc _, ⟨?_, ?_, ?_, hn1, hn8, (fun r hr => (dk_no hn1 hn8).sz r (List.mem_of_mem_take hr))⟩, (hl'.alloc hl'.size _).alloc (by simp; have := hl'.size; omega) _, hB, hl'.size⟩
      · have := Blk.new (w3.alloc (Obj.cells (madeCells #[Value.string ByteArray.empty] n) 9)) 53 #[Value.slice (some ⟨w3.heap.size, 0, none⟩) n n]
        simpa using this
      · rw [e]
        have := (Blk.new w3 9 (madeCells #[Value.string ByteArray.empty] n)).alloc (Obj.cells #[Value.slice (some ⟨w3.heap.size, 0, none⟩) n n] 53)
        rw [show madeCells #[Value.string ByteArray.empty] n = (List.replicate n (Value.string ByteArray.empty)).toArray from made_one _ _] at this
        rw [made_one]
        exact this
      · simp [noRows]; omega
    generalize hpp : w3.heap.size + 1 = p at hw0
    generalize hqq : w3.heap.size = q at hw0
    have HPP := Lib.hid hpp; have HQQ := Lib.hid hqq
    go_loopw [5, 57] (fun vd vi wr => ∃ (k bd : Nat) (rows : List ByteArray), k ≤ len ∧ vi = .int .i64 k ∧ vd = .pointer (some ⟨bd, 0, none⟩) ∧ Inv w p q n bd rows wr) (fun _ vi _ => len - (intOf vi).toNat)
    case atStart => exact ⟨0, b, noRows, by omega, rfl, rfl, hw0⟩
    case round =>
      clear hw0 hb3 hl' hgb hB HB hpp hqq HPP HQQ
      obtain ⟨k, bd, rows, hk, rfl, rfl, hI⟩ := hrel
      by_cases hlt : k < len
      · obtain ⟨bo, off, rfl, hBo, c0, c1, c2, c3, hs⟩ := h k (by rw [HL.out] at hlt; exact hlt)
        rw [← hI.below.cell (p := ⟨bo, off + k * 4, none⟩) hBo] at c0
        rw [← hI.below.cell (p := ⟨bo, off + k * 4 + 1, none⟩) hBo] at c1
        rw [← hI.below.cell (p := ⟨bo, off + k * 4 + 2, none⟩) hBo] at c2
        rw [← hI.below.cell (p := ⟨bo, off + k * 4 + 3, none⟩) hBo] at c3
        obtain ⟨o, ho⟩ : ∃ o, o = L[k] := ⟨_, rfl⟩
        rw [← ho] at c0 c1 c2 c3 hs
        clear ho
        by_cases h1 : o.kind = 1
        · have t1 : (o.kind == 1) = true := by simp [h1]
          clear h1
          go_wp2_with fail
          have hI4 := hI.alloc (Obj.cells (opCells o) 31)
          have hbo : Blk (wr.alloc (Obj.cells (opCells o) 31)) wr.heap.size 31 (opCells o) := Blk.new _ _ _
          have c5 := hbo.cell 1
          have c6 := hbo.cell 2
          have c7 := hbo.cell 3
          simp only [opCells] at c5 c6 c7 hI4 hbo
          have hne : wr.heap.size ≠ bd := by have := hI.blk.lt; omega
          have hneq : wr.heap.size ≠ q := by have := hI.ref.row.lt; omega
          have hI5 := hI4.drew1
          have hb5 := hI5.blk
          have hD5 := hI5.dk
          have hboD := hbo.drew
          have hs5 : o.s.size ≤ 9223372036854775807 := by omega
          have hs6 : o.s.size ≤ 140737488355328 := by omega
          go_region_held3 (fun W => W.cell? ⟨wr.heap.size, 1, none⟩ = some (Value.int .i64 o.i) ∧ W.cell? ⟨wr.heap.size, 2, none⟩ = some (Value.int .i64 o.n) ∧ W.cell? ⟨wr.heap.size, 3, none⟩ = some (Value.string o.s)) (first | exact ⟨c5, c6, c7⟩ | exact ⟨c8, c9, c10⟩ | exact ⟨c11, c12, c13⟩)
            (first
              | (go_at_call 16; refine (append_any bd n rows o.i o.s _ hb5 hD5 hs5).mono ?_; rintro e w5 ⟨rfl, hd⟩; have hbo5 := Blk.grown hboD hd.1 (by simpa using hne); have c8 := hbo5.cell 1; have c9 := hbo5.cell 2; have c10 := hbo5.cell 3)
              | (go_at_call 28; refine (ref_append (hI5.half hd).1 hD5 o.i o.s hs6).mono ?_; rintro e w6 ⟨rfl, ht⟩; have hbo6 := Blk.grown hbo5 ht.1 (by simpa using hneq); have c11 := hbo6.cell 1; have c12 := hbo6.cell 2; have c13 := hbo6.cell 3))
          have HI := hI5.full (hI5.dk.tear o.i o.s _) hd ht
          clear hI hI4 hI5 hbo hb5 hD5 hboD hs5 hs6 hd ht c0 c1 c2 c3 c5 c6 c7 hne hneq
          try clear hbo5 hbo6 c8 c9 c10 c11 c12 c13
          have hI := HI
          obtain ⟨D, hDk⟩ : ∃ D, D = hI.dk := ⟨_, rfl⟩
          clear hDk
          clear HI
          go_wp2_with fail
          go_loop [11] (fun vi => ∃ j : Int, -1 ≤ j ∧ j ≤ n + 1 ∧ vi = .int .i64 j) (fun vi => ((n : Int) + 1 - intOf vi).toNat)
          case atStart => exact ⟨-1, by omega, by omega, rfl⟩
          case round =>
            obtain ⟨j, hj0, hj1, rfl⟩ := hrel
            by_cases hjn : j ≤ n
            · obtain ⟨R, hR⟩ : ∃ R, R = readR n (tearR n rows o.i o.s o.s.size) j := ⟨_, rfl⟩
              have HR := Lib.hid hR
              cases hs : isSeg n j
              · have ho := isSeg_out hs
                have hcases : (decide (0 ≤ j) = false) ∨ (decide (0 ≤ j) = true ∧ decide (j < (n : Int)) = false) := by
                  by_cases h0 : 0 ≤ j
                  · exact .inr ⟨by simpa using h0, by simp; omega⟩
                  · exact .inl (by simpa using h0)
                clear hR ho hs
                rcases hcases with hg | ⟨hg, hg'⟩
                all_goals
                  go_wp2_with fail
                  refine (read_to hI.blk hI.dk HR.out.symm).mono ?_
                  rintro e w' ⟨rfl, rfl⟩
                  go_wp2_with fail
                  have hrr := ref_read hI.ref hI.dk j
                  rw [← HR.out] at hrr
                  refine hrr.mono ?_
                  rintro e w' ⟨rfl, rfl⟩
                  go_wp2_with fail
                  go_round
                  case rel => exact ⟨j + 1, by omega, by omega, by go_num⟩
                  case measure => simp [intOf]; omega
              · have hg : 0 ≤ j ∧ j < (n : Int) := by simpa [isSeg] using hs
                have hg1 : decide (0 ≤ j) = true := by simpa using hg.1
                have hg2 : decide (j < (n : Int)) = true := by simpa using hg.2
                have hz : R.size ≤ 4000 := by rw [hR]; simp only [readR, hs, cond_true]; exact rowOf_size hI.dk j
                have hm : roomR n (tearR n rows o.i o.s o.s.size) j = 4000 - (R.size : Int) := by rw [hR]; simp only [readR, roomR, hs, cond_true]
                have HM := Lib.hid hm
                clear hR hs hg hm
                go_wp2_with fail
                refine (read_to hI.blk hI.dk HR.out.symm).mono ?_
                rintro e w' ⟨rfl, rfl⟩
                go_wp2_with fail
                have hrr := ref_read hI.ref hI.dk j
                rw [← HR.out] at hrr
                have HRR := Lib.hid hrr
                clear hrr
                refine HRR.out.mono ?_
                rintro e w' ⟨rfl, rfl⟩
                go_wp2_with fail
                refine (room_to hI.blk hI.dk HM.out).mono ?_
                rintro e w' ⟨rfl, rfl⟩
                go_wp2_with fail
                refine HRR.out.mono ?_
                rintro e w' ⟨rfl, rfl⟩
                go_wp2_with fail
                go_round
                case rel => exact ⟨j + 1, by omega, by omega, by go_num⟩
                case measure => simp [intOf]; omega
            · go_wp2_with fail
              go_roundw
              case rel => exact ⟨k + 1, _, _, by omega, by go_num, rfl, hI⟩
              case measure => simp [intOf]; omega
        · have t1 : (o.kind == 1) = false := by simp [h1]
          clear h1
          by_cases h2 : o.kind = 2
          · have t2 : (o.kind == 2) = true := by simp [h2]
            clear h2
            go_wp2_with fail
            have hI4 := hI.alloc (Obj.cells (opCells o) 31)
            have hbo : Blk (wr.alloc (Obj.cells (opCells o) 31)) wr.heap.size 31 (opCells o) := Blk.new _ _ _
            have c5 := hbo.cell 1
            have c6 := hbo.cell 2
            have c7 := hbo.cell 3
            simp only [opCells] at c5 c6 c7 hI4 hbo
            have hne : wr.heap.size ≠ bd := by have := hI.blk.lt; omega
            have hneq : wr.heap.size ≠ q := by have := hI.ref.row.lt; omega
            have hI5 := hI4.drew1
            have hb5 := hI5.blk
            have hD5 := hI5.dk
            have hboD := hbo.drew
            have hs5 : o.s.size ≤ 9223372036854775807 := by omega
            have hs6 : o.s.size ≤ 140737488355328 := by omega
            go_region_held3 (fun W => W.cell? ⟨wr.heap.size, 1, none⟩ = some (Value.int .i64 o.i) ∧ W.cell? ⟨wr.heap.size, 2, none⟩ = some (Value.int .i64 o.n) ∧ W.cell? ⟨wr.heap.size, 3, none⟩ = some (Value.string o.s)) (first | exact ⟨c5, c6, c7⟩ | exact ⟨c8, c9, c10⟩ | exact ⟨c11, c12, c13⟩)
              (first
                | (go_at_call 17; refine (tear_any bd n rows o.i o.s o.n _ hb5 hD5 hs5).mono ?_; rintro e w5 ⟨rfl, hd⟩; have hbo5 := Blk.grown hboD hd.1 (by simpa using hne); have c8 := hbo5.cell 1; have c9 := hbo5.cell 2; have c10 := hbo5.cell 3)
                | (go_at_call 29; refine (ref_tear (hI5.half hd).1 hD5 o.i o.s o.n hs6).mono ?_; rintro e w6 ⟨rfl, ht⟩; have hbo6 := Blk.grown hbo5 ht.1 (by simpa using hneq); have c11 := hbo6.cell 1; have c12 := hbo6.cell 2; have c13 := hbo6.cell 3))
            have HI := hI5.full (hI5.dk.tear o.i o.s _) hd ht
            clear hI hI4 hI5 hbo hb5 hD5 hboD hs5 hs6 hd ht c0 c1 c2 c3 c5 c6 c7 hne hneq
            try clear hbo5 hbo6 c8 c9 c10 c11 c12 c13
            have hI := HI
            obtain ⟨D, hDk⟩ : ∃ D, D = hI.dk := ⟨_, rfl⟩
            clear hDk
            clear HI
            go_wp2_with fail
            go_loop [11] (fun vi => ∃ j : Int, -1 ≤ j ∧ j ≤ n + 1 ∧ vi = .int .i64 j) (fun vi => ((n : Int) + 1 - intOf vi).toNat)
            case atStart => exact ⟨-1, by omega, by omega, rfl⟩
            case round =>
              obtain ⟨j, hj0, hj1, rfl⟩ := hrel
              by_cases hjn : j ≤ n
              · obtain ⟨R, hR⟩ : ∃ R, R = readR n (tearR n rows o.i o.s o.n) j := ⟨_, rfl⟩
                have HR := Lib.hid hR
                cases hs : isSeg n j
                · have ho := isSeg_out hs
                  have hcases : (decide (0 ≤ j) = false) ∨ (decide (0 ≤ j) = true ∧ decide (j < (n : Int)) = false) := by
                    by_cases h0 : 0 ≤ j
                    · exact .inr ⟨by simpa using h0, by simp; omega⟩
                    · exact .inl (by simpa using h0)
                  clear hR ho hs
                  rcases hcases with hg | ⟨hg, hg'⟩
                  all_goals
                    go_wp2_with fail
                    refine (read_to hI.blk hI.dk HR.out.symm).mono ?_
                    rintro e w' ⟨rfl, rfl⟩
                    go_wp2_with fail
                    have hrr := ref_read hI.ref hI.dk j
                    rw [← HR.out] at hrr
                    refine hrr.mono ?_
                    rintro e w' ⟨rfl, rfl⟩
                    go_wp2_with fail
                    go_round
                    case rel => exact ⟨j + 1, by omega, by omega, by go_num⟩
                    case measure => simp [intOf]; omega
                · have hg : 0 ≤ j ∧ j < (n : Int) := by simpa [isSeg] using hs
                  have hg1 : decide (0 ≤ j) = true := by simpa using hg.1
                  have hg2 : decide (j < (n : Int)) = true := by simpa using hg.2
                  have hz : R.size ≤ 4000 := by rw [hR]; simp only [readR, hs, cond_true]; exact rowOf_size hI.dk j
                  have hm : roomR n (tearR n rows o.i o.s o.n) j = 4000 - (R.size : Int) := by rw [hR]; simp only [readR, roomR, hs, cond_true]
                  have HM := Lib.hid hm
                  clear hR hs hg hm
                  go_wp2_with fail
                  refine (read_to hI.blk hI.dk HR.out.symm).mono ?_
                  rintro e w' ⟨rfl, rfl⟩
                  go_wp2_with fail
                  have hrr := ref_read hI.ref hI.dk j
                  rw [← HR.out] at hrr
                  have HRR := Lib.hid hrr
                  clear hrr
                  refine HRR.out.mono ?_
                  rintro e w' ⟨rfl, rfl⟩
                  go_wp2_with fail
                  refine (room_to hI.blk hI.dk HM.out).mono ?_
                  rintro e w' ⟨rfl, rfl⟩
                  go_wp2_with fail
                  refine HRR.out.mono ?_
                  rintro e w' ⟨rfl, rfl⟩
                  go_wp2_with fail
                  go_round
                  case rel => exact ⟨j + 1, by omega, by omega, by go_num⟩
                  case measure => simp [intOf]; omega
              · go_wp2_with fail
                go_roundw
                case rel => exact ⟨k + 1, _, _, by omega, by go_num, rfl, hI⟩
                case measure => simp [intOf]; omega
          · have t2 : (o.kind == 2) = false := by simp [h2]
            clear h2
            by_cases h3 : o.kind = 3
            · have t3 : (o.kind == 3) = true := by simp [h3]
              clear h3
              go_wp2_with fail
              have hI4 := hI.alloc (Obj.cells (opCells o) 31)
              have hbo : Blk (wr.alloc (Obj.cells (opCells o) 31)) wr.heap.size 31 (opCells o) := Blk.new _ _ _
              have c5 := hbo.cell 1
              have c6 := hbo.cell 2
              have c7 := hbo.cell 3
              simp only [opCells] at c5 c6 c7 hI4 hbo
              have hne : wr.heap.size ≠ bd := by have := hI.blk.lt; omega
              have hneq : wr.heap.size ≠ q := by have := hI.ref.row.lt; omega
              have hI5 := hI4.drew1
              have hb5 := hI5.blk
              have hD5 := hI5.dk
              have hboD := hbo.drew
              have hs5 : o.s.size ≤ 9223372036854775807 := by omega
              have hs6 : o.s.size ≤ 140737488355328 := by omega
              go_region_held3 (fun W => W.cell? ⟨wr.heap.size, 1, none⟩ = some (Value.int .i64 o.i) ∧ W.cell? ⟨wr.heap.size, 2, none⟩ = some (Value.int .i64 o.n) ∧ W.cell? ⟨wr.heap.size, 3, none⟩ = some (Value.string o.s)) (first | exact ⟨c5, c6, c7⟩ | exact ⟨c8, c9, c10⟩ | exact ⟨c11, c12, c13⟩)
                (first
                  | (go_at_call 18; refine (cut_any bd n rows o.i o.n _ hb5 hD5).mono ?_; rintro e w5 ⟨rfl, hd⟩; have hbo5 := Blk.grown hboD hd.1 (by simpa using hne); have c8 := hbo5.cell 1; have c9 := hbo5.cell 2; have c10 := hbo5.cell 3)
                  | (go_at_call 30; refine (ref_cut (hI5.half hd).1 hD5 o.i o.n).mono ?_; rintro e w6 ⟨rfl, ht⟩; have hbo6 := Blk.grown hbo5 ht.1 (by simpa using hneq); have c11 := hbo6.cell 1; have c12 := hbo6.cell 2; have c13 := hbo6.cell 3))
              have HI := hI5.full (hI5.dk.cut o.i o.n) hd ht
              clear hI hI4 hI5 hbo hb5 hD5 hboD hs5 hs6 hd ht c0 c1 c2 c3 c5 c6 c7 hne hneq
              try clear hbo5 hbo6 c8 c9 c10 c11 c12 c13
              have hI := HI
              obtain ⟨D, hDk⟩ : ∃ D, D = hI.dk := ⟨_, rfl⟩
              clear hDk
              clear HI
              go_wp2_with fail
              go_loop [11] (fun vi => ∃ j : Int, -1 ≤ j ∧ j ≤ n + 1 ∧ vi = .int .i64 j) (fun vi => ((n : Int) + 1 - intOf vi).toNat)
              case atStart => exact ⟨-1, by omega, by omega, rfl⟩
              case round =>
                obtain ⟨j, hj0, hj1, rfl⟩ := hrel
                by_cases hjn : j ≤ n
                · obtain ⟨R, hR⟩ : ∃ R, R = readR n (cutR n rows o.i o.n) j := ⟨_, rfl⟩
                  have HR := Lib.hid hR
                  cases hs : isSeg n j
                  · have ho := isSeg_out hs
                    have hcases : (decide (0 ≤ j) = false) ∨ (decide (0 ≤ j) = true ∧ decide (j < (n : Int)) = false) := by
                      by_cases h0 : 0 ≤ j
                      · exact .inr ⟨by simpa using h0, by simp; omega⟩
                      · exact .inl (by simpa using h0)
                    clear hR ho hs
                    rcases hcases with hg | ⟨hg, hg'⟩
                    all_goals
                      go_wp2_with fail
                      refine (read_to hI.blk hI.dk HR.out.symm).mono ?_
                      rintro e w' ⟨rfl, rfl⟩
                      go_wp2_with fail
                      have hrr := ref_read hI.ref hI.dk j
                      rw [← HR.out] at hrr
                      refine hrr.mono ?_
                      rintro e w' ⟨rfl, rfl⟩
                      go_wp2_with fail
                      go_round
                      case rel => exact ⟨j + 1, by omega, by omega, by go_num⟩
                      case measure => simp [intOf]; omega
                  · have hg : 0 ≤ j ∧ j < (n : Int) := by simpa [isSeg] using hs
                    have hg1 : decide (0 ≤ j) = true := by simpa using hg.1
                    have hg2 : decide (j < (n : Int)) = true := by simpa using hg.2
                    have hz : R.size ≤ 4000 := by rw [hR]; simp only [readR, hs, cond_true]; exact rowOf_size hI.dk j
                    have hm : roomR n (cutR n rows o.i o.n) j = 4000 - (R.size : Int) := by rw [hR]; simp only [readR, roomR, hs, cond_true]
                    have HM := Lib.hid hm
                    clear hR hs hg hm
                    go_wp2_with fail
                    refine (read_to hI.blk hI.dk HR.out.symm).mono ?_
                    rintro e w' ⟨rfl, rfl⟩
                    go_wp2_with fail
                    have hrr := ref_read hI.ref hI.dk j
                    rw [← HR.out] at hrr
                    have HRR := Lib.hid hrr
                    clear hrr
                    refine HRR.out.mono ?_
                    rintro e w' ⟨rfl, rfl⟩
                    go_wp2_with fail
                    refine (room_to hI.blk hI.dk HM.out).mono ?_
                    rintro e w' ⟨rfl, rfl⟩
                    go_wp2_with fail
                    refine HRR.out.mono ?_
                    rintro e w' ⟨rfl, rfl⟩
                    go_wp2_with fail
                    go_round
                    case rel => exact ⟨j + 1, by omega, by omega, by go_num⟩
                    case measure => simp [intOf]; omega
                · go_wp2_with fail
                  go_roundw
                  case rel => exact ⟨k + 1, _, _, by omega, by go_num, rfl, hI⟩
                  case measure => simp [intOf]; omega
            · have t3 : (o.kind == 3) = false := by simp [h3]
              clear h3
              go_wp2_with fail
              have hI4 := hI.alloc (Obj.cells (opCells o) 31)
              simp only [opCells] at hI4
              have HI4 := Lib.hid hI4
              clear hI hI4 c0 c1 c2 c3
              refine (copy_any bd n rows _ HI4.out.blk HI4.out.dk).mono ?_
              rintro e w5 ⟨rfl, hb5, hc5⟩
              have hI5 := HI4.out.later hb5
              have hle := HI4.out.below.size
              clear HI4 hb5
              obtain ⟨cb, hcb⟩ : ∃ cb, cb = (wr.alloc (Obj.cells #[.int .i64 o.kind, .int .i64 o.i, .int .i64 o.n, .string o.s] 31)).heap.size := ⟨_, rfl⟩
              rw [← hcb] at hle hc5 ⊢
              have HCB := Lib.hid hcb
              have hbd : bd < cb := by have := hI5.2; omega
              clear hcb
              go_wp2_with fail
              refine (append_any bd n rows 0 ⟨#[120]⟩ _ hI5.1.blk hI5.1.dk (by decide)).mono ?_
              rintro e w6 ⟨rfl, hd6⟩
              go_wp2_with fail
              refine (cut_any bd n _ 0 0 _ hd6.2 (hI5.1.dk.tear _ _ _)).mono ?_
              rintro e w7 ⟨rfl, hd7⟩
              have hd8 : Disked bd n _ w5 w7 := ⟨hd6.1.trans hd7.1, hd7.2⟩
              have HI := hI5.1.swap hd8 (hc5.grown hd8.1 (by simp; omega)) hle
              clear hI5 hd6 hd7 hd8 hc5
              have hI := HI
              obtain ⟨D, hDk⟩ : ∃ D, D = hI.dk := ⟨_, rfl⟩
              clear hDk
              clear HI
              go_wp2_with fail
              go_loop [11] (fun vi => ∃ j : Int, -1 ≤ j ∧ j ≤ n + 1 ∧ vi = .int .i64 j) (fun vi => ((n : Int) + 1 - intOf vi).toNat)
              case atStart => exact ⟨-1, by omega, by omega, rfl⟩
              case round =>
                obtain ⟨j, hj0, hj1, rfl⟩ := hrel
                by_cases hjn : j ≤ n
                · obtain ⟨R, hR⟩ : ∃ R, R = readR n rows j := ⟨_, rfl⟩
                  have HR := Lib.hid hR
                  cases hs : isSeg n j
                  · have ho := isSeg_out hs
                    have hcases : (decide (0 ≤ j) = false) ∨ (decide (0 ≤ j) = true ∧ decide (j < (n : Int)) = false) := by
                      by_cases h0 : 0 ≤ j
                      · exact .inr ⟨by simpa using h0, by simp; omega⟩
                      · exact .inl (by simpa using h0)
                    clear hR ho hs
                    rcases hcases with hg | ⟨hg, hg'⟩
                    all_goals
                      go_wp2_with fail
                      refine (read_to hI.blk hI.dk HR.out.symm).mono ?_
                      rintro e w' ⟨rfl, rfl⟩
                      go_wp2_with fail
                      have hrr := ref_read hI.ref hI.dk j
                      rw [← HR.out] at hrr
                      refine hrr.mono ?_
                      rintro e w' ⟨rfl, rfl⟩
                      go_wp2_with fail
                      go_round
                      case rel => exact ⟨j + 1, by omega, by omega, by go_num⟩
                      case measure => simp [intOf]; omega
                  · have hg : 0 ≤ j ∧ j < (n : Int) := by simpa [isSeg] using hs
                    have hg1 : decide (0 ≤ j) = true := by simpa using hg.1
                    have hg2 : decide (j < (n : Int)) = true := by simpa using hg.2
                    have hz : R.size ≤ 4000 := by rw [hR]; simp only [readR, hs, cond_true]; exact rowOf_size hI.dk j
                    have hm : roomR n rows j = 4000 - (R.size : Int) := by rw [hR]; simp only [readR, roomR, hs, cond_true]
                    have HM := Lib.hid hm
                    clear hR hs hg hm
                    go_wp2_with fail
                    refine (read_to hI.blk hI.dk HR.out.symm).mono ?_
                    rintro e w' ⟨rfl, rfl⟩
                    go_wp2_with fail
                    have hrr := ref_read hI.ref hI.dk j
                    rw [← HR.out] at hrr
                    have HRR := Lib.hid hrr
                    clear hrr
                    refine HRR.out.mono ?_
                    rintro e w' ⟨rfl, rfl⟩
                    go_wp2_with fail
                    refine (room_to hI.blk hI.dk HM.out).mono ?_
                    rintro e w' ⟨rfl, rfl⟩
                    go_wp2_with fail
                    refine HRR.out.mono ?_
                    rintro e w' ⟨rfl, rfl⟩
                    go_wp2_with fail
                    go_round
                    case rel => exact ⟨j + 1, by omega, by omega, by go_num⟩
                    case measure => simp [intOf]; omega
                · go_wp2_with fail
                  go_roundw
                  case rel => exact ⟨k + 1, _, _, by omega, by go_num, rfl, hI⟩
                  case measure => simp [intOf]; omega
      · go_wp2
        go_ret
        exact ⟨rfl, hI.below⟩
  · go_wp2
    go_ret
    exact ⟨rfl, hl'⟩

theorem walk {H : Type} {enc : TypeId × Value → H} {W : World} {base : Nat} {args : Array Value} {ds : List (DataW H)} {ps : List MemPlace}
    (h : Handed enc Try.prog W base Try.f7.params.toList args ds ps) : Calls Try.prog 7 args W fun e w' => TrueBelow W e w' := by
  rw [Try.params7] at h
  have hval := h.val
  obtain ⟨v0, vs0, d0, ds0, p0, q0, hargs, rfl, rfl, h0, r0⟩ := trodAll_cons h.trod
  obtain ⟨v1, vs1, d1, ds1, p1, q1, rfl, rfl, rfl, h1, r1⟩ := trodAll_cons r0
  obtain ⟨rfl, rfl, rfl⟩ := trodAll_nil r1
  obtain rfl : args = #[v0, v1] := by cases args; simp_all
  obtain ⟨a0, rfl, rfl, rfl, w0⟩ := open_int Try.underlying3 (hval 0 3 v0 rfl rfl) h0
  obtain ⟨A, L, cap, rfl, hops, hlen⟩ := open_ops (hval 1 22 v1 rfl rfl) h1 1 h.fits rfl rfl
  by_cases hn : a0 < 1 ∨ 8 < a0
  · exact outside a0 _ W hn
  · obtain ⟨n, rfl⟩ := Int.eq_ofNat_of_zero_le (a := a0) (by omega)
    exact inside n A L cap W hops hlen (by omega) (by omega)


set_option maxRecDepth 100000 in
theorem lifted (os : Os) (started : os.Started) (H : Type) (enc : TypeId × Value → H) :
    ReturnsInHanded {} Try.checked os 7 .any (Rows.diskPlaysSpec.pre6 enc Try.prog Try.f7 Rows.diskPlaysRow.domain false) (Rows.diskPlaysSpec.post enc Try.prog Try.f7 false true false false) := by
  refine returnsInHanded_of_change_sized (C := Try.checked) own started (by kernel_rfl) Try.func7
    (ChangeSpec.witness6 (enc := enc) (C := Try.checked) false ⟨#[], #[.int .i64 0, .slice none 0 0], []⟩ 8 (by kernel_rfl) (by kernel_rfl) (by kernel_rfl) (by kernel_rfl)) ?_
  intro W base args ds gs before hval hW _ hsz _
  refine (walk (handed_of hval hW rfl rfl hsz)).mono fun e W' ⟨he, hb⟩ => ?_
  subst he
  exact ⟨_, rfl, law_post hW rfl laidOut (by kernel_rfl) rfl Try.underlying4 (fun ds' h => by match ds', h with | [_, _], _ => rfl) hb⟩

theorem over : Rows.diskPlaysRow.holds Try.pinned (OpenSpec.ofChange Rows.diskPlaysSpec) :=
  OpenClaim.holds_of_wide 7 Try.f7 rfl rfl rfl rfl rfl rfl rfl ⟨rfl, rfl, rfl, rfl, rfl⟩ rfl rfl rfl rfl rfl (by kernel_rfl) Try.func7 (by kernel_rfl)
    (of_decide_eq_true (by kernel_rfl)) (by unfold Func.isWrapper; first | (rw [if_pos (by decide +kernel)]; kernel_rfl) | (rw [if_neg (by decide +kernel)]; exact ⟨rfl, rfl⟩))
    (fun os started H enc _ => lifted os started H enc)

theorem proved : Rows.DiskPlaysSaid :=
  over
#print axioms proved
end Go.Proofs.Ytiemfdglejenpaa.diskPlays
