/- journal: a record's number; a new journal, its copy, its sizes. -/
import Derived.Test.YtaamihdibpioaaaGreatJkM3
import Derived.Test.YtaamihdibpioaaaGreatJkM38
import Derived.Test.YtaamihdibpioaaaGreatJkM40
import Derived.LoopTactic
import Derived.RegionTactic
namespace Go.Proofs.YtaamihdibpioaaaGreat.Jr
set_option linter.unusedVariables false
open Go.RowKit Go.Proofs.YtaamihdibpioaaaGreat.Crc

/-- Only blocks j and d, and what is new, have changed. -/
structure Keeps2 (w w' : World) (j d : Nat) : Prop where
  os : w'.os = w.os
  tape : w'.tape = w.tape
  output : w'.output = w.output
  size : w.heap.size ≤ w'.heap.size
  block : ∀ i, i < w.heap.size → i ≠ j → i ≠ d → w'.heap[i]? = w.heap[i]?
theorem Keeps2.refl (w : World) (j d : Nat) : Keeps2 w w j d := ⟨rfl, rfl, rfl, Nat.le_refl _, fun _ _ _ _ => rfl⟩
theorem Keeps2.of_below {w w' : World} (h : Below w.heap.size w w') (j d : Nat) : Keeps2 w w' j d := ⟨h.os, h.tape, h.output, h.size, fun i hi _ _ => h.block i hi⟩
theorem Keeps2.of_only1 {w w' : World} {j d : Nat} (h : Only w w' j) : Keeps2 w w' j d := ⟨h.os, h.tape, h.output, h.size, fun i hi hj _ => h.block i hi (by simpa using hj)⟩
theorem Keeps2.of_only2 {w w' : World} {j d : Nat} (h : Only w w' d) : Keeps2 w w' j d := ⟨h.os, h.tape, h.output, h.size, fun i hi _ hd => h.block i hi (by simpa using hd)⟩
theorem Keeps2.trans {w w' w'' : World} {j d : Nat} (h : Keeps2 w w' j d) (k : Keeps2 w' w'' j d) : Keeps2 w w'' j d :=
  ⟨k.os.trans h.os, k.tape.trans h.tape, k.output.trans h.output, Nat.le_trans h.size k.size, fun i hi hj hd => (k.block i (Nat.lt_of_lt_of_le hi h.size) hj hd).trans (h.block i hi hj hd)⟩
theorem Keeps2.below {B : Nat} {w w' : World} {j d : Nat} (h : Keeps2 w w' j d) (hj : B ≤ j) (hd : B ≤ d) (hB : B ≤ w.heap.size) : Below B w w' :=
  ⟨h.os, h.tape, h.output, h.size, fun i hi => h.block i (by omega) (by omega) (by omega)⟩
theorem Keeps2.blk {w w' : World} {j d g : Nat} {t : TypeId} {cs : Array Value} (h : Keeps2 w w' j d) (hb : Blk w g t cs) (hj : g ≠ j) (hd : g ≠ d) : Blk w' g t cs := (h.block g hb.lt hj hd).trans hb

/-- A journal in block j, its disk in block d. -/
structure JAt (w : World) (j d : Nat) (s : Jt) : Prop where
  jb : Blk w j 68 #[.pointer (some ⟨d, 0, none⟩), .int .i64 s.n, .int .i64 s.next, .bool s.torn]
  db : Blk w d 92 (diskCells s.n s.rows)
  dk : Dk s.n s.rows
theorem JAt.ne {w : World} {j d : Nat} {s : Jt} (h : JAt w j d s) : j ≠ d := h.jb.ne_ h.db (by decide)
theorem JAt.keep {w w' : World} {j d j' d' : Nat} {s : Jt} (h : JAt w j d s) (k : Keeps2 w w' j' d') (h1 : j ≠ j') (h2 : j ≠ d') (h3 : d ≠ j') (h4 : d ≠ d') : JAt w' j d s :=
  ⟨k.blk h.jb h1 h2, k.blk h.db h3 h4, h.dk⟩
theorem JAt.below {w w' : World} {j d : Nat} {s : Jt} (h : JAt w j d s) (hb : Below w.heap.size w w') : JAt w' j d s := ⟨h.jb.below hb h.jb.lt, h.db.below hb h.db.lt, h.dk⟩

/-- The bytes of a number. -/
def numI (n : Nat) (j : Nat) : Int := ((n / 256 ^ (3 - j) % 256 : Nat) : Int)
theorem num4_strs (n : Nat) : strOfNums [numI n 0, numI n 1, numI n 2, numI n 3] = ⟨(num4 n).toArray⟩ := by
  have h : ∀ m : Nat, (((m % 256 : Nat) : Int)).toNat = m % 256 := fun m => Int.toNat_natCast _
  unfold strOfNums num4 numI
  simp only [List.map_cons, List.map_nil, h]
  simp
theorem conv4b {W : World} {g c : Nat} {a b d f : Int} (hb : Blk W g 5 #[.int .u8 a, .int .u8 b, .int .u8 d, .int .u8 f]) : (convert 105 9 (.slice (some ⟨g, 0, none⟩) 4 c)).run Tryz.prog W = .ok (.string (strOfNums [a, b, d, f])) W :=
  run_convert_bytes_arg (P := Tryz.prog) _ 105 5 Tryz.underlying105 Tryz.underlying5 g 0 4 c [a, b, d, f] rfl (fun i hi => by
    rw [hb.cell]
    match i, hi with
    | 0, _ => rfl
    | 1, _ => rfl
    | 2, _ => rfl
    | 3, _ => rfl) _ Tryz.underlying9
def numC (n i : Nat) : Array Value := #[.int .u8 (if 0 < i then numI n 0 else 0), .int .u8 (if 1 < i then numI n 1 else 0), .int .u8 (if 2 < i then numI n 2 else 0), .int .u8 (if 3 < i then numI n 3 else 0)]
theorem u8_nat (m : Nat) : IntKind.u8.wrap (m : Int) = ((m % 256 : Nat) : Int) := by rw [IntKind.wrap_u8]; omega
theorem byte_facts4 : (Tryz.prog.info? 5).map (fun i => (i.zero, i.size, i.bytes)) = some (some (.int .u8 0), 1, 1) := by kernel_rfl
theorem made4 : madeCells (Value.int .u8 0).cells (Int.toNat 4 * 1) = #[.int .u8 0, .int .u8 0, .int .u8 0, .int .u8 0] := by kernel_rfl
set_option maxHeartbeats 2000000 in
set_option maxRecDepth 100000 in
theorem number_any (n : Nat) (w : World) (hn : n < 2147483648) : Calls Tryz.prog 44 #[.int .i64 n] w fun e w' => Told ⟨(num4 n).toArray⟩ w.heap.size w e w' := by
  rw [← num4_strs]
  obtain ⟨G, hG⟩ : ∃ G, G = w.heap.size := ⟨_, rfl⟩
  have HG := Lib.hid hG
  have w0 : IntKind.u8.wrap ((n : Int) / 16777216) = numI n 0 := by
    have e : (n : Int) / 16777216 = ((n / 16777216 : Nat) : Int) := by omega
    rw [e, u8_nat]; rfl
  have w1 : IntKind.u8.wrap ((n : Int) / 65536) = numI n 1 := by
    have e : (n : Int) / 65536 = ((n / 65536 : Nat) : Int) := by omega
    rw [e, u8_nat]; rfl
  have w2 : IntKind.u8.wrap ((n : Int) / 256) = numI n 2 := by
    have e : (n : Int) / 256 = ((n / 256 : Nat) : Int) := by omega
    rw [e, u8_nat]; rfl
  have w3 : IntKind.u8.wrap (n : Int) = numI n 3 := by rw [u8_nat]; unfold numI; simp
  have HW0 := Lib.hid w0; have HW1 := Lib.hid w1; have HW2 := Lib.hid w2; have HW3 := Lib.hid w3
  clear w0 w1 w2 w3 hG
  have hmk : ∀ W : World, (Instr.makeSlice 105 (.int .i64 4) (.int .i64 4)).run Tryz.prog W = .ok (.slice (some ⟨W.heap.size, 0, none⟩) 4 4) (W.alloc (.cells #[.int .u8 0, .int .u8 0, .int .u8 0, .int .u8 0] 5)) := fun W => by
    obtain ⟨i0, hi, hz0, hz1, hz2⟩ := info_parts byte_facts4
    exact (run_make (P := Tryz.prog) W 105 5 i0 _ Tryz.underlying105 hi hz0 .i64 .i64 4 4 (by omega) (by omega) (by rw [hz2]; omega) (by omega)).trans (by rw [hz1, made4]; rfl)
  go_enter Tryz.func44, Tryz.ntmps44
  go_wp2_with fail
  rw [← HG.out]
  go_loopw [8] (fun v wr => ∃ i : Nat, i ≤ 4 ∧ v = .int .i64 i ∧ Hid (Blk wr G 5 (numC n i)) ∧ Hid (Below w.heap.size w wr)) (fun v _ => 4 - (intOf v).toNat)
  case atStart => exact ⟨0, by omega, rfl, Lib.hid (by rw [HG.out]; exact Blk.new _ _ _), Lib.hid ((Below.refl _ _).alloc (Nat.le_refl _) _)⟩
  case round =>
    obtain ⟨i, hi, rfl, HB, HL⟩ := hrel
    have hb := HB.out
    have hlt0 := hb.lt
    have c0 := hb.cell 0; have c1 := hb.cell 1; have c2 := hb.cell 2; have c3 := hb.cell 3
    have f0 := hb.frozen 0; have f1 := hb.frozen 1; have f2 := hb.frozen 2; have f3 := hb.frozen 3
    unfold numC at c0 c1 c2 c3
    simp only [List.getElem?_toArray, List.getElem?_cons_zero, List.getElem?_cons_succ] at c0 c1 c2 c3
    clear hb
    rcases (by omega : i = 0 ∨ i = 1 ∨ i = 2 ∨ i = 3 ∨ i = 4) with rfl | rfl | rfl | rfl | rfl
    · have hx := HW0.out
      go_wp2
      go_roundw
      case rel => exact ⟨1, by omega, rfl, Lib.hid (HB.out.set_ 0 _), Lib.hid (HL.out.setCell (p := ⟨G, 0, none⟩) (by rw [HG.out]; exact Nat.le_refl _) _)⟩
      case measure => simp [intOf]
    · have hx := HW1.out
      go_wp2
      go_roundw
      case rel => exact ⟨2, by omega, rfl, Lib.hid (HB.out.set_ 1 _), Lib.hid (HL.out.setCell (p := ⟨G, 1, none⟩) (by rw [HG.out]; exact Nat.le_refl _) _)⟩
      case measure => simp [intOf]
    · have hx := HW2.out
      go_wp2
      go_roundw
      case rel => exact ⟨3, by omega, rfl, Lib.hid (HB.out.set_ 2 _), Lib.hid (HL.out.setCell (p := ⟨G, 2, none⟩) (by rw [HG.out]; exact Nat.le_refl _) _)⟩
      case measure => simp [intOf]
    · have hx := HW3.out
      go_wp2
      go_roundw
      case rel => exact ⟨4, by omega, rfl, Lib.hid (HB.out.set_ 3 _), Lib.hid (HL.out.setCell (p := ⟨G, 3, none⟩) (by rw [HG.out]; exact Nat.le_refl _) _)⟩
      case measure => simp [intOf]
    · have hcv := conv4b (c := 4) HB.out
      go_wp2
      go_ret
      exact ⟨rfl, HL.out⟩

/-- The number that four bytes are. -/
def numOf (S : ByteArray) : Nat := (byteAt S 0).toNat * 16777216 + (byteAt S 1).toNat * 65536 + (byteAt S 2).toNat * 256 + (byteAt S 3).toNat
theorem or_add (x b : Nat) (hb : b < 256) : x * 256 ||| b = x * 256 + b := by
  have := Nat.shiftLeft_add_eq_or_of_lt (show b < 2 ^ 8 from hb) x
  rw [Nat.shiftLeft_eq] at this
  simpa using this.symm
theorem or_int {x b : Nat} {X : Int} (hX : X = (x : Int)) (hx : x < 100000000) (hb : b < 256) : bits .or .i64 (X * 256) (b : Int) = ((x * 256 + b : Nat) : Int) := by
  have e : X * 256 = ((x * 256 : Nat) : Int) := by omega
  rw [e, i64_or_nat _ _ (by omega) (by omega), or_add x b hb]
set_option maxHeartbeats 2000000 in
set_option maxRecDepth 100000 in
theorem numbered_any (S : ByteArray) (w : World) (hS : S.size = 4) : Calls Tryz.prog 48 #[.string S] w fun e w' => e = .returned (.int .i64 (numOf S)) ∧ w = w' := by
  obtain ⟨b0, h0⟩ : ∃ b0, b0 = (byteAt S 0).toNat := ⟨_, rfl⟩
  obtain ⟨b1, h1⟩ : ∃ b1, b1 = (byteAt S 1).toNat := ⟨_, rfl⟩
  obtain ⟨b2, h2⟩ : ∃ b2, b2 = (byteAt S 2).toNat := ⟨_, rfl⟩
  obtain ⟨b3, h3⟩ : ∃ b3, b3 = (byteAt S 3).toNat := ⟨_, rfl⟩
  have l0 : b0 < 256 := by rw [h0]; exact UInt8.toNat_lt _
  have l1 : b1 < 256 := by rw [h1]; exact UInt8.toNat_lt _
  have l2 : b2 < 256 := by rw [h2]; exact UInt8.toNat_lt _
  have l3 : b3 < 256 := by rw [h3]; exact UInt8.toNat_lt _
  have g : ∀ i (hi : i < S.size), S[i]'hi = byteAt S i := fun i hi => (byteAt_eq hi).symm
  have hN : numOf S = ((b0 * 256 + b1) * 256 + b2) * 256 + b3 := by unfold numOf; rw [← h0, ← h1, ← h2, ← h3]; omega
  have n0 : IntKind.i64.wrap ((0 : Int) * 256) = 0 := by decide
  have o0 : bits .or .i64 0 (b0 : Int) = (b0 : Int) := by
    have := i64_or_nat 0 b0 (by omega) (by omega)
    simpa using this
  have o1 := or_int (x := b0) (b := b1) (X := (b0 : Int)) rfl (by omega) l1
  have o2 := or_int (x := b0 * 256 + b1) (b := b2) (X := (b0 : Int) * 256 + (b1 : Int)) (by omega) (by omega) l2
  have o3 := or_int (x := (b0 * 256 + b1) * 256 + b2) (b := b3) (X := ((b0 : Int) * 256 + (b1 : Int)) * 256 + (b2 : Int)) (by omega) (by omega) l3
  have HN := Lib.hid hN; have HG := Lib.hid g; have H0 := Lib.hid h0; have H1 := Lib.hid h1; have H2 := Lib.hid h2; have H3 := Lib.hid h3
  have O0 := Lib.hid o0; have O1 := Lib.hid o1; have O2 := Lib.hid o2; have O3 := Lib.hid o3; have HS := Lib.hid hS
  clear hN g h0 h1 h2 h3 o0 o1 o2 o3 n0 hS
  rw [HN.out]
  go_enter Tryz.func48, Tryz.ntmps48
  go_wp2_with fail
  go_loop [2, 6] (fun c v => ∃ i : Nat, i ≤ 4 ∧ v = .int .i64 i ∧ c = .int .i64 ((if i = 0 then 0 else if i = 1 then b0 else if i = 2 then b0 * 256 + b1 else if i = 3 then (b0 * 256 + b1) * 256 + b2 else ((b0 * 256 + b1) * 256 + b2) * 256 + b3 : Nat) : Int)) (fun _ v => 4 - (intOf v).toNat)
  case atStart => exact ⟨0, by omega, rfl, rfl⟩
  case round =>
    obtain ⟨i, hi, rfl, rfl⟩ := hrel
    have hS := HS.out
    rcases (by omega : i = 0 ∨ i = 1 ∨ i = 2 ∨ i = 3 ∨ i = 4) with rfl | rfl | rfl | rfl | rfl
    · have e2 : ((S[0]'(by omega)).toNat : Int) = (b0 : Int) := by rw [HG.out 0 (by omega), H0.out]
      have ho := O0.out
      simp (config := { decide := true }) only [if_true, if_false]
      go_wp2_with fail
      exact ⟨⟨1, by omega, rfl, rfl⟩, by simp [intOf]⟩
    · have e2 : ((S[1]'(by omega)).toNat : Int) = (b1 : Int) := by rw [HG.out 1 (by omega), H1.out]
      simp (config := { decide := true }) only [if_true, if_false]
      go_wp2_with fail
      exact ⟨⟨2, by omega, rfl, by rw [O1.out]; rfl⟩, by simp [intOf]⟩
    · have e2 : ((S[2]'(by omega)).toNat : Int) = (b2 : Int) := by rw [HG.out 2 (by omega), H2.out]
      simp (config := { decide := true }) only [if_true, if_false]
      go_wp2_with fail
      exact ⟨⟨3, by omega, rfl, by rw [O2.out]; rfl⟩, by simp [intOf]⟩
    · have e2 : ((S[3]'(by omega)).toNat : Int) = (b3 : Int) := by rw [HG.out 3 (by omega), H3.out]
      simp (config := { decide := true }) only [if_true, if_false]
      go_wp2_with fail
      exact ⟨⟨4, by omega, rfl, by rw [O3.out]; rfl⟩, by simp [intOf]⟩
    · simp (config := { decide := true }) only [if_true, if_false]
      go_wp2
      go_ret
      exact ⟨rfl, rfl⟩
theorem numOf_pay {n : Nat} (l : List UInt8) (hn : n < 4294967296) : numOf ((payB n l).extract 0 4) = n := by
  have e : ((payB n l).extract 0 4).data.toList = num4 n := by
    rw [Lib.extract_data]
    simp [payB, num4]
  unfold numOf byteAt
  rw [e]
  simp [num4]
  omega

/-- What New answers where there are so many labels. -/
def JNewed (n : Nat) (w : World) (e : Ending) (w' : World) : Prop :=
  ∃ j d, w.heap.size ≤ j ∧ w.heap.size ≤ d ∧ e = .returned (.tuple #[.pointer (some ⟨j, 0, none⟩), .int .i64 0]) ∧ Below w.heap.size w w' ∧ JAt w' j d (jNew n)
set_option maxHeartbeats 1000000 in
theorem jnew_ok (n : Nat) (w : World) (h1 : 1 ≤ n) (h8 : n ≤ 8) : Calls Tryz.prog 7 #[.int .i64 n] w fun e w' => JNewed n w e w' := by
  have HN := Lib.hid (new_ok n w h1 h8)
  have hdk : Dk n noRows := (good_new h1 h8).dk
  have HD := Lib.hid hdk
  clear hdk
  go_enter Tryz.func7, Tryz.ntmps7
  go_wp2_with fail
  refine HN.out.mono ?_
  rintro e w1 ⟨rfl, hb1, hk1⟩
  have HF := Lib.hid (show Below w.heap.size w (w1.alloc (.cells #[.pointer (some ⟨w.heap.size, 0, none⟩), .int .i64 n, .int .i64 1, .bool false] 68)) ∧ JAt (w1.alloc (.cells #[.pointer (some ⟨w.heap.size, 0, none⟩), .int .i64 n, .int .i64 1, .bool false] 68)) w1.heap.size w.heap.size (jNew n) from
    ⟨hb1.alloc hb1.size _, Blk.new _ _ _, hk1.alloc _, HD.out⟩)
  have hz := hb1.size
  clear hb1 hk1
  go_wp2
  go_ret2
  exact ⟨_, _, hz, Nat.le_refl _, rfl, HF.out.1, HF.out.2⟩
end Go.Proofs.YtaamihdibpioaaaGreat.Jr

/- pack's reader: a value, or none at all. -/
namespace Go.Proofs.YtaamihdibpioaaaGreat.Pk
set_option linter.unusedVariables false
open Go.RowKit

theorem rdSome_eq (s : ByteArray) (p : Nat) : rdSome s p = if p < s.size then (if (byteAt s p).toNat = 0 then some (Val.zero, p + 1) else if (byteAt s p).toNat = 1 then rdVal s (p + 1) else none) else none := by
  unfold rdSome rdVal
  by_cases h : p < s.size
  · rw [if_pos h, if_pos h]
    by_cases h0 : (byteAt s p).toNat = 0
    · rw [if_pos h0, if_pos h0]
    · rw [if_neg h0, if_neg h0]
      by_cases h1 : (byteAt s p).toNat = 1
      · rw [if_pos h1, if_pos h1]
        cases readVAt s ((p + 1 : Nat) : Int) with
        | error k => rfl
        | ok x => rfl
      · rw [if_neg h1, if_neg h1]
  · rw [if_neg h, if_neg h]

set_option maxHeartbeats 4000000 in
set_option maxRecDepth 100000 in
theorem prsome_any (s : ByteArray) (p g : Nat) (w : World) (hs : s.size ≤ 100000) (hp : p ≤ s.size) (h : PRd w g s p) :
    Calls Tryz.prog 71 #[.pointer (some ⟨g, 0, none⟩)] w fun e w' => PSome (rdSome s p) s g w e w' := by
  have hsf := run_store_flt
  obtain ⟨R, hR⟩ : ∃ R, R = w.heap.size := ⟨_, rfl⟩
  obtain ⟨W, hW⟩ : ∃ W, W = w.alloc (.cells #[.int .i64 0, .int .i64 0, .float .f64 0, .string ⟨#[]⟩, .slice none 0 0, .slice none 0 0] 37) := ⟨_, rfl⟩
  have bm : Blk W R 37 [.int .i64 0, .int .i64 0, .float .f64 0, .string ⟨#[]⟩, .slice none 0 0, .slice none 0 0].toArray := by rw [hW, hR]; exact Blk.new w 37 _
  have hB : Below w.heap.size w W := by rw [hW]; exact (Below.refl _ _).alloc (Nat.le_refl _) _
  have hg : PRd W g s p := by rw [hW]; exact Blk.alloc h _
  have hglt := h.lt
  have hgR : g ≠ R := by omega
  have hWR : R + 1 = W.heap.size := by rw [hW, hR]; simp
  have h0 := hg.cell 0; have h1 := hg.cell 1
  simp at h0 h1
  have hE := rdSome_eq s p
  obtain ⟨RR, hRR⟩ : ∃ RR, RR = rdSome s p := ⟨_, rfl⟩
  rw [← hRR] at hE ⊢
  have HW := Lib.hid hW; have HB := Lib.hid hB; have HR := Lib.hid hR; have BM := Lib.hid bm; have HG := Lib.hid hg; have HE := Lib.hid hE; have HWR := Lib.hid hWR
  clear hW hB bm hg hE hRR h hWR hR
  by_cases hlt : p < s.size
  case neg =>
    have hd : decide ((p : Int) < (s.size : Int)) = false := by simp; omega
    have hd2 : decide (p < s.size) = false := by simp; omega
    have HRN : Hid (RR = none) := Lib.hid (by rw [HE.out, if_neg hlt])
    clear hlt HE
    go_enter Tryz.func71, Tryz.ntmps71
    go_wp2_with fail
    rw [← HW.out, ← HR.out]
    go_still_tail 10, (by kernel_rfl)
    change wpList _ _ _ _ _ W.drew
    go_wp2_with fail
    refine (pmust_false _ _ _ rfl).mono ?_
    rintro e w2 ⟨rfl, rfl⟩
    unfold pgave
    go_wp2
    rw [HRN.out]
    exact ⟨rfl, (Only.of_below HB.out g).drew, rfl⟩
  case pos =>
    have hd : decide ((p : Int) < (s.size : Int)) = true := by simp; omega
    have hd2 : decide (p < s.size) = true := by simp; omega
    obtain ⟨b, hb⟩ : ∃ b, b = s[p]'hlt := ⟨_, rfl⟩
    have hbe : byteAt s p = b := by rw [byteAt_eq hlt, hb]
    have hE := HE.out
    rw [if_pos hlt, hbe] at hE
    have hi0 : (0 : Int) ≤ (p : Int) := by omega
    have hi1 : (p : Int) < (s.size : Int) := by omega
    have hw1 : IntKind.i64.wrap ((p : Int) + 1) = ((p + 1 : Nat) : Int) := by rw [IntWalk.i64_in _ (by omega)]; omega
    have hblt : b.toNat < 256 := b.toNat_lt
    have HE2 := Lib.hid hE; have HBB := Lib.hid hb
    have hg' : g < R := by have := HR.out; omega
    clear HE hE hbe hb
    have HBS : Hid (s[p]'hlt = b) := Lib.hid HBB.out.symm
    go_enter Tryz.func71, Tryz.ntmps71
    go_wp2_with fail
    rw [← HW.out, ← HR.out]
    go_still_tail 10, (by kernel_rfl)
    change wpList _ _ _ _ _ W.drew
    go_wp2_with fail
    refine (pmust_true _ _ _ rfl).mono ?_
    rintro e w2 ⟨rfl, rfl⟩
    go_wp2_with fail
    go_quiet (fail)
    rw [HBS.out]
    obtain ⟨W2, hW2⟩ : ∃ W2, W2 = W.drew.drewN nq := ⟨_, rfl⟩
    rw [← hW2]
    have hB2 : Below W.heap.size W W2 := by rw [hW2]; exact below_drewN ((Below.refl _ _).drew) nq
    have hG2 := Blk.below HG.out hB2 (by have := HWR.out; omega)
    have hM2 := BM.out.below hB2 (by have := HWR.out; omega)
    obtain ⟨W3, hW3⟩ : ∃ W3, W3 = W2.setCell ⟨g, 1, none⟩ (.int .i64 ((p + 1 : Nat) : Int)) := ⟨_, rfl⟩
    have hG3 : PRd W3 g s (p + 1) := by rw [hW3]; exact Blk.set_ hG2 1 _
    have hM3 : Blk W3 R 37 [.int .i64 0, .int .i64 0, .float .f64 0, .string ⟨#[]⟩, .slice none 0 0, .slice none 0 0].toArray := by rw [hW3]; exact hM2.far (p := ⟨g, 1, none⟩) (Ne.symm hgR) _
    have hO3 : Only w W3 g := by rw [hW3]; exact (Only.of_below (HB.out.trans (hB2.mono HB.out.size)) g).set_ (p := ⟨g, 1, none⟩) (.inl rfl) _
    clear h0 h1
    have h1 := hG2.cell 1; have f1 := hG2.frozen 1
    simp at h1
    have HW3 := Lib.hid hW3; have HG3 := Lib.hid hG3; have HM3 := Lib.hid hM3; have HO3 := Lib.hid hO3
    have hRW3 : R < W3.heap.size := hM3.lt
    clear hW2 hB2 hG2 hM2 hW3 hG3 hM3 hO3 HBS HBB
    go_upto_region 4 with fail
    have HP : Hid ((p : Int) + 1 = ((p + 1 : Nat) : Int)) := Lib.hid (by omega)
    rw [HP.out, ← HW3.out]
    clear h1 f1 hw1
    by_cases hb1 : b.toNat ≤ 1
    case neg =>
      have j1 : decide ((b.toNat : Int) ≤ 1) = false := by simp; omega
      have HRN : Hid (RR = none) := Lib.hid (by rw [HE2.out, if_neg (by omega), if_neg (by omega)])
      go_wp2_with fail
      refine (pmust_false _ _ _ rfl).mono ?_
      rintro e w2 ⟨rfl, rfl⟩
      unfold pgave
      go_wp2
      rw [HRN.out]
      exact ⟨rfl, HO3.out, rfl⟩
    case pos =>
      have j1 : decide ((b.toNat : Int) ≤ 1) = true := by simp; omega
      by_cases hb0 : b.toNat = 0
      case pos =>
        have j2 : ((b.toNat : Int) == 0) = true := by simp; omega
        have HRN : Hid (RR = some (Val.zero, p + 1)) := Lib.hid (by rw [HE2.out, if_pos hb0])
        have hst := stored6' HM3.out (.int .i64 0) (.int .i64 0) (.float .f64 0) (.string ⟨#[]⟩) (.slice none 0 0) (.slice none 0 0)
        obtain ⟨W5, hW5⟩ : ∃ W5, W5 = ((((((W3.setCell ⟨R, 0, none⟩ (.int .i64 0)).setCell ⟨R, 1, none⟩ (.int .i64 0)).setCell ⟨R, 2, none⟩ (.float .f64 0)).setCell ⟨R, 3, none⟩ (.string ⟨#[]⟩)).setCell ⟨R, 4, none⟩ (.slice none 0 0)).setCell ⟨R, 5, none⟩ (.slice none 0 0)) := ⟨_, rfl⟩
        rw [← hW5] at hst
        have hG5 : PRd W5 g s (p + 1) := Blk.grown HG3.out hst.2 (by simp; omega)
        have hO5 : Only w W5 g := by
          have e := HR.out
          rw [hW5]
          exact (((((HO3.out.set_ (p := ⟨R, 0, none⟩) (.inr (by simp; omega)) _).set_ (p := ⟨R, 1, none⟩) (.inr (by simp; omega)) _).set_ (p := ⟨R, 2, none⟩) (.inr (by simp; omega)) _).set_ (p := ⟨R, 3, none⟩) (.inr (by simp; omega)) _).set_ (p := ⟨R, 4, none⟩) (.inr (by simp; omega)) _).set_ (p := ⟨R, 5, none⟩) (.inr (by simp; omega)) _
        have r0 := HM3.out.cell 0; have r1 := HM3.out.cell 1; have r2 := HM3.out.cell 2; have r3 := HM3.out.cell 3; have r4 := HM3.out.cell 4; have r5 := HM3.out.cell 5
        simp only [List.getElem?_toArray, List.getElem?_cons_zero, List.getElem?_cons_succ] at r0 r1 r2 r3 r4 r5
        have f0 := HM3.out.frozen 0; have f1 := HM3.out.frozen 1; have f2 := HM3.out.frozen 2; have f3 := HM3.out.frozen 3; have f4 := HM3.out.frozen 4; have f5 := HM3.out.frozen 5
        have HW5 := Lib.hid hW5; have HR5 := Lib.hid hst.1; have HF := Lib.hid (And.intro hO5 hG5)
        clear hst hW5 hG5 hO5
        go_wp2_with fail
        refine (pmust_true _ _ _ rfl).mono ?_
        rintro e w2 ⟨rfl, rfl⟩
        go_wp2_with fail
        rw [← HW5.out]
        clear r0 r1 r2 r3 r4 r5 f0 f1 f2 f3 f4 f5
        have e0 := HR5.out.cell 0; have e1 := HR5.out.cell 1; have e2 := HR5.out.cell 2; have e3 := HR5.out.cell 3; have e4 := HR5.out.cell 4; have e5 := HR5.out.cell 5
        simp only [List.getElem?_toArray, List.getElem?_cons_zero, List.getElem?_cons_succ] at e0 e1 e2 e3 e4 e5
        refine bodyPost_ret (v := .agg #[.int .i64 0, .int .i64 0, .float .f64 0, .string ⟨#[]⟩, .slice none 0 0, .slice none 0 0]) (by simp [results, Tryz.results71, go_sem, e0, e1, e2, e3, e4, e5]) rfl ?_
        rw [HRN.out]
        exact ⟨HF.out.1, Val.zero, rfl, rfl, zero_in _, zero_sep _, HF.out.2⟩
      case neg =>
        have j2 : ((b.toNat : Int) == 0) = false := by simp; omega
        have HRN : Hid (RR = rdVal s (p + 1)) := Lib.hid (by rw [HE2.out, if_neg hb0, if_pos (by omega)])
        have HV := Lib.hid (prval_any s (p + 1) g W3 hs HG3.out)
        go_wp2_with fail
        refine (pmust_true _ _ _ rfl).mono ?_
        rintro e w2 ⟨rfl, rfl⟩
        go_wp2_with fail
        refine HV.out.mono ?_
        clear HV HE2
        cases hq : rdVal s (p + 1) with
        | none =>
          rintro e w4 ⟨ho4, rfl⟩
          have HRM : Hid (RR = none) := Lib.hid (by rw [HRN.out, hq])
          have HO4 := Lib.hid (HO3.out.trans ho4)
          clear ho4 hq HRN
          unfold pgave
          go_wp2
          rw [HRM.out]
          exact ⟨rfl, HO4.out, rfl⟩
        | some x =>
          obtain ⟨v, q⟩ := x
          rintro e w4 ⟨ho4, u, rfl, hue, hui, hus, hg4⟩
          have HRM : Hid (RR = some (v, q)) := Lib.hid (by rw [HRN.out, hq])
          obtain ⟨a4, b4, k4⟩ := hui.nslice
          obtain ⟨a5, b5, k5⟩ := hui.xslice
          have hag : u.agg = .agg #[.int .i64 u.k, .int .i64 u.n, .float .f64 u.f, .string u.s, .slice a4 u.ns.length b4, .slice a5 u.xs.length b5] := by unfold Val.agg; rw [k4, k5]
          have bR4 := HM3.out.grown ho4 (by simp; omega)
          have hst5 := stored6' bR4 (.int .i64 u.k) (.int .i64 u.n) (.float .f64 u.f) (.string u.s) (.slice a4 u.ns.length b4) (.slice a5 u.xs.length b5)
          obtain ⟨W5, hW5⟩ : ∃ W5, W5 = ((((((w4.setCell ⟨R, 0, none⟩ (.int .i64 u.k)).setCell ⟨R, 1, none⟩ (.int .i64 u.n)).setCell ⟨R, 2, none⟩ (.float .f64 u.f)).setCell ⟨R, 3, none⟩ (.string u.s)).setCell ⟨R, 4, none⟩ (.slice a4 u.ns.length b4)).setCell ⟨R, 5, none⟩ (.slice a5 u.xs.length b5)) := ⟨_, rfl⟩
          rw [← hW5] at hst5
          have bG5 : PRd W5 g s q := Blk.grown hg4 hst5.2 (by simp; omega)
          have hO4 : Only w w4 g := HO3.out.trans ho4
          have hO5 : Only w W5 g := by
            have e := HR.out
            rw [hW5]
            exact (((((hO4.set_ (p := ⟨R, 0, none⟩) (.inr (by simp; omega)) _).set_ (p := ⟨R, 1, none⟩) (.inr (by simp; omega)) _).set_ (p := ⟨R, 2, none⟩) (.inr (by simp; omega)) _).set_ (p := ⟨R, 3, none⟩) (.inr (by simp; omega)) _).set_ (p := ⟨R, 4, none⟩) (.inr (by simp; omega)) _).set_ (p := ⟨R, 5, none⟩) (.inr (by simp; omega)) _
          have hui5 : u.In W5 := hui.carryS hus (fun b o hb hlt => only_cell hst5.2 (by have hb' : W3.heap.size ≤ b := hb; omega) hlt o) hst5.2.size
          have HF := Lib.hid (show Only w W5 g ∧ u.erase = v ∧ u.In W5 ∧ u.Sep (fun b => w.heap.size ≤ b) ∧ PRd W5 g s q from ⟨hO5, hue, hui5, hus.mono (fun b hb => by have hb' : W3.heap.size ≤ b := hb; have := HR.out; omega), bG5⟩)
          have r0 := bR4.cell 0; have r1 := bR4.cell 1; have r2 := bR4.cell 2; have r3 := bR4.cell 3; have r4 := bR4.cell 4; have r5 := bR4.cell 5
          simp only [List.getElem?_toArray, List.getElem?_cons_zero, List.getElem?_cons_succ] at r0 r1 r2 r3 r4 r5
          have f0 := bR4.frozen 0; have f1 := bR4.frozen 1; have f2 := bR4.frozen 2; have f3 := bR4.frozen 3; have f4 := bR4.frozen 4; have f5 := bR4.frozen 5
          have HW5 := Lib.hid hW5; have HR5 := Lib.hid hst5.1; have HAG := Lib.hid hag
          rw [hag]
          clear ho4 hue hui hus hg4 k4 k5 hag bR4 hst5 hW5 bG5 hO4 hO5 hui5 hq HRN
          go_wp2_with fail
          rw [← HW5.out]
          clear r0 r1 r2 r3 r4 r5 f0 f1 f2 f3 f4 f5
          have e0 := HR5.out.cell 0; have e1 := HR5.out.cell 1; have e2 := HR5.out.cell 2; have e3 := HR5.out.cell 3; have e4 := HR5.out.cell 4; have e5 := HR5.out.cell 5
          simp only [List.getElem?_toArray, List.getElem?_cons_zero, List.getElem?_cons_succ] at e0 e1 e2 e3 e4 e5
          refine bodyPost_ret (v := .agg #[.int .i64 u.k, .int .i64 u.n, .float .f64 u.f, .string u.s, .slice a4 u.ns.length b4, .slice a5 u.xs.length b5]) (by simp [results, Tryz.results71, go_sem, e0, e1, e2, e3, e4, e5]) rfl ?_
          rw [HRM.out]
          exact ⟨HF.out.1, u, by rw [HAG.out], HF.out.2⟩

theorem rdN_le {s : ByteArray} {p n q : Nat} (h : rdN s p = some (n, q)) : q ≤ s.size := by
  unfold rdN at h
  cases hu : readU s p 0 0 with
  | error k => rw [hu] at h; cases h
  | ok x =>
    obtain ⟨m, q'⟩ := x
    rw [hu] at h
    simp only at h
    split at h
    · injection h with h
      injection h with h1 h2
      subst h2
      exact (readU_lt s p 0 0 (by simp) (by omega) m q' hu).2.2
    · cases h
theorem rdVal_le {s : ByteArray} {p q : Nat} {v : Val} (hp : p ≤ s.size) (h : rdVal s p = some (v, q)) : q ≤ s.size := by
  unfold rdVal at h
  cases hu : readVAt s (p : Int) with
  | error k => rw [hu] at h; cases h
  | ok x =>
    obtain ⟨m, q'⟩ := x
    rw [hu] at h
    simp only [optV] at h
    injection h with h
    injection h with h1 h2
    subst h2
    unfold readVAt at hu
    rw [if_pos (by omega), Int.toNat_natCast] at hu
    exact (readV_lt hp hu).2.1
theorem rdSome_le {s : ByteArray} {p q : Nat} {v : Val} (h : rdSome s p = some (v, q)) : q ≤ s.size := by
  rw [rdSome_eq] at h
  split at h
  · split at h
    · injection h with h
      injection h with h1 h2
      omega
    · split at h
      · exact rdVal_le (by omega) h
      · cases h
  · cases h
end Go.Proofs.YtaamihdibpioaaaGreat.Pk
