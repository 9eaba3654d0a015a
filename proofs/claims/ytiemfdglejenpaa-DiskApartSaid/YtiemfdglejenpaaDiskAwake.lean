/- The law package's 'awake' of layer 17 answers true. -/
import Derived.Test.YtiemfdglejenpaaDisk
import Derived.Test.YtiemfdglejenpaaRow
namespace Go.Proofs.Ytiemfdglejenpaa
open Go.RowKit

theorem Disked.below {b : Nat} {n : Int} {rows : List ByteArray} {w w' : World} (h : Disked b n rows w w') {B : Nat} (hB : B ≤ b) (hs : B ≤ w.heap.size) : Below B w w' := h.1.below hB hs

section
variable {b n : Nat} {rows rows' : List ByteArray} {i : Int} {s : ByteArray} {keep m : Int} {w : World} (hb : Blk w b 70 (diskCells n rows)) (hD : Dk n rows)
include hb hD
theorem tear_to (hs : s.size ≤ 9223372036854775807) {e0 : Int} (h : tearE n rows i s = e0) (h' : tearR n rows i s keep = rows') :
    Calls Try.prog 17 #[.pointer (some ⟨b, 0, none⟩), .int .i64 i, .string s, .int .i64 keep] w fun e w' => e = .returned (.int .i64 e0) ∧ Disked b n rows' w w' := by
  subst h h'; exact tear_any b n rows i s keep w hb hD hs
theorem append_to (hs : s.size ≤ 9223372036854775807) {e0 : Int} (h : tearE n rows i s = e0) (h' : tearR n rows i s s.size = rows') :
    Calls Try.prog 16 #[.pointer (some ⟨b, 0, none⟩), .int .i64 i, .string s] w fun e w' => e = .returned (.int .i64 e0) ∧ Disked b n rows' w w' := by
  subst h h'; exact append_any b n rows i s w hb hD hs
theorem cut_to {e0 : Int} (h : cutE n rows i m = e0) (h' : cutR n rows i m = rows') :
    Calls Try.prog 18 #[.pointer (some ⟨b, 0, none⟩), .int .i64 i, .int .i64 m] w fun e w' => e = .returned (.int .i64 e0) ∧ Disked b n rows' w w' := by
  subst h h'; exact cut_any b n rows i m w hb hD
theorem read_to {r : ByteArray} (h : readR n rows i = r) :
    Calls Try.prog 19 #[.pointer (some ⟨b, 0, none⟩), .int .i64 i] w fun e w' => e = .returned (.string r) ∧ w = w' := by
  subst h; exact read_any b n rows i w hb hD
theorem room_to {r : Int} (h : roomR n rows i = r) :
    Calls Try.prog 20 #[.pointer (some ⟨b, 0, none⟩), .int .i64 i] w fun e w' => e = .returned (.int .i64 r) ∧ w = w' := by
  subst h; exact room_any b n rows i w hb hD
end

theorem dk_no {n : Nat} (h1 : 1 ≤ n) (h8 : n ≤ 8) : Dk n noRows := ⟨rfl, h1, h8, fun r hr => by
  have := List.eq_of_mem_replicate hr
  subst this
  decide⟩
def abc : ByteArray := ⟨#[97, 98, 99]⟩
def abcde : ByteArray := ⟨#[97, 98, 99, 100, 101]⟩
def awRows1 : List ByteArray := noRows.set 0 abc
def awRows2 : List ByteArray := noRows.set 0 abcde

theorem new_two (w : World) : Calls Try.prog 14 #[.int .i64 2] w fun e w' => Newed 2 w e w' := new_ok 2 w (by omega) (by omega)
theorem awDk1 : Dk 2 awRows1 := (dk_no (by omega) (by omega)).set_ _ (by decide)
theorem awDk2 : Dk 2 awRows2 := (dk_no (by omega) (by omega)).set_ _ (by decide)

theorem aw_append {b : Nat} {w : World} (hb : Blk w b 70 (diskCells (2 : Nat) noRows)) :
    Calls Try.prog 16 #[.pointer (some ⟨b, 0, none⟩), .int .i64 0, .string ⟨#[97, 98, 99]⟩] w fun e w' => e = .returned (.int .i64 0) ∧ Disked b (2 : Nat) awRows1 w w' :=
  append_to hb (dk_no (by omega) (by omega)) (by decide) (by decide +kernel) (by decide +kernel)
theorem aw_tear {b : Nat} {w : World} (hb : Blk w b 70 (diskCells (2 : Nat) awRows1)) :
    Calls Try.prog 17 #[.pointer (some ⟨b, 0, none⟩), .int .i64 0, .string ⟨#[100, 101, 102, 103]⟩, .int .i64 2] w fun e w' => e = .returned (.int .i64 0) ∧ Disked b (2 : Nat) awRows2 w w' :=
  tear_to hb awDk1 (by decide) (by decide +kernel) (by decide +kernel)
theorem aw_read2 {b : Nat} {w : World} (hb : Blk w b 70 (diskCells (2 : Nat) awRows2)) :
    Calls Try.prog 19 #[.pointer (some ⟨b, 0, none⟩), .int .i64 0] w fun e w' => e = .returned (.string ⟨#[97, 98, 99, 100, 101]⟩) ∧ w = w' :=
  read_to hb awDk2 (by decide +kernel)
theorem aw_cut {b : Nat} {w : World} (hb : Blk w b 70 (diskCells (2 : Nat) awRows2)) :
    Calls Try.prog 18 #[.pointer (some ⟨b, 0, none⟩), .int .i64 0, .int .i64 3] w fun e w' => e = .returned (.int .i64 0) ∧ Disked b (2 : Nat) awRows1 w w' :=
  cut_to hb awDk2 (by decide +kernel) (by decide +kernel)
theorem aw_read1 {b : Nat} {w : World} (hb : Blk w b 70 (diskCells (2 : Nat) awRows1)) :
    Calls Try.prog 19 #[.pointer (some ⟨b, 0, none⟩), .int .i64 0] w fun e w' => e = .returned (.string ⟨#[97, 98, 99]⟩) ∧ w = w' :=
  read_to hb awDk1 (by decide +kernel)
theorem aw_room1 {b : Nat} {w : World} (hb : Blk w b 70 (diskCells (2 : Nat) awRows1)) :
    Calls Try.prog 20 #[.pointer (some ⟨b, 0, none⟩), .int .i64 0] w fun e w' => e = .returned (.int .i64 3997) ∧ w = w' :=
  room_to hb awDk1 (by decide +kernel)
theorem aw_append2 {b : Nat} {w : World} (hb : Blk w b 70 (diskCells (2 : Nat) awRows1)) :
    Calls Try.prog 16 #[.pointer (some ⟨b, 0, none⟩), .int .i64 2, .string ⟨#[]⟩] w fun e w' => e = .returned (.int .i64 3) ∧ Disked b (2 : Nat) awRows1 w w' :=
  append_to hb awDk1 (by decide) (by decide +kernel) (by decide +kernel)

set_option maxHeartbeats 1000000 in
theorem awake17_any (w : World) : Calls Try.prog 12 #[] w fun e w' => TrueBelow w e w' := by
  go_enter Try.func12, Try.ntmps12
  go_wp2_with fail
  refine (new_two _).mono ?_
  rintro e w1 ⟨rfl, hl1, hb1⟩
  go_wp2_with fail
  refine (aw_append hb1).mono ?_
  rintro e w2 ⟨rfl, hd2⟩
  have hl2 := hl1.trans (hd2.below (Nat.le_refl _) hl1.size)
  have hb2 := hd2.2
  clear hd2 hl1 hb1
  go_wp2_with fail
  refine (aw_tear hb2).mono ?_
  rintro e w3 ⟨rfl, hd3⟩
  have hl3 := hl2.trans (hd3.below (Nat.le_refl _) hl2.size)
  have hb3 := hd3.2
  clear hd3 hl2 hb2
  go_wp2_with fail
  refine (aw_read2 hb3).mono ?_
  rintro e w' ⟨rfl, rfl⟩
  go_wp2_with fail
  refine (aw_cut hb3).mono ?_
  rintro e w4 ⟨rfl, hd4⟩
  have hl4 := hl3.trans (hd4.below (Nat.le_refl _) hl3.size)
  have hb4 := hd4.2
  clear hd4 hl3 hb3
  go_wp2_with fail
  refine (aw_read1 hb4).mono ?_
  rintro e w' ⟨rfl, rfl⟩
  go_wp2_with fail
  refine (aw_room1 hb4).mono ?_
  rintro e w' ⟨rfl, rfl⟩
  go_wp2_with fail
  refine (aw_append2 hb4).mono ?_
  rintro e w5 ⟨rfl, hd5⟩
  have hl5 := hl4.trans (hd5.below (Nat.le_refl _) hl4.size)
  clear hd5 hl4 hb4
  go_wp2
  go_ret
  exact ⟨rfl, hl5⟩
end Go.Proofs.Ytiemfdglejenpaa
