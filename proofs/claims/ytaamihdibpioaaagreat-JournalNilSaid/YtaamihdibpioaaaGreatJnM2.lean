/- Contracts of package disk. -/
import Derived.Test.YtaamihdibpioaaaGreatJnM1
import Derived.Test.YtaamihdibpioaaaGreatProg
import Derived.RegionTactic
import Derived.BigRegion
import Derived.KernelRfl
import Derived.Deep.QuietTactic
import Derived.BigQuiet
namespace Go.Proofs.YtaamihdibpioaaaGreat
set_option linter.unusedVariables false
open Go.RowKit

/-- A disk in memory. -/
def diskCells (n : Int) (rows : List ByteArray) : Array Value := (Value.int .i64 n :: rows.map Value.string).toArray

set_option maxHeartbeats 400000 in
theorem segment_ok (b : Nat) (n i : Int) (w : World) (hc : w.cell? ⟨b, 0, none⟩ = some (.int .i64 n)) (h0 : 0 ≤ i) (h1 : i < n) :
    Calls Tryz.prog 45 #[.pointer (some ⟨b, 0, none⟩), .int .i64 i] w fun e w' => e = .returned (.int .i64 0) ∧ w = w' := by
  go_enter Tryz.func45, Tryz.ntmps45
  go_wp2
  go_ret
  exact ⟨rfl, rfl⟩

set_option maxHeartbeats 400000 in
theorem segment_out (b : Nat) (n i : Int) (w : World) (hc : w.cell? ⟨b, 0, none⟩ = some (.int .i64 n)) (h : i < 0 ∨ n ≤ i) :
    Calls Tryz.prog 45 #[.pointer (some ⟨b, 0, none⟩), .int .i64 i] w fun e w' => e = .returned (.int .i64 3) ∧ w = w' := by
  rcases h with h | h
  all_goals
    go_enter Tryz.func45, Tryz.ntmps45
    go_wp2
    all_goals (go_ret; exact ⟨rfl, rfl⟩)

set_option maxHeartbeats 400000 in
theorem segment_nil (i : Int) (w : World) :
    Calls Tryz.prog 45 #[.pointer none, .int .i64 i] w fun e w' => e = .returned (.int .i64 1) ∧ w = w' := by
  go_enter Tryz.func45, Tryz.ntmps45
  go_wp2
  go_ret
  exact ⟨rfl, rfl⟩

theorem diskCells_set {n : Int} {rows : List ByteArray} {i : Nat} {r : ByteArray} : (diskCells n rows).setIfInBounds (1 + i) (.string r) = diskCells n (rows.set i r) := by
  simp [diskCells, Nat.add_comm 1 i]

/-- Of s the bytes that stay of a write of which keep bytes are kept. -/
def kept (s : ByteArray) (keep : Int) : ByteArray := s.extract 0 (min keep.toNat s.size)
theorem kept_neg {s : ByteArray} {keep : Int} (h : keep ≤ 0) : kept s keep = ByteArray.empty := by
  have e : min keep.toNat s.size = 0 := by omega
  simp [kept, e]
theorem kept_all {s : ByteArray} {keep : Int} (h : (s.size : Int) ≤ keep) : kept s keep = s := by
  have e : min keep.toNat s.size = s.size := by omega
  simp [kept, e]
theorem kept_some {s : ByteArray} {keep : Int} (h : keep ≤ (s.size : Int)) : kept s keep = s.extract 0 keep.toNat := by
  have e : min keep.toNat s.size = keep.toNat := by omega
  simp [kept, e]

/-- The disk at b has become n, rows; nothing else has changed. -/
def Disked (b : Nat) (n : Int) (rows : List ByteArray) (w w' : World) : Prop := Only w w' b ∧ Blk w' b 92 (diskCells n rows)

theorem Disked.of_set {b : Nat} {n : Int} {rows : List ByteArray} {w : World} (hb : Blk w b 92 (diskCells n rows)) (i : Nat) {r r' : ByteArray} (h : r' = r) :
    Disked b n (rows.set i r) w (w.setCell ⟨b, 1 + i, none⟩ (.string r')).drew := by
  subst h
  have := (hb.set_ (1 + i) (.string r')).drew
  rw [diskCells_set] at this
  exact ⟨((Only.refl w b).set_ (.inl rfl) _).drew, this⟩

set_option maxHeartbeats 400000 in
theorem tear_ok (b : Nat) (n : Int) (rows : List ByteArray) (i : Nat) (s R : ByteArray) (keep : Int) (w : World) (hb : Blk w b 92 (diskCells n rows))
    (h1 : (i : Int) < n) (h8 : i < 8) (hs : s.size ≤ 9223372036854775807) (hR : rows[i]? = some R) (hr : R.size + s.size ≤ 4000) :
    Calls Tryz.prog 27 #[.pointer (some ⟨b, 0, none⟩), .int .i64 i, .string s, .int .i64 keep] w fun e w' => e = .returned (.int .i64 0) ∧
      Disked b n (rows.set i (R ++ kept s keep)) w w' := by
  have hc0 : w.cell? ⟨b, 0, none⟩ = some (.int .i64 n) := by rw [hb.cell]; simp [diskCells]
  have hci : w.cell? ⟨b, 1 + i, none⟩ = some (.string R) := by rw [hb.cell]; simp [diskCells, Nat.add_comm 1 i, hR]
  have hfi := hb.frozen (1 + i)
  have hle : (R.size : Int) + s.size ≤ 4000 := by omega
  clear hR
  go_enter Tryz.func27, Tryz.ntmps27
  go_wp2_with (go_at_call 45; refine (segment_ok b n i _ (by assumption) (by omega) (by omega)).mono ?_; rintro e w' ⟨rfl, rfl⟩)
  go_region
  all_goals go_wp2
  all_goals go_ret
  · exact ⟨rfl, Disked.of_set hb i (by rw [kept_neg (by omega)]; simp)⟩
  · exact ⟨rfl, Disked.of_set hb i (by rw [kept_all (by omega)])⟩
  · exact ⟨rfl, Disked.of_set hb i (by rw [kept_some (by omega)])⟩

set_option maxHeartbeats 400000 in
theorem tear_full (b : Nat) (n : Int) (rows : List ByteArray) (i : Nat) (s R : ByteArray) (keep : Int) (w : World) (hb : Blk w b 92 (diskCells n rows))
    (h1 : (i : Int) < n) (h8 : i < 8) (hs : s.size ≤ 9223372036854775807) (hR : rows[i]? = some R) (hr0 : R.size ≤ 4000) (hr : 4000 < R.size + s.size) :
    Calls Tryz.prog 27 #[.pointer (some ⟨b, 0, none⟩), .int .i64 i, .string s, .int .i64 keep] w fun e w' => e = .returned (.int .i64 4) ∧ w = w' := by
  have hc0 : w.cell? ⟨b, 0, none⟩ = some (.int .i64 n) := by rw [hb.cell]; simp [diskCells]
  have hci : w.cell? ⟨b, 1 + i, none⟩ = some (.string R) := by rw [hb.cell]; simp [diskCells, Nat.add_comm 1 i, hR]
  have hle : 4000 < (R.size : Int) + s.size := by omega
  clear hR
  go_enter Tryz.func27, Tryz.ntmps27
  go_wp2_with (go_at_call 45; refine (segment_ok b n i _ (by assumption) (by omega) (by omega)).mono ?_; rintro e w' ⟨rfl, rfl⟩)
  go_ret
  exact ⟨rfl, rfl⟩

set_option maxHeartbeats 400000 in
theorem tear_out (b : Nat) (n i : Int) (s : ByteArray) (keep : Int) (w : World) (hc0 : w.cell? ⟨b, 0, none⟩ = some (.int .i64 n)) (h : i < 0 ∨ n ≤ i) :
    Calls Tryz.prog 27 #[.pointer (some ⟨b, 0, none⟩), .int .i64 i, .string s, .int .i64 keep] w fun e w' => e = .returned (.int .i64 3) ∧ w = w' := by
  go_enter Tryz.func27, Tryz.ntmps27
  go_wp2_with (go_at_call 45; refine (segment_out b n i _ (by assumption) h).mono ?_; rintro e w' ⟨rfl, rfl⟩)
  go_ret
  exact ⟨rfl, rfl⟩


/-- What a disk that is there satisfies: n segments of at most 4000 bytes. -/
structure Dk (n : Nat) (rows : List ByteArray) : Prop where
  len : rows.length = 8
  n1 : 1 ≤ n
  n8 : n ≤ 8
  sz : ∀ r ∈ rows, r.size ≤ 4000

/-- Is there a segment i? -/
def isSeg (n : Nat) (i : Int) : Bool := decide (0 ≤ i ∧ i < n)
/-- Segment i. -/
def rowOf (rows : List ByteArray) (i : Int) : ByteArray := rows.getD i.toNat ByteArray.empty
def fits (rows : List ByteArray) (i : Int) (s : ByteArray) : Bool := decide ((rowOf rows i).size + s.size ≤ 4000)
def tearE (n : Nat) (rows : List ByteArray) (i : Int) (s : ByteArray) : Int := bif isSeg n i then (bif fits rows i s then 0 else 4) else 3
def tearR (n : Nat) (rows : List ByteArray) (i : Int) (s : ByteArray) (keep : Int) : List ByteArray :=
  bif isSeg n i && fits rows i s then rows.set i.toNat (rowOf rows i ++ kept s keep) else rows
def within (rows : List ByteArray) (i m : Int) : Bool := decide (0 ≤ m ∧ m ≤ (rowOf rows i).size)
def cutE (n : Nat) (rows : List ByteArray) (i m : Int) : Int := bif isSeg n i && within rows i m then 0 else 3
def cutR (n : Nat) (rows : List ByteArray) (i m : Int) : List ByteArray :=
  bif isSeg n i && within rows i m then rows.set i.toNat ((rowOf rows i).extract 0 m.toNat) else rows
def readR (n : Nat) (rows : List ByteArray) (i : Int) : ByteArray := bif isSeg n i then rowOf rows i else ByteArray.empty
theorem Dk.at_ {n : Nat} {rows : List ByteArray} (h : Dk n rows) {i : Int} (hi : isSeg n i = true) : ∃ k : Nat, i = (k : Int) ∧ k < n ∧ k < 8 ∧ rows[k]? = some (rowOf rows i) ∧ (rowOf rows i).size ≤ 4000 := by
  have hi' : 0 ≤ i ∧ i < n := by simpa [isSeg] using hi
  obtain ⟨k, rfl⟩ := Int.eq_ofNat_of_zero_le hi'.1
  have h8 := h.n8
  have hk : k < rows.length := by have := h.len; omega
  refine ⟨k, rfl, by omega, by omega, by simp [rowOf, hk], h.sz _ ?_⟩
  simp [rowOf, hk]
theorem rowOf_size {n : Nat} {rows : List ByteArray} (h : Dk n rows) (i : Int) : (rowOf rows i).size ≤ 4000 := by
  unfold rowOf
  by_cases hk : i.toNat < rows.length
  · simp only [List.getD_eq_getElem?_getD, List.getElem?_eq_getElem hk, Option.getD_some]; exact h.sz _ (List.getElem_mem hk)
  · simp [List.getD_eq_getElem?_getD, List.getElem?_eq_none (Nat.le_of_not_lt hk)]

theorem kept_size (s : ByteArray) (keep : Int) : (kept s keep).size ≤ s.size := by
  unfold kept; simp; omega
theorem Dk.set_ {n : Nat} {rows : List ByteArray} (h : Dk n rows) (k : Nat) {r : ByteArray} (hr : r.size ≤ 4000) : Dk n (rows.set k r) :=
  ⟨by simp [h.len], h.n1, h.n8, fun x hx => by rcases List.mem_or_eq_of_mem_set hx with hx | rfl; exact h.sz x hx; exact hr⟩
theorem Dk.tear {n : Nat} {rows : List ByteArray} (h : Dk n rows) (i : Int) (s : ByteArray) (keep : Int) : Dk n (tearR n rows i s keep) := by
  unfold tearR
  cases hc : isSeg n i && fits rows i s
  · exact h
  · simp only [Bool.and_eq_true] at hc
    have hf : (rowOf rows i).size + s.size ≤ 4000 := by simpa [fits] using hc.2
    have := kept_size s keep
    exact h.set_ _ (by simp; omega)
theorem Dk.cut {n : Nat} {rows : List ByteArray} (h : Dk n rows) (i m : Int) : Dk n (cutR n rows i m) := by
  unfold cutR
  cases hc : isSeg n i && within rows i m
  · exact h
  · have := rowOf_size h i
    exact h.set_ _ (by simp; omega)

theorem Disked.refl {b : Nat} {n : Int} {rows : List ByteArray} {w : World} (hb : Blk w b 92 (diskCells n rows)) : Disked b n rows w w := ⟨Only.refl w b, hb⟩

theorem Dk.cell0 {b : Nat} {n : Int} {rows : List ByteArray} {w : World} (hb : Blk w b 92 (diskCells n rows)) : w.cell? ⟨b, 0, none⟩ = some (.int .i64 n) := by rw [hb.cell]; simp [diskCells]
theorem Dk.celli {b k : Nat} {n : Int} {rows : List ByteArray} {w : World} {R : ByteArray} (hb : Blk w b 92 (diskCells n rows)) (hR : rows[k]? = some R) : w.cell? ⟨b, 1 + k, none⟩ = some (.string R) := by
  rw [hb.cell]; simp [diskCells, Nat.add_comm 1 k, hR]
theorem isSeg_out {n : Nat} {i : Int} (h : isSeg n i = false) : i < 0 ∨ (n : Int) ≤ i := by
  have : ¬ (0 ≤ i ∧ i < (n : Int)) := by simpa [isSeg] using h
  omega

theorem tear_any (b n : Nat) (rows : List ByteArray) (i : Int) (s : ByteArray) (keep : Int) (w : World) (hb : Blk w b 92 (diskCells n rows)) (hD : Dk n rows) (hs : s.size ≤ 9223372036854775807) :
    Calls Tryz.prog 27 #[.pointer (some ⟨b, 0, none⟩), .int .i64 i, .string s, .int .i64 keep] w fun e w' => e = .returned (.int .i64 (tearE n rows i s)) ∧
      Disked b n (tearR n rows i s keep) w w' := by
  cases hi : isSeg n i
  · refine (tear_out b n i s keep w (Dk.cell0 hb) (isSeg_out hi)).mono ?_
    rintro e w' ⟨rfl, rfl⟩
    exact ⟨by simp [tearE, hi], by simp [tearR, hi]; exact Disked.refl hb⟩
  · obtain ⟨k, rfl, h1, h8, hR, hz⟩ := hD.at_ hi
    cases hf : fits rows k s
    · have : ¬ ((rowOf rows k).size + s.size ≤ 4000) := by simpa [fits] using hf
      refine (tear_full b n rows k s _ keep w hb (by omega) h8 hs hR hz (by omega)).mono ?_
      rintro e w' ⟨rfl, rfl⟩
      exact ⟨by simp [tearE, hi, hf], by simp [tearR, hf]; exact Disked.refl hb⟩
    · have : ((rowOf rows k).size + s.size ≤ 4000) := by simpa [fits] using hf
      refine (tear_ok b n rows k s _ keep w hb (by omega) h8 hs hR this).mono ?_
      rintro e w' ⟨rfl, hd⟩
      exact ⟨by simp [tearE, hi, hf], by simp only [tearR, hi, hf]; exact hd⟩

set_option maxHeartbeats 400000 in
theorem append_any (b n : Nat) (rows : List ByteArray) (i : Int) (s : ByteArray) (w : World) (hb : Blk w b 92 (diskCells n rows)) (hD : Dk n rows) (hs : s.size ≤ 9223372036854775807) :
    Calls Tryz.prog 26 #[.pointer (some ⟨b, 0, none⟩), .int .i64 i, .string s] w fun e w' => e = .returned (.int .i64 (tearE n rows i s)) ∧
      Disked b n (tearR n rows i s s.size) w w' := by
  go_enter Tryz.func26, Tryz.ntmps26
  go_wp2_with (go_at_call 27; refine (tear_any b n rows i s s.size _ hb hD hs).mono ?_; rintro e w' ⟨rfl, hd⟩)
  go_ret
  exact ⟨rfl, hd⟩

set_option maxHeartbeats 400000 in
theorem cut_out (b : Nat) (n i m : Int) (w : World) (hc0 : w.cell? ⟨b, 0, none⟩ = some (.int .i64 n)) (h : i < 0 ∨ n ≤ i) :
    Calls Tryz.prog 29 #[.pointer (some ⟨b, 0, none⟩), .int .i64 i, .int .i64 m] w fun e w' => e = .returned (.int .i64 3) ∧ w = w' := by
  go_enter Tryz.func29, Tryz.ntmps29
  go_wp2_with (go_at_call 45; refine (segment_out b n i _ (by assumption) h).mono ?_; rintro e w' ⟨rfl, rfl⟩)
  go_ret
  exact ⟨rfl, rfl⟩

set_option maxHeartbeats 400000 in
theorem cut_range (b : Nat) (n : Int) (rows : List ByteArray) (i : Nat) (m : Int) (R : ByteArray) (w : World) (hb : Blk w b 92 (diskCells n rows))
    (h1 : (i : Int) < n) (h8 : i < 8) (hR : rows[i]? = some R) (hz : R.size ≤ 4000) (hm : m < 0 ∨ (R.size : Int) < m) :
    Calls Tryz.prog 29 #[.pointer (some ⟨b, 0, none⟩), .int .i64 i, .int .i64 m] w fun e w' => e = .returned (.int .i64 3) ∧ w = w' := by
  have hc0 := Dk.cell0 hb
  have hci := Dk.celli hb hR
  clear hR
  by_cases hm0 : m < 0
  all_goals
    try have hm1 : (R.size : Int) < m := by omega
    try have hm2 : decide (m < 0) = false := by simp; omega
    clear hm
    go_enter Tryz.func29, Tryz.ntmps29
    go_wp2_with (go_at_call 45; refine (segment_ok b n i _ (by assumption) (by omega) (by omega)).mono ?_; rintro e w' ⟨rfl, rfl⟩)
    all_goals go_ret
    all_goals exact ⟨rfl, rfl⟩

set_option maxHeartbeats 400000 in
theorem cut_ok (b : Nat) (n : Int) (rows : List ByteArray) (i : Nat) (m : Nat) (R : ByteArray) (w : World) (hb : Blk w b 92 (diskCells n rows))
    (h1 : (i : Int) < n) (h8 : i < 8) (hR : rows[i]? = some R) (hz : R.size ≤ 4000) (hm : m ≤ R.size) :
    Calls Tryz.prog 29 #[.pointer (some ⟨b, 0, none⟩), .int .i64 i, .int .i64 m] w fun e w' => e = .returned (.int .i64 0) ∧
      Disked b n (rows.set i (R.extract 0 m)) w w' := by
  have hc0 := Dk.cell0 hb
  have hci := Dk.celli hb hR
  have hfi := hb.frozen (1 + i)
  clear hR
  have hm1 : (m : Int) ≤ (R.size : Int) := by omega
  have hm2 : decide ((m : Int) < 0) = false := by simp
  go_enter Tryz.func29, Tryz.ntmps29
  go_wp2_with (go_at_call 45; refine (segment_ok b n i _ (by assumption) (by omega) (by omega)).mono ?_; rintro e w' ⟨rfl, rfl⟩)
  all_goals go_region
  all_goals go_wp2
  all_goals go_ret
  all_goals exact ⟨rfl, Disked.of_set hb i (by simp)⟩

theorem cut_any (b n : Nat) (rows : List ByteArray) (i m : Int) (w : World) (hb : Blk w b 92 (diskCells n rows)) (hD : Dk n rows) :
    Calls Tryz.prog 29 #[.pointer (some ⟨b, 0, none⟩), .int .i64 i, .int .i64 m] w fun e w' => e = .returned (.int .i64 (cutE n rows i m)) ∧
      Disked b n (cutR n rows i m) w w' := by
  cases hi : isSeg n i
  · refine (cut_out b n i m w (Dk.cell0 hb) (isSeg_out hi)).mono ?_
    rintro e w' ⟨rfl, rfl⟩
    exact ⟨by simp [cutE, hi], by simp [cutR, hi]; exact Disked.refl hb⟩
  · obtain ⟨k, rfl, h1, h8, hR, hz⟩ := hD.at_ hi
    cases hf : within rows k m
    · have : ¬ (0 ≤ m ∧ m ≤ (rowOf rows k).size) := by simpa [within] using hf
      refine (cut_range b n rows k m _ w hb (by omega) h8 hR hz (by omega)).mono ?_
      rintro e w' ⟨rfl, rfl⟩
      exact ⟨by simp [cutE, hf], by simp [cutR, hf]; exact Disked.refl hb⟩
    · have : (0 ≤ m ∧ m ≤ (rowOf rows k).size) := by simpa [within] using hf
      obtain ⟨j, rfl⟩ := Int.eq_ofNat_of_zero_le this.1
      refine (cut_ok b n rows k j _ w hb (by omega) h8 hR hz (by omega)).mono ?_
      rintro e w' ⟨rfl, hd⟩
      exact ⟨by simp [cutE, hi, hf], by simp only [cutR, hi, hf]; exact hd⟩

set_option maxHeartbeats 400000 in
theorem read_any (b n : Nat) (rows : List ByteArray) (i : Int) (w : World) (hb : Blk w b 92 (diskCells n rows)) (hD : Dk n rows) :
    Calls Tryz.prog 34 #[.pointer (some ⟨b, 0, none⟩), .int .i64 i] w fun e w' => e = .returned (.string (readR n rows i)) ∧ w = w' := by
  have hc0 := Dk.cell0 hb
  cases hi : isSeg n i
  · have he : readR n rows i = ByteArray.empty := by simp [readR, hi]
    rw [he]
    have ho := isSeg_out hi
    go_enter Tryz.func34, Tryz.ntmps34
    go_wp2_with (go_at_call 45; refine (segment_out b n i _ (by assumption) ho).mono ?_; rintro e w' ⟨rfl, rfl⟩)
    go_ret
    exact ⟨rfl, rfl⟩
  · have he : readR n rows i = rowOf rows i := by simp [readR, hi]
    rw [he]
    obtain ⟨k, rfl, h1, h8, hR, hz⟩ := hD.at_ hi
    have hci := Dk.celli hb hR
    clear hR hi he
    go_enter Tryz.func34, Tryz.ntmps34
    go_wp2_with (go_at_call 45; refine (segment_ok b n k _ (by assumption) (by omega) (by omega)).mono ?_; rintro e w' ⟨rfl, rfl⟩)
    go_ret
    exact ⟨rfl, rfl⟩

def noRows : List ByteArray := List.replicate 8 ByteArray.empty
/-- What New lays. -/
def Newed (n : Nat) (w : World) (e : Ending) (w' : World) : Prop :=
  e = .returned (.tuple #[.pointer (some ⟨w.heap.size, 0, none⟩), .int .i64 0]) ∧ Below w.heap.size w w' ∧ Blk w' w.heap.size 92 (diskCells n noRows)

set_option maxHeartbeats 400000 in
theorem new_ok (n : Nat) (w : World) (h1 : 1 ≤ n) (h8 : n ≤ 8) :
    Calls Tryz.prog 23 #[.int .i64 n] w fun e w' => Newed n w e w' := by
  have h2 : decide ((n : Int) < 1) = false := by simp; omega
  have h3 : decide (8 < (n : Int)) = false := by simp; omega
  go_enter Tryz.func23, Tryz.ntmps23
  go_wp2
  go_ret2
  exact ⟨rfl, (Below.refl _ _).alloc (Nat.le_refl _) _, Blk.new _ _ _⟩

theorem eight {α : Type} {l : List α} (h : l.length = 8) : ∃ a b c d e f g i, l = [a, b, c, d, e, f, g, i] := by
  match l, h with
  | [a, b, c, d, e, f, g, i], _ => exact ⟨a, b, c, d, e, f, g, i, rfl⟩

theorem tear_nil (i : Int) (s : ByteArray) (keep : Int) (w : World) :
    Calls Tryz.prog 27 #[.pointer none, .int .i64 i, .string s, .int .i64 keep] w fun e w' => e = .returned (.int .i64 1) ∧ w = w' := by
  go_enter Tryz.func27, Tryz.ntmps27
  go_wp2_with (go_at_call 45; refine (segment_nil i _).mono ?_; rintro e w' ⟨rfl, rfl⟩)
  go_ret
  exact ⟨rfl, rfl⟩
theorem append_nil (i : Int) (s : ByteArray) (w : World) (hs : s.size ≤ 9223372036854775807) :
    Calls Tryz.prog 26 #[.pointer none, .int .i64 i, .string s] w fun e w' => e = .returned (.int .i64 1) ∧ w = w' := by
  go_enter Tryz.func26, Tryz.ntmps26
  go_wp2_with (go_at_call 27; refine (tear_nil i s _ _).mono ?_; rintro e w' ⟨rfl, rfl⟩)
  go_ret
  exact ⟨rfl, rfl⟩
end Go.Proofs.YtaamihdibpioaaaGreat
