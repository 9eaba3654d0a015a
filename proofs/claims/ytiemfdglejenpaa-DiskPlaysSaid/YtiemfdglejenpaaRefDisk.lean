/- Contracts of the reference of layer 17: segments as a slice of texts. -/
import Derived.Test.YtiemfdglejenpaaDisk
namespace Go.Proofs.Ytiemfdglejenpaa.Ref17
open Go.RowKit
set_option linter.unusedVariables false

/-- A reference's disk in memory: the struct at p, its rows at q. -/
structure RefAt (w : World) (p q n : Nat) (rows : List ByteArray) : Prop where
  top : Blk w p 53 #[.slice (some ⟨q, 0, none⟩) n n]
  row : Blk w q 9 (rows.map Value.string).toArray
  len : rows.length = n
  n1 : 1 ≤ n
  n8 : n ≤ 8
  sz : ∀ r ∈ rows, r.size ≤ 4000

section
variable {w w' : World} {p q n : Nat} {rows : List ByteArray}
theorem RefAt.ne (h : RefAt w p q n rows) : p ≠ q := h.top.ne_ h.row (by decide)
theorem RefAt.c0 (h : RefAt w p q n rows) : w.cell? ⟨p, 0, none⟩ = some (.slice (some ⟨q, 0, none⟩) n n) := by rw [h.top.cell]; rfl
theorem RefAt.grown {row : Option Nat} (h : RefAt w p q n rows) (hg : w.grownBy w' row) (h1 : some p ≠ row) (h2 : some q ≠ row) : RefAt w' p q n rows :=
  ⟨h.top.grown hg h1, h.row.grown hg h2, h.len, h.n1, h.n8, h.sz⟩
theorem RefAt.at_ (h : RefAt w p q n rows) {i : Int} (hi : isSeg n i = true) : ∃ k : Nat, i = (k : Int) ∧ k < n ∧ w.cell? ⟨q, k, none⟩ = some (.string (rowOf rows i)) ∧ rows[k]? = some (rowOf rows i) ∧ (rowOf rows i).size ≤ 4000 := by
  have hi' : 0 ≤ i ∧ i < n := by simpa [isSeg] using hi
  obtain ⟨k, rfl⟩ := Int.eq_ofNat_of_zero_le hi'.1
  have hk : k < rows.length := by have := h.len; omega
  have e : rows[k]? = some (rowOf rows (k : Int)) := by simp [rowOf, hk]
  refine ⟨k, rfl, by omega, ?_, e, h.sz _ ?_⟩
  · rw [h.row.cell]; simp [e]
  · simp [rowOf, hk]
end

/-- The rows have become rows'; nothing else has changed. -/
def Turned (p q n : Nat) (rows : List ByteArray) (w w' : World) : Prop := Only w w' q ∧ RefAt w' p q n rows
theorem Turned.refl {p q n : Nat} {rows : List ByteArray} {w : World} (h : RefAt w p q n rows) : Turned p q n rows w w := ⟨Only.refl w q, h⟩
theorem Turned.of_set {p q n : Nat} {rows : List ByteArray} {w : World} (h : RefAt w p q n rows) (i : Nat) {r r' : ByteArray} (e : r' = r) (hr : r.size ≤ 4000) :
    Turned p q n (rows.set i r) w (w.setCell ⟨q, i, none⟩ (.string r')).drew := by
  subst e
  refine ⟨((Only.refl w q).set_ (.inl rfl) _).drew, h.top.far h.ne _, ?_, by simp [h.len], h.n1, h.n8, fun x hx => ?_⟩
  · have := (h.row.set_ i (.string r')).drew
    simpa [List.map_set] using this
  · rcases List.mem_or_eq_of_mem_set hx with hx | rfl
    · exact h.sz x hx
    · exact hr

set_option maxHeartbeats 400000 in
theorem is_yes (p q n : Nat) (rows : List ByteArray) (i : Int) (w : World) (h : RefAt w p q n rows) (hi : 0 ≤ i) (hn : i < n) :
    Calls Try.prog 39 #[.pointer (some ⟨p, 0, none⟩), .int .i64 i] w fun e w' => e = .returned (.bool true) ∧ w = w' := by
  have c0 := h.c0
  have hd : decide (0 ≤ i) = true := by simpa using hi
  have hd2 : decide (i < (n : Int)) = true := by simpa using hn
  go_enter Try.func39, Try.ntmps39
  go_wp2
  go_ret
  exact ⟨rfl, rfl⟩
set_option maxHeartbeats 400000 in
theorem is_no (p q n : Nat) (rows : List ByteArray) (i : Int) (w : World) (h : RefAt w p q n rows) (hi : i < 0 ∨ (n : Int) ≤ i) :
    Calls Try.prog 39 #[.pointer (some ⟨p, 0, none⟩), .int .i64 i] w fun e w' => e = .returned (.bool false) ∧ w = w' := by
  have c0 := h.c0
  by_cases h0 : i < 0
  · have hd : decide (0 ≤ i) = false := by simpa using h0
    clear hi
    go_enter Try.func39, Try.ntmps39
    go_wp2
    go_ret
    exact ⟨rfl, rfl⟩
  · have hd : decide (0 ≤ i) = true := by simp; omega
    have hd2 : decide (i < (n : Int)) = false := by simp; omega
    clear hi
    go_enter Try.func39, Try.ntmps39
    go_wp2
    go_ret
    exact ⟨rfl, rfl⟩

set_option maxHeartbeats 400000 in
theorem tear_out (p q n : Nat) (rows : List ByteArray) (i : Int) (s : ByteArray) (keep : Int) (w : World) (h : RefAt w p q n rows) (hi : i < 0 ∨ (n : Int) ≤ i) :
    Calls Try.prog 29 #[.pointer (some ⟨p, 0, none⟩), .int .i64 i, .string s, .int .i64 keep] w fun e w' => e = .returned (.int .i64 3) ∧ w = w' := by
  go_enter Try.func29, Try.ntmps29
  go_wp2_with (go_at_call 39; refine (is_no p q n rows i _ h hi).mono ?_; rintro e w' ⟨rfl, rfl⟩)
  go_ret
  exact ⟨rfl, rfl⟩

set_option maxHeartbeats 400000 in
theorem tear_full (p q n : Nat) (rows : List ByteArray) (i : Nat) (s R : ByteArray) (keep : Int) (w : World) (h : RefAt w p q n rows) (hi : i < n) (hc : w.cell? ⟨q, i, none⟩ = some (.string R))
    (hs : s.size ≤ 140737488355328) (hr0 : R.size ≤ 4000) (hr : 4000 < R.size + s.size) :
    Calls Try.prog 29 #[.pointer (some ⟨p, 0, none⟩), .int .i64 i, .string s, .int .i64 keep] w fun e w' => e = .returned (.int .i64 4) ∧ w = w' := by
  have c0 := h.c0
  have hle : 4000 < (R.size : Int) + s.size := by omega
  have hn : (i : Int) < n := by omega
  have h8 := h.n8
  go_enter Try.func29, Try.ntmps29
  go_wp2_with (go_at_call 39; refine (is_yes p q n rows i _ h (by omega) (by omega)).mono ?_; rintro e w' ⟨rfl, rfl⟩)
  go_ret
  exact ⟨rfl, rfl⟩

set_option maxHeartbeats 400000 in
theorem tear_ok (p q n : Nat) (rows : List ByteArray) (i : Nat) (s R : ByteArray) (keep : Int) (w : World) (hA : RefAt w p q n rows) (hi : i < n) (hc : w.cell? ⟨q, i, none⟩ = some (.string R))
    (hr : R.size + s.size ≤ 4000) :
    Calls Try.prog 29 #[.pointer (some ⟨p, 0, none⟩), .int .i64 i, .string s, .int .i64 keep] w fun e w' => e = .returned (.int .i64 0) ∧ Turned p q n (rows.set i (R ++ kept s keep)) w w' := by
  have c0 := hA.c0
  have hle : (R.size : Int) + s.size ≤ 4000 := by omega
  have hn : (i : Int) < n := by omega
  have h8 := hA.n8
  have hf := hA.row.frozen i
  have hk := kept_size s keep
  go_enter Try.func29, Try.ntmps29
  go_wp2_with (go_at_call 39; refine (is_yes p q n rows i _ hA (by omega) (by omega)).mono ?_; rintro e w' ⟨rfl, rfl⟩)
  go_region
  all_goals go_wp2
  all_goals go_ret
  all_goals refine ⟨rfl, Turned.of_set hA i ?_ (by simp; omega)⟩
  all_goals first
    | (have e : keep ≤ 0 := by omega
       rw [kept_neg e]; simp; done)
    | (have e : s.size = 0 := by omega
       have e' : s = ByteArray.empty := ByteArray.size_eq_zero_iff.1 e
       subst e'
       simp [kept]; done)
    | (have e : (s.size : Int) ≤ keep := by omega
       rw [kept_all e]; done)
    | (have e : keep ≤ (s.size : Int) := by omega
       rw [kept_some e]; done)

theorem tear_any (p q n : Nat) (rows : List ByteArray) (i : Int) (s : ByteArray) (keep : Int) (w : World) (h : RefAt w p q n rows) (hs : s.size ≤ 140737488355328) :
    Calls Try.prog 29 #[.pointer (some ⟨p, 0, none⟩), .int .i64 i, .string s, .int .i64 keep] w fun e w' => e = .returned (.int .i64 (tearE n rows i s)) ∧ Turned p q n (tearR n rows i s keep) w w' := by
  cases hi : isSeg n i
  · refine (tear_out p q n rows i s keep w h (isSeg_out hi)).mono ?_
    rintro e w' ⟨rfl, rfl⟩
    exact ⟨by simp [tearE, hi], by simp [tearR, hi]; exact Turned.refl h⟩
  · obtain ⟨k, rfl, h1, hc, hR, hz⟩ := h.at_ hi
    cases hf : fits rows k s
    · have : ¬ ((rowOf rows k).size + s.size ≤ 4000) := by simpa [fits] using hf
      refine (tear_full p q n rows k s _ keep w h h1 hc hs hz (by omega)).mono ?_
      rintro e w' ⟨rfl, rfl⟩
      exact ⟨by simp [tearE, hi, hf], by simp [tearR, hf]; exact Turned.refl h⟩
    · have : ((rowOf rows k).size + s.size ≤ 4000) := by simpa [fits] using hf
      refine (tear_ok p q n rows k s _ keep w h h1 hc this).mono ?_
      rintro e w' ⟨rfl, hd⟩
      exact ⟨by simp [tearE, hi, hf], by simp only [tearR, hi, hf]; exact hd⟩

set_option maxHeartbeats 400000 in
theorem append_any (p q n : Nat) (rows : List ByteArray) (i : Int) (s : ByteArray) (w : World) (h : RefAt w p q n rows) (hs : s.size ≤ 140737488355328) :
    Calls Try.prog 28 #[.pointer (some ⟨p, 0, none⟩), .int .i64 i, .string s] w fun e w' => e = .returned (.int .i64 (tearE n rows i s)) ∧ Turned p q n (tearR n rows i s s.size) w w' := by
  go_enter Try.func28, Try.ntmps28
  go_wp2_with (go_at_call 29; refine (tear_any p q n rows i s s.size _ h hs).mono ?_; rintro e w' ⟨rfl, hd⟩)
  go_ret
  exact ⟨rfl, hd⟩

set_option maxHeartbeats 400000 in
theorem cut_out (p q n : Nat) (rows : List ByteArray) (i m : Int) (w : World) (h : RefAt w p q n rows) (hi : i < 0 ∨ (n : Int) ≤ i) :
    Calls Try.prog 30 #[.pointer (some ⟨p, 0, none⟩), .int .i64 i, .int .i64 m] w fun e w' => e = .returned (.int .i64 3) ∧ w = w' := by
  go_enter Try.func30, Try.ntmps30
  go_wp2_with (go_at_call 39; refine (is_no p q n rows i _ h hi).mono ?_; rintro e w' ⟨rfl, rfl⟩)
  go_ret
  exact ⟨rfl, rfl⟩

set_option maxHeartbeats 400000 in
theorem cut_range (p q n : Nat) (rows : List ByteArray) (i : Nat) (m : Int) (R : ByteArray) (w : World) (h : RefAt w p q n rows) (hi : i < n) (hc : w.cell? ⟨q, i, none⟩ = some (.string R))
    (hz : R.size ≤ 4000) (hm : m < 0 ∨ (R.size : Int) < m) :
    Calls Try.prog 30 #[.pointer (some ⟨p, 0, none⟩), .int .i64 i, .int .i64 m] w fun e w' => e = .returned (.int .i64 3) ∧ w = w' := by
  have c0 := h.c0
  have hn : (i : Int) < n := by omega
  have h8 := h.n8
  by_cases hm0 : m < 0
  all_goals
    try have hm1 : (R.size : Int) < m := by omega
    try have hm2 : decide (m < 0) = false := by simp; omega
    clear hm
    go_enter Try.func30, Try.ntmps30
    go_wp2_with (go_at_call 39; refine (is_yes p q n rows i _ h (by omega) (by omega)).mono ?_; rintro e w' ⟨rfl, rfl⟩)
    all_goals go_ret
    all_goals exact ⟨rfl, rfl⟩

set_option maxHeartbeats 400000 in
theorem cut_ok (p q n : Nat) (rows : List ByteArray) (i m : Nat) (R : ByteArray) (w : World) (h : RefAt w p q n rows) (hi : i < n) (hc : w.cell? ⟨q, i, none⟩ = some (.string R))
    (hz : R.size ≤ 4000) (hm : m ≤ R.size) :
    Calls Try.prog 30 #[.pointer (some ⟨p, 0, none⟩), .int .i64 i, .int .i64 m] w fun e w' => e = .returned (.int .i64 0) ∧ Turned p q n (rows.set i (R.extract 0 m)) w w' := by
  have c0 := h.c0
  have hn : (i : Int) < n := by omega
  have h8 := h.n8
  have hf := h.row.frozen i
  have hm1 : (m : Int) ≤ (R.size : Int) := by omega
  have hm2 : decide ((m : Int) < 0) = false := by simp
  go_enter Try.func30, Try.ntmps30
  go_wp2_with (go_at_call 39; refine (is_yes p q n rows i _ h (by omega) (by omega)).mono ?_; rintro e w' ⟨rfl, rfl⟩)
  all_goals go_region
  all_goals go_wp2
  all_goals go_ret
  all_goals exact ⟨rfl, Turned.of_set h i (by simp) (by simp; omega)⟩

theorem cut_any (p q n : Nat) (rows : List ByteArray) (i m : Int) (w : World) (h : RefAt w p q n rows) :
    Calls Try.prog 30 #[.pointer (some ⟨p, 0, none⟩), .int .i64 i, .int .i64 m] w fun e w' => e = .returned (.int .i64 (cutE n rows i m)) ∧ Turned p q n (cutR n rows i m) w w' := by
  cases hi : isSeg n i
  · refine (cut_out p q n rows i m w h (isSeg_out hi)).mono ?_
    rintro e w' ⟨rfl, rfl⟩
    exact ⟨by simp [cutE, hi], by simp [cutR, hi]; exact Turned.refl h⟩
  · obtain ⟨k, rfl, h1, hc, hR, hz⟩ := h.at_ hi
    cases hf : within rows k m
    · have : ¬ (0 ≤ m ∧ m ≤ (rowOf rows k).size) := by simpa [within] using hf
      refine (cut_range p q n rows k m _ w h h1 hc hz (by omega)).mono ?_
      rintro e w' ⟨rfl, rfl⟩
      exact ⟨by simp [cutE, hf], by simp [cutR, hf]; exact Turned.refl h⟩
    · have : (0 ≤ m ∧ m ≤ (rowOf rows k).size) := by simpa [within] using hf
      obtain ⟨j, rfl⟩ := Int.eq_ofNat_of_zero_le this.1
      refine (cut_ok p q n rows k j _ w h h1 hc hz (by omega)).mono ?_
      rintro e w' ⟨rfl, hd⟩
      exact ⟨by simp [cutE, hi, hf], by simp only [cutR, hi, hf]; exact hd⟩

set_option maxHeartbeats 400000 in
theorem read_any (p q n : Nat) (rows : List ByteArray) (i : Int) (w : World) (h : RefAt w p q n rows) :
    Calls Try.prog 32 #[.pointer (some ⟨p, 0, none⟩), .int .i64 i] w fun e w' => e = .returned (.string (readR n rows i)) ∧ w = w' := by
  have c0 := h.c0
  have h8 := h.n8
  cases hi : isSeg n i
  · have he : readR n rows i = ByteArray.empty := by simp [readR, hi]
    rw [he]
    have ho := isSeg_out hi
    go_enter Try.func32, Try.ntmps32
    go_wp2_with (go_at_call 39; refine (is_no p q n rows i _ h ho).mono ?_; rintro e w' ⟨rfl, rfl⟩)
    go_ret
    exact ⟨rfl, rfl⟩
  · have he : readR n rows i = rowOf rows i := by simp [readR, hi]
    rw [he]
    obtain ⟨k, rfl, h1, hc, hR, hz⟩ := h.at_ hi
    have hn : (k : Int) < n := by omega
    clear hR hi he
    go_enter Try.func32, Try.ntmps32
    go_wp2_with (go_at_call 39; refine (is_yes p q n rows k _ h (by omega) (by omega)).mono ?_; rintro e w' ⟨rfl, rfl⟩)
    go_ret
    exact ⟨rfl, rfl⟩
end Go.Proofs.Ytiemfdglejenpaa.Ref17
