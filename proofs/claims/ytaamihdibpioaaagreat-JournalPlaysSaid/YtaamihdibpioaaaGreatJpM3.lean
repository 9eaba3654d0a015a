/- Contracts of package disk. -/
import Derived.Test.YtaamihdibpioaaaGreatJpM1
import Derived.Test.YtaamihdibpioaaaGreatJpM2
import Derived.Test.YtaamihdibpioaaaGreatProg
import Derived.RegionTactic
import Derived.BigRegion
import Derived.KernelRfl
import Derived.Deep.QuietTactic
import Derived.BigQuiet
import Derived.Laws.BytesArg
set_option maxRecDepth 100000
set_option maxHeartbeats 40000000
namespace Go.Proofs.YtaamihdibpioaaaGreat
open Go.RowKit
def diskCells (n : Int) (rows : List ByteArray) : Array Value := (Value.int .i64 n :: rows.map Value.string).toArray
theorem segment_ok (b : Nat) (n i : Int) (w : World) (hc : w.cell? ⟨b, 0, none⟩ = some (.int .i64 n)) (h0 : 0 <= i) (h1 : i < n) :
  Calls Tryz.prog 45 #[.pointer (some ⟨b, 0,none⟩), .int .i64 i] w fun e w' => e = .returned (.int .i64 0) /\ w = w' := by
 go_enter Tryz.func45,Tryz.ntmps45
 go_wp2
 go_ret
 exact ⟨rfl,rfl⟩
theorem segment_out (b : Nat) (n i : Int) (w : World) (hc : w.cell? ⟨b, 0, none⟩ = some (.int .i64 n)) (h : i < 0 \/ n <= i) :
  Calls Tryz.prog 45 #[.pointer (some ⟨b, 0,none⟩), .int .i64 i] w fun e w' => e = .returned (.int .i64 3) /\ w = w' := by
 rcases h with h | h
 all_goals
  go_enter Tryz.func45,Tryz.ntmps45
  go_wp2
  all_goals (go_ret; exact ⟨rfl,rfl⟩)
theorem segment_nil (i : Int) (w : World) :
  Calls Tryz.prog 45 #[.pointer none, .int .i64 i] w fun e w' => e = .returned (.int .i64 1) /\ w = w' := by
 go_enter Tryz.func45,Tryz.ntmps45
 go_wp2
 go_ret
 exact ⟨rfl,rfl⟩
theorem diskCells_set {n : Int} {rows : List ByteArray} {i : Nat} {r : ByteArray} : (diskCells n rows).setIfInBounds (1 + i) (.string r) = diskCells n (rows.set i r) := by
 simp [diskCells,Nat.add_comm 1 i]
def kept (s : ByteArray) (keep : Int) : ByteArray := s.extract 0 (min keep.toNat s.size)
theorem kept_neg {s : ByteArray} {keep : Int} (h : keep <= 0) : kept s keep = ByteArray.empty := by
 have e : min keep.toNat s.size = 0 := by omega
 simp [kept,e]
theorem kept_all {s : ByteArray} {keep : Int} (h : (s.size : Int) <= keep) : kept s keep = s := by
 have e : min keep.toNat s.size = s.size := by omega
 simp [kept,e]
theorem kept_some {s : ByteArray} {keep : Int} (h : keep <= (s.size : Int)) : kept s keep = s.extract 0 keep.toNat := by
 have e : min keep.toNat s.size = keep.toNat := by omega
 simp [kept,e]
def Disked (b : Nat) (n : Int) (rows : List ByteArray) (w w' : World) : Prop := Only w w' b /\ Blk w' b 92 (diskCells n rows)
theorem Disked.of_set {b : Nat} {n : Int} {rows : List ByteArray} {w : World} (hb : Blk w b 92 (diskCells n rows)) (i : Nat) {r r' : ByteArray} (h : r' = r) :
  Disked b n (rows.set i r) w (w.setCell ⟨b, 1 + i,none⟩ (.string r')).drew := by
 subst h; have := (hb.set_ (1 + i) (.string r')).drew; rw [diskCells_set] at this; exact ⟨((Only.refl w b).set_ (.inl rfl) _).drew,this⟩
theorem tear_ok (b : Nat) (n : Int) (rows : List ByteArray) (i : Nat) (s R : ByteArray) (keep : Int) (w : World) (hb : Blk w b 92 (diskCells n rows))
  (h1 : (i : Int) < n) (h8 : i < 8) (hs : s.size <= 9223372036854775807) (hR : rows[i]? = some R) (hr : R.size + s.size <= 4000) :
  Calls Tryz.prog 27 #[.pointer (some ⟨b, 0, none⟩), .int .i64 i, .string s, .int .i64 keep] w fun e w' => e = .returned (.int .i64 0) /\
   Disked b n (rows.set i (R ++ kept s keep)) w w' := by
 have hc0 : w.cell? ⟨b, 0,none⟩ = some (.int .i64 n) := by rw [hb.cell]; simp [diskCells]
 have hci : w.cell? ⟨b, 1 + i,none⟩ = some (.string R) := by rw [hb.cell]; simp [diskCells,Nat.add_comm 1 i,hR]
 have hfi := hb.frozen (1 + i); have hle : (R.size : Int) + s.size <= 4000 := by omega
 clear hR
 go_enter Tryz.func27,Tryz.ntmps27
 go_wp2_with (go_at_call 45; refine (segment_ok b n i _ (by assumption) (by omega) (by omega)).mono ?_; rintro e w' ⟨rfl,rfl⟩)
 go_region
 all_goals go_wp2
 all_goals go_ret
 ·exact ⟨rfl,Disked.of_set hb i (by rw [kept_neg (by omega)]; simp)⟩
 ·exact ⟨rfl,Disked.of_set hb i (by rw [kept_all (by omega)])⟩
 ·exact ⟨rfl,Disked.of_set hb i (by rw [kept_some (by omega)])⟩
theorem tear_full (b : Nat) (n : Int) (rows : List ByteArray) (i : Nat) (s R : ByteArray) (keep : Int) (w : World) (hb : Blk w b 92 (diskCells n rows))
  (h1 : (i : Int) < n) (h8 : i < 8) (hs : s.size <= 9223372036854775807) (hR : rows[i]? = some R) (hr0 : R.size <= 4000) (hr : 4000 < R.size + s.size) :
  Calls Tryz.prog 27 #[.pointer (some ⟨b, 0,none⟩), .int .i64 i, .string s, .int .i64 keep] w fun e w' => e = .returned (.int .i64 4) /\ w = w' := by
 have hc0 : w.cell? ⟨b, 0,none⟩ = some (.int .i64 n) := by rw [hb.cell]; simp [diskCells]
 have hci : w.cell? ⟨b, 1 + i,none⟩ = some (.string R) := by rw [hb.cell]; simp [diskCells,Nat.add_comm 1 i,hR]
 have hle : 4000 < (R.size : Int) + s.size := by omega
 clear hR
 go_enter Tryz.func27,Tryz.ntmps27
 go_wp2_with (go_at_call 45; refine (segment_ok b n i _ (by assumption) (by omega) (by omega)).mono ?_; rintro e w' ⟨rfl,rfl⟩)
 go_ret
 exact ⟨rfl,rfl⟩
theorem tear_out (b : Nat) (n i : Int) (s : ByteArray) (keep : Int) (w : World) (hc0 : w.cell? ⟨b, 0, none⟩ = some (.int .i64 n)) (h : i < 0 \/ n <= i) :
  Calls Tryz.prog 27 #[.pointer (some ⟨b, 0,none⟩), .int .i64 i, .string s, .int .i64 keep] w fun e w' => e = .returned (.int .i64 3) /\ w = w' := by
 go_enter Tryz.func27,Tryz.ntmps27
 go_wp2_with (go_at_call 45; refine (segment_out b n i _ (by assumption) h).mono ?_; rintro e w' ⟨rfl,rfl⟩)
 go_ret
 exact ⟨rfl,rfl⟩
structure Dk (n : Nat) (rows : List ByteArray) : Prop where
 len : rows.length = 8
 n1 : 1 <= n
 n8 : n <= 8
 sz : ∀ r ∈ rows,r.size <= 4000
def isSeg (n : Nat) (i : Int) : Bool := decide (0 <= i /\ i < n)
def rowOf (rows : List ByteArray) (i : Int) : ByteArray := rows.getD i.toNat ByteArray.empty
def fits (rows : List ByteArray) (i : Int) (s : ByteArray) : Bool := decide ((rowOf rows i).size + s.size <= 4000)
def tearE (n : Nat) (rows : List ByteArray) (i : Int) (s : ByteArray) : Int := bif isSeg n i then (bif fits rows i s then 0 else 4) else 3
def tearR (n : Nat) (rows : List ByteArray) (i : Int) (s : ByteArray) (keep : Int) : List ByteArray :=
 bif isSeg n i && fits rows i s then rows.set i.toNat (rowOf rows i ++ kept s keep) else rows
def within (rows : List ByteArray) (i m : Int) : Bool := decide (0 <= m /\ m <= (rowOf rows i).size)
def cutE (n : Nat) (rows : List ByteArray) (i m : Int) : Int := bif isSeg n i && within rows i m then 0 else 3
def cutR (n : Nat) (rows : List ByteArray) (i m : Int) : List ByteArray :=
 bif isSeg n i && within rows i m then rows.set i.toNat ((rowOf rows i).extract 0 m.toNat) else rows
def readR (n : Nat) (rows : List ByteArray) (i : Int) : ByteArray := bif isSeg n i then rowOf rows i else ByteArray.empty
theorem Dk.at_ {n : Nat} {rows : List ByteArray} (h : Dk n rows) {i : Int} (hi : isSeg n i = true) : ∃ k : Nat, i = (k : Int) /\ k < n /\ k < 8 /\ rows[k]? = some (rowOf rows i) /\ (rowOf rows i).size <= 4000 := by
 have hi' : 0 <= i /\ i < n := by simpa [isSeg] using hi
 obtain ⟨k,rfl⟩ := Int.eq_ofNat_of_zero_le hi'.1; have h8 := h.n8; have hk : k < rows.length := by have := h.len; omega
 refine ⟨k,rfl,by omega,by omega,by simp [rowOf,hk],h.sz _ ?_⟩
 simp [rowOf,hk]
theorem rowOf_size {n : Nat} {rows : List ByteArray} (h : Dk n rows) (i : Int) : (rowOf rows i).size <= 4000 := by
 unfold rowOf
 by_cases hk : i.toNat < rows.length
 ·simp only [List.getD_eq_getElem?_getD,List.getElem?_eq_getElem hk,Option.getD_some]; exact h.sz _ (List.getElem_mem hk)
 ·simp [List.getD_eq_getElem?_getD,List.getElem?_eq_none (Nat.le_of_not_lt hk)]
theorem kept_size (s : ByteArray) (keep : Int) : (kept s keep).size <= s.size := by
 unfold kept; simp; omega
theorem Dk.set_ {n : Nat} {rows : List ByteArray} (h : Dk n rows) (k : Nat) {r : ByteArray} (hr : r.size <= 4000) : Dk n (rows.set k r) :=
 ⟨by simp [h.len],h.n1,h.n8,fun x hx => by rcases List.mem_or_eq_of_mem_set hx with hx | rfl; exact h.sz x hx; exact hr⟩
theorem Dk.tear {n : Nat} {rows : List ByteArray} (h : Dk n rows) (i : Int) (s : ByteArray) (keep : Int) : Dk n (tearR n rows i s keep) := by
 unfold tearR
 cases hc : isSeg n i && fits rows i s
 ·exact h
 ·simp only [Bool.and_eq_true] at hc
  have hf : (rowOf rows i).size + s.size <= 4000 := by simpa [fits] using hc.2
  have := kept_size s keep; exact h.set_ _ (by simp; omega)
theorem Dk.cut {n : Nat} {rows : List ByteArray} (h : Dk n rows) (i m : Int) : Dk n (cutR n rows i m) := by
 unfold cutR
 cases hc : isSeg n i && within rows i m
 ·exact h
 ·have := rowOf_size h i
  exact h.set_ _ (by simp; omega)
theorem Disked.refl {b : Nat} {n : Int} {rows : List ByteArray} {w : World} (hb : Blk w b 92 (diskCells n rows)) : Disked b n rows w w := ⟨Only.refl w b,hb⟩
theorem Dk.cell0 {b : Nat} {n : Int} {rows : List ByteArray} {w : World} (hb : Blk w b 92 (diskCells n rows)) : w.cell? ⟨b, 0,none⟩ = some (.int .i64 n) := by rw [hb.cell]; simp [diskCells]
theorem Dk.celli {b k : Nat} {n : Int} {rows : List ByteArray} {w : World} {R : ByteArray} (hb : Blk w b 92 (diskCells n rows)) (hR : rows[k]? = some R) : w.cell? ⟨b, 1 + k, none⟩ = some (.string R) := by
 rw [hb.cell]; simp [diskCells,Nat.add_comm 1 k,hR]
theorem isSeg_out {n : Nat} {i : Int} (h : isSeg n i = false) : i < 0 \/ (n : Int) <= i := by
 have : ¬ (0 <= i /\ i < (n : Int)) := by simpa [isSeg] using h
 omega
theorem tear_any (b n : Nat) (rows : List ByteArray) (i : Int) (s : ByteArray) (keep : Int) (w : World) (hb : Blk w b 92 (diskCells n rows)) (hD : Dk n rows) (hs : s.size <= 9223372036854775807) :
  Calls Tryz.prog 27 #[.pointer (some ⟨b, 0, none⟩), .int .i64 i, .string s, .int .i64 keep] w fun e w' => e = .returned (.int .i64 (tearE n rows i s)) /\
   Disked b n (tearR n rows i s keep) w w' := by
 cases hi : isSeg n i
 ·refine (tear_out b n i s keep w (Dk.cell0 hb) (isSeg_out hi)).mono ?_
  rintro e w' ⟨rfl,rfl⟩; exact ⟨by simp [tearE,hi],by simp [tearR,hi]; exact Disked.refl hb⟩
 ·obtain ⟨k, rfl, h1, h8, hR, hz⟩ := hD.at_ hi
  cases hf : fits rows k s
  ·have : ¬ ((rowOf rows k).size + s.size <= 4000) := by simpa [fits] using hf
   refine (tear_full b n rows k s _ keep w hb (by omega) h8 hs hR hz (by omega)).mono ?_
   rintro e w' ⟨rfl,rfl⟩; exact ⟨by simp [tearE,hi,hf],by simp [tearR,hf]; exact Disked.refl hb⟩
  ·have : ((rowOf rows k).size + s.size <= 4000) := by simpa [fits] using hf
   refine (tear_ok b n rows k s _ keep w hb (by omega) h8 hs hR this).mono ?_
   rintro e w' ⟨rfl,hd⟩; exact ⟨by simp [tearE,hi,hf],by simp only [tearR,hi,hf]; exact hd⟩
theorem append_any (b n : Nat) (rows : List ByteArray) (i : Int) (s : ByteArray) (w : World) (hb : Blk w b 92 (diskCells n rows)) (hD : Dk n rows) (hs : s.size <= 9223372036854775807) :
  Calls Tryz.prog 26 #[.pointer (some ⟨b, 0, none⟩), .int .i64 i, .string s] w fun e w' => e = .returned (.int .i64 (tearE n rows i s)) /\
   Disked b n (tearR n rows i s s.size) w w' := by
 go_enter Tryz.func26,Tryz.ntmps26
 go_wp2_with (go_at_call 27; refine (tear_any b n rows i s s.size _ hb hD hs).mono ?_; rintro e w' ⟨rfl,hd⟩)
 go_ret
 exact ⟨rfl,hd⟩
theorem cut_out (b : Nat) (n i m : Int) (w : World) (hc0 : w.cell? ⟨b, 0, none⟩ = some (.int .i64 n)) (h : i < 0 \/ n <= i) :
  Calls Tryz.prog 29 #[.pointer (some ⟨b, 0,none⟩), .int .i64 i, .int .i64 m] w fun e w' => e = .returned (.int .i64 3) /\ w = w' := by
 go_enter Tryz.func29,Tryz.ntmps29
 go_wp2_with (go_at_call 45; refine (segment_out b n i _ (by assumption) h).mono ?_; rintro e w' ⟨rfl,rfl⟩)
 go_ret
 exact ⟨rfl,rfl⟩
theorem cut_range (b : Nat) (n : Int) (rows : List ByteArray) (i : Nat) (m : Int) (R : ByteArray) (w : World) (hb : Blk w b 92 (diskCells n rows))
  (h1 : (i : Int) < n) (h8 : i < 8) (hR : rows[i]? = some R) (hz : R.size <= 4000) (hm : m < 0 \/ (R.size : Int) < m) :
  Calls Tryz.prog 29 #[.pointer (some ⟨b, 0,none⟩), .int .i64 i, .int .i64 m] w fun e w' => e = .returned (.int .i64 3) /\ w = w' := by
 have hc0 := Dk.cell0 hb; have hci := Dk.celli hb hR; clear hR
 by_cases hm0 : m < 0
 all_goals
  try have hm1 : (R.size : Int) < m := by omega
  try have hm2 : decide (m < 0) = false := by simp; omega
  clear hm
  go_enter Tryz.func29,Tryz.ntmps29
  go_wp2_with (go_at_call 45; refine (segment_ok b n i _ (by assumption) (by omega) (by omega)).mono ?_; rintro e w' ⟨rfl,rfl⟩)
  all_goals go_ret
  all_goals exact ⟨rfl,rfl⟩
theorem cut_ok (b : Nat) (n : Int) (rows : List ByteArray) (i : Nat) (m : Nat) (R : ByteArray) (w : World) (hb : Blk w b 92 (diskCells n rows))
  (h1 : (i : Int) < n) (h8 : i < 8) (hR : rows[i]? = some R) (hz : R.size <= 4000) (hm : m <= R.size) :
  Calls Tryz.prog 29 #[.pointer (some ⟨b, 0, none⟩), .int .i64 i, .int .i64 m] w fun e w' => e = .returned (.int .i64 0) /\
   Disked b n (rows.set i (R.extract 0 m)) w w' := by
 have hc0 := Dk.cell0 hb; have hci := Dk.celli hb hR; have hfi := hb.frozen (1 + i); clear hR; have hm1 : (m : Int) <= (R.size : Int) := by omega
 have hm2 : decide ((m : Int) < 0) = false := by simp
 go_enter Tryz.func29,Tryz.ntmps29
 go_wp2_with (go_at_call 45; refine (segment_ok b n i _ (by assumption) (by omega) (by omega)).mono ?_; rintro e w' ⟨rfl,rfl⟩)
 all_goals go_region
 all_goals go_wp2
 all_goals go_ret
 all_goals exact ⟨rfl,Disked.of_set hb i (by simp)⟩
theorem cut_any (b n : Nat) (rows : List ByteArray) (i m : Int) (w : World) (hb : Blk w b 92 (diskCells n rows)) (hD : Dk n rows) :
  Calls Tryz.prog 29 #[.pointer (some ⟨b, 0, none⟩), .int .i64 i, .int .i64 m] w fun e w' => e = .returned (.int .i64 (cutE n rows i m)) /\
   Disked b n (cutR n rows i m) w w' := by
 cases hi : isSeg n i
 ·refine (cut_out b n i m w (Dk.cell0 hb) (isSeg_out hi)).mono ?_
  rintro e w' ⟨rfl,rfl⟩; exact ⟨by simp [cutE,hi],by simp [cutR,hi]; exact Disked.refl hb⟩
 ·obtain ⟨k, rfl, h1, h8, hR, hz⟩ := hD.at_ hi
  cases hf : within rows k m
  ·have : ¬ (0 <= m /\ m <= (rowOf rows k).size) := by simpa [within] using hf
   refine (cut_range b n rows k m _ w hb (by omega) h8 hR hz (by omega)).mono ?_
   rintro e w' ⟨rfl,rfl⟩; exact ⟨by simp [cutE,hf],by simp [cutR,hf]; exact Disked.refl hb⟩
  ·have : (0 <= m /\ m <= (rowOf rows k).size) := by simpa [within] using hf
   obtain ⟨j,rfl⟩ := Int.eq_ofNat_of_zero_le this.1; refine (cut_ok b n rows k j _ w hb (by omega) h8 hR hz (by omega)).mono ?_
   rintro e w' ⟨rfl,hd⟩; exact ⟨by simp [cutE,hi,hf],by simp only [cutR,hi,hf]; exact hd⟩
theorem read_any (b n : Nat) (rows : List ByteArray) (i : Int) (w : World) (hb : Blk w b 92 (diskCells n rows)) (hD : Dk n rows) :
  Calls Tryz.prog 34 #[.pointer (some ⟨b, 0,none⟩), .int .i64 i] w fun e w' => e = .returned (.string (readR n rows i)) /\ w = w' := by
 have hc0 := Dk.cell0 hb
 cases hi : isSeg n i
 ·have he : readR n rows i = ByteArray.empty := by simp [readR, hi]
  rw [he]; have ho := isSeg_out hi
  go_enter Tryz.func34,Tryz.ntmps34
  go_wp2_with (go_at_call 45; refine (segment_out b n i _ (by assumption) ho).mono ?_; rintro e w' ⟨rfl,rfl⟩)
  go_ret
  exact ⟨rfl,rfl⟩
 ·have he : readR n rows i = rowOf rows i := by simp [readR, hi]
  rw [he]; obtain ⟨k,rfl,h1,h8,hR,hz⟩ := hD.at_ hi; have hci := Dk.celli hb hR; clear hR hi he
  go_enter Tryz.func34,Tryz.ntmps34
  go_wp2_with (go_at_call 45; refine (segment_ok b n k _ (by assumption) (by omega) (by omega)).mono ?_; rintro e w' ⟨rfl,rfl⟩)
  go_ret
  exact ⟨rfl,rfl⟩
theorem new_bad (n : Int) (w : World) (h : n < 1 \/ 8 < n) :
  Calls Tryz.prog 23 #[.int .i64 n] w fun e w' => e = .returned (.tuple #[.pointer none, .int .i64 2]) /\ w = w' := by
 by_cases h0 : n < 1
 all_goals
  try have h1 : 8 < n := by omega
  try have h2 : decide (n < 1) = false := by simp; omega
  clear h
  go_enter Tryz.func23,Tryz.ntmps23
  go_wp2
  all_goals go_ret2
  all_goals exact ⟨rfl,rfl⟩
def noRows : List ByteArray := List.replicate 8 ByteArray.empty
def Newed (n : Nat) (w : World) (e : Ending) (w' : World) : Prop :=
 e = .returned (.tuple #[.pointer (some ⟨w.heap.size, 0,none⟩), .int .i64 0]) /\ Below w.heap.size w w' /\ Blk w' w.heap.size 92 (diskCells n noRows)
theorem new_ok (n : Nat) (w : World) (h1 : 1 <= n) (h8 : n <= 8) :
  Calls Tryz.prog 23 #[.int .i64 n] w fun e w' => Newed n w e w' := by
 have h2 : decide ((n : Int) < 1) = false := by simp; omega
 have h3 : decide (8 < (n : Int)) = false := by simp; omega
 go_enter Tryz.func23,Tryz.ntmps23
 go_wp2
 go_ret2
 exact ⟨rfl, (Below.refl _ _).alloc (Nat.le_refl _) _,Blk.new _ _ _⟩
theorem eight {α : Type} {l : List α} (h : l.length = 8) : ∃ a b c d e f g i, l = [a, b, c, d, e, f, g, i] := by
 match l,h with
 | [a,b,c,d,e,f,g,i],_ => exact ⟨a,b,c,d,e,f,g,i,rfl⟩
def Copied (n : Nat) (rows : List ByteArray) (w : World) (e : Ending) (w' : World) : Prop :=
 e = .returned (.pointer (some ⟨w.heap.size, 0,none⟩)) /\ Below w.heap.size w w' /\ Blk w' w.heap.size 92 (diskCells n rows)
theorem copy_any (b n : Nat) (rows : List ByteArray) (w : World) (hb : Blk w b 92 (diskCells n rows)) (hD : Dk n rows) :
  Calls Tryz.prog 39 #[.pointer (some ⟨b, 0,none⟩)] w fun e w' => Copied n rows w e w' := by
 obtain ⟨r0,r1,r2,r3,r4,r5,r6,r7,rfl⟩ := eight hD.len; have c0 := hb.cell 0; have c1 := hb.cell 1; have c2 := hb.cell 2; have c3 := hb.cell 3; have c4 := hb.cell 4; have c5 := hb.cell 5; have c6 := hb.cell 6; have c7 := hb.cell 7; have c8 := hb.cell 8
 simp [diskCells] at c0 c1 c2 c3 c4 c5 c6 c7 c8
 go_enter Tryz.func39,Tryz.ntmps39
 go_wp2
 go_ret
 exact ⟨rfl, (Below.refl _ _).alloc (Nat.le_refl _) _,Blk.new _ _ _⟩
theorem tear_nil (i : Int) (s : ByteArray) (keep : Int) (w : World) :
  Calls Tryz.prog 27 #[.pointer none, .int .i64 i, .string s, .int .i64 keep] w fun e w' => e = .returned (.int .i64 1) /\ w = w' := by
 go_enter Tryz.func27,Tryz.ntmps27
 go_wp2_with (go_at_call 45; refine (segment_nil i _).mono ?_; rintro e w' ⟨rfl,rfl⟩)
 go_ret
 exact ⟨rfl,rfl⟩
theorem append_nil (i : Int) (s : ByteArray) (w : World) (hs : s.size <= 9223372036854775807) :
  Calls Tryz.prog 26 #[.pointer none, .int .i64 i, .string s] w fun e w' => e = .returned (.int .i64 1) /\ w = w' := by
 go_enter Tryz.func26,Tryz.ntmps26
 go_wp2_with (go_at_call 27; refine (tear_nil i s _ _).mono ?_; rintro e w' ⟨rfl,rfl⟩)
 go_ret
 exact ⟨rfl,rfl⟩
end Go.Proofs.YtaamihdibpioaaaGreat
namespace Go.Proofs.YtaamihdibpioaaaGreat
open Go.RowKit
namespace Crc
def it : Nat -> Nat -> Nat
 | 0,i => i
 | k + 1,i => st (it k i)
theorem it4 (i : Nat) : it 4 i = st4 i := rfl
theorem it_lt {i : Nat} (h : i < 4294967296) : ∀ k, it k i < 4294967296
 | 0 => h
 | k + 1 => st_lt (it_lt h k)
end Crc
open Crc
theorem st_go {x : Nat} (h : x < 4294967296) : bits .xor .u32 ((x : Int) / 2) (bits .and .u32 3988292384 (-bits .and .u32 (x : Int) 1 % 4294967296)) = (st x : Nat) := by
 have e1 : bits .and .u32 (x : Int) 1 = ((x % 2 : Nat) : Int) := by
  have := u32_and_nat x 1 h (by omega)
  rw [nat_mask1] at this; exact this
 rw [e1]; have h2 : x % 2 = 0 \/ x % 2 = 1 := by omega
 have hd : ((x : Int) / 2) = ((x / 2 : Nat) : Int) := by omega
 rcases h2 with h2 | h2
 ·rw [h2, hd]
  rw [show (-((0 : Nat) : Int) % 4294967296) = ((0 : Nat) : Int) by decide,show (3988292384 : Int) = ((3988292384 : Nat) : Int) from rfl,u32_and_nat _ _ (by omega) (by omega),u32_xor_nat _ _ (by omega) (by simp)]
  simp [st,h2]
 ·rw [h2, hd]
  rw [show (-((1 : Nat) : Int) % 4294967296) = ((4294967295 : Nat) : Int) by decide,show (3988292384 : Int) = ((3988292384 : Nat) : Int) from rfl,u32_and_nat _ _ (by omega) (by omega),show 3988292384 &&& 4294967295 = P from by decide,u32_xor_nat _ _ (by omega) (by decide)]
  simp [st,h2]
theorem byte_go {r b : Nat} (hr : r < 4294967296) (hb : b < 256) : ∃ y1 m1 y2 m2 y3 : Nat, bits .xor .u32 (r : Int) (b : Int) = (y1 : Int) /\ bits .and .u32 (y1 : Int) 15 = (m1 : Int) /\
  bits .xor .u32 ((y1 : Int) / 16) ((st4 m1 : Nat) : Int) = (y2 : Int) /\ bits .and .u32 (y2 : Int) 15 = (m2 : Int) /\ bits .xor .u32 ((y2 : Int) / 16) ((st4 m2 : Nat) : Int) = (y3 : Int) /\
  m1 < 16 /\ m2 < 16 /\ st4 m1 = st4 m1 /\ st4 m2 = st4 m2 /\ byte r b = y3 := by
 have h1 : r ^^^ b < 4294967296 := Nat.xor_lt_two_pow (n := 32) (by omega) (by omega)
 have key : ∀ y : Nat, y < 4294967296 -> bits .and .u32 (y : Int) 15 = ((y % 16 : Nat) : Int) /\ bits .xor .u32 ((y : Int) / 16) ((st4 (y % 16) : Nat) : Int) = ((st4 y : Nat) : Int) := by
  intro y hy; refine ⟨?_,?_⟩
  ·have := u32_and_nat y 15 hy (by omega)
   rw [nat_mask4] at this; exact this
  ·rw [show ((y : Int) / 16) = ((y / 16 : Nat) : Int) by omega,u32_xor_nat _ _ (by omega) (st4_lt (by omega)),st4_half]
 obtain ⟨a1,x1⟩ := key _ h1; obtain ⟨a2,x2⟩ := key _ (st4_lt h1); exact ⟨r ^^^ b, (r ^^^ b) % 16,st4 (r ^^^ b),st4 (r ^^^ b) % 16,st4 (st4 (r ^^^ b)),u32_xor_nat _ _ hr (by omega),a1,x1,a2,x2,by omega,by omega,rfl,rfl,rfl⟩
def tabC (i : Nat) : Array Value := ((List.range 16).map fun j => Value.int .u32 (if j < i then (st4 j : Int) else 0)).toArray
theorem tabC_at {i j : Nat} (h : j < 16) : (tabC i)[j]? = some (.int .u32 (if j < i then (st4 j : Int) else 0)) := by simp [tabC,h]
theorem tabC_set {i : Nat} (h : i < 16) : (tabC i).setIfInBounds i (.int .u32 (st4 i)) = tabC (i + 1) := by
 apply Array.ext
 ·simp [tabC]
 ·intro j h1 h2
  by_cases e : i = j
  ·subst e; simp [tabC]
  ·have : (j < i) ↔ (j < i + 1) := by omega
   rw [Array.getElem_setIfInBounds_ne (by simpa using h1) e]
   simp [tabC,this]
def tabV : Array Value := tabC 16
theorem Blk.same {w : World} {g i : Nat} {t : TypeId} {cs : Array Value} {u : Value} (h : Blk w g t cs) (hi : cs[i]? = some u) : Blk (w.setCell ⟨g, i, none⟩ u) g t cs := by
 have h1 := h.set_ i u
 have e : cs.setIfInBounds i u = cs := by
  apply Array.ext
  ·simp
  ·intro j h1 h2
   by_cases e : i = j
   ·subst e
    have := (Array.getElem?_eq_some_iff.1 hi).2
    simp [this]
   ·rw [Array.getElem_setIfInBounds_ne (by simpa using h1) e]
 rw [e] at h1; exact h1
theorem below_set0 {g o : Nat} {a w : World} {u : Value} (h : Below g a w) : Below g a (w.setCell ⟨g,o,none⟩ u) := h.setCell (p := ⟨g,o,none⟩) (Nat.le_refl _) u
def Tabled (w : World) (e : Ending) (w' : World) : Prop := e = .returned (.agg tabV) /\ Below w.heap.size w w'
theorem table_any (w : World) : Calls Tryz.prog 103 #[] w fun e w' => Tabled w e w' := by
 go_enter Tryz.func103,Tryz.ntmps103
 go_wp2
 go_loopw [3] (fun v wr => ∃ i : Nat,i <= 16 /\ v = .int .i64 i /\ Blk wr w.heap.size 173 (tabC i) /\ Below w.heap.size w wr) (fun v _ => 16 - (intOf v).toNat)
 case atStart => exact ⟨0,by omega,rfl,by rw [show tabC 0 = #[Value.int .u32 0, .int .u32 0, .int .u32 0, .int .u32 0, .int .u32 0, .int .u32 0, .int .u32 0, .int .u32 0, .int .u32 0, .int .u32 0, .int .u32 0, .int .u32 0, .int .u32 0, .int .u32 0, .int .u32 0, .int .u32 0] from rfl]; exact Blk.new _ _ _, (Below.refl _ _).alloc (Nat.le_refl _) _⟩
 case round =>
  obtain ⟨i,hi,rfl,hb,hl⟩ := hrel; have hlt0 := hb.lt
  by_cases hlt : i < 16
  ·have h32 : i < 4294967296 := by omega
   have hc := hb.cell i; rw [tabC_at hlt] at hc; have hf := hb.frozen i
   go_wp2
   go_loop [2, 8] (fun c v => ∃ k : Nat,k <= 4 /\ v = .int .i64 k /\ c = .int .u32 (it k i : Nat)) (fun _ v => 4 - (intOf v).toNat)
   case atStart => exact ⟨0,by omega,rfl,rfl⟩
   case round =>
    obtain ⟨k,hk,rfl,rfl⟩ := hrel; have hx := it_lt h32 k
    by_cases hk4 : k < 4
    ·obtain ⟨x, hxx⟩ := gXe (it k i)
     have HX := gh hxx; rw [<- hxx] at hx ⊢; clear hxx; have hst := st_go hx
     go_wp2
     go_round
     case rel => exact ⟨k + 1,by omega,by go_num,by rw [HX.o]; rfl⟩
     case measure => simp [intOf]; omega
    ·obtain rfl : k = 4 := by omega
     go_wp2
     go_roundw
     case rel => exact ⟨i + 1,by omega,by go_num,by rw [it4, <- tabC_set hlt]; exact hb.set_ i _,hl.setCell (Nat.le_refl _) _⟩
     case measure => simp [intOf]; omega
  ·obtain rfl : i = 16 := by omega
   have c0 : wr.cell? ⟨w.heap.size, 0,none⟩ = some (.int .u32 (st4 0 : Nat)) := by rw [hb.cell,tabC_at (by omega)]; rfl
   have f0 := hb.frozen 0; have c1 : wr.cell? ⟨w.heap.size, 1,none⟩ = some (.int .u32 (st4 1 : Nat)) := by rw [hb.cell,tabC_at (by omega)]; rfl
   have f1 := hb.frozen 1; have c2 : wr.cell? ⟨w.heap.size, 2,none⟩ = some (.int .u32 (st4 2 : Nat)) := by rw [hb.cell,tabC_at (by omega)]; rfl
   have f2 := hb.frozen 2; have c3 : wr.cell? ⟨w.heap.size, 3,none⟩ = some (.int .u32 (st4 3 : Nat)) := by rw [hb.cell,tabC_at (by omega)]; rfl
   have f3 := hb.frozen 3; have c4 : wr.cell? ⟨w.heap.size, 4,none⟩ = some (.int .u32 (st4 4 : Nat)) := by rw [hb.cell,tabC_at (by omega)]; rfl
   have f4 := hb.frozen 4; have c5 : wr.cell? ⟨w.heap.size, 5,none⟩ = some (.int .u32 (st4 5 : Nat)) := by rw [hb.cell,tabC_at (by omega)]; rfl
   have f5 := hb.frozen 5; have c6 : wr.cell? ⟨w.heap.size, 6,none⟩ = some (.int .u32 (st4 6 : Nat)) := by rw [hb.cell,tabC_at (by omega)]; rfl
   have f6 := hb.frozen 6; have c7 : wr.cell? ⟨w.heap.size, 7,none⟩ = some (.int .u32 (st4 7 : Nat)) := by rw [hb.cell,tabC_at (by omega)]; rfl
   have f7 := hb.frozen 7; have c8 : wr.cell? ⟨w.heap.size, 8,none⟩ = some (.int .u32 (st4 8 : Nat)) := by rw [hb.cell,tabC_at (by omega)]; rfl
   have f8 := hb.frozen 8; have c9 : wr.cell? ⟨w.heap.size, 9,none⟩ = some (.int .u32 (st4 9 : Nat)) := by rw [hb.cell,tabC_at (by omega)]; rfl
   have f9 := hb.frozen 9; have c10 : wr.cell? ⟨w.heap.size, 10,none⟩ = some (.int .u32 (st4 10 : Nat)) := by rw [hb.cell,tabC_at (by omega)]; rfl
   have f10 := hb.frozen 10; have c11 : wr.cell? ⟨w.heap.size, 11,none⟩ = some (.int .u32 (st4 11 : Nat)) := by rw [hb.cell,tabC_at (by omega)]; rfl
   have f11 := hb.frozen 11; have c12 : wr.cell? ⟨w.heap.size, 12,none⟩ = some (.int .u32 (st4 12 : Nat)) := by rw [hb.cell,tabC_at (by omega)]; rfl
   have f12 := hb.frozen 12; have c13 : wr.cell? ⟨w.heap.size, 13,none⟩ = some (.int .u32 (st4 13 : Nat)) := by rw [hb.cell,tabC_at (by omega)]; rfl
   have f13 := hb.frozen 13; have c14 : wr.cell? ⟨w.heap.size, 14,none⟩ = some (.int .u32 (st4 14 : Nat)) := by rw [hb.cell,tabC_at (by omega)]; rfl
   have f14 := hb.frozen 14; have c15 : wr.cell? ⟨w.heap.size, 15,none⟩ = some (.int .u32 (st4 15 : Nat)) := by rw [hb.cell,tabC_at (by omega)]; rfl
   have f15 := hb.frozen 15
   go_wp2
   refine bodyPost_ret (results_cell_row rfl _ _ w.heap.size 173 (tabC 16) (0, 0) _ rfl ?_ Tryz.underlying173 rfl (by kernel_rfl)) rfl ⟨rfl,?_⟩
   ·refine Blk.same (i := 15) ?_ (by rw [tabC_at (by omega)]; rfl)
    refine Blk.same (i := 14) ?_ (by rw [tabC_at (by omega)]; rfl)
    refine Blk.same (i := 13) ?_ (by rw [tabC_at (by omega)]; rfl)
    refine Blk.same (i := 12) ?_ (by rw [tabC_at (by omega)]; rfl)
    refine Blk.same (i := 11) ?_ (by rw [tabC_at (by omega)]; rfl)
    refine Blk.same (i := 10) ?_ (by rw [tabC_at (by omega)]; rfl)
    refine Blk.same (i := 9) ?_ (by rw [tabC_at (by omega)]; rfl)
    refine Blk.same (i := 8) ?_ (by rw [tabC_at (by omega)]; rfl)
    refine Blk.same (i := 7) ?_ (by rw [tabC_at (by omega)]; rfl)
    refine Blk.same (i := 6) ?_ (by rw [tabC_at (by omega)]; rfl)
    refine Blk.same (i := 5) ?_ (by rw [tabC_at (by omega)]; rfl)
    refine Blk.same (i := 4) ?_ (by rw [tabC_at (by omega)]; rfl)
    refine Blk.same (i := 3) ?_ (by rw [tabC_at (by omega)]; rfl)
    refine Blk.same (i := 2) ?_ (by rw [tabC_at (by omega)]; rfl)
    refine Blk.same (i := 1) ?_ (by rw [tabC_at (by omega)]; rfl)
    refine Blk.same (i := 0) ?_ (by rw [tabC_at (by omega)]; rfl)
    exact hb
   ·iterate 16 (refine below_set0 ?_)
    exact hl
theorem tabV_lit : tabV = #[.int .u32 (st4 0 : Nat), .int .u32 (st4 1 : Nat), .int .u32 (st4 2 : Nat), .int .u32 (st4 3 : Nat), .int .u32 (st4 4 : Nat), .int .u32 (st4 5 : Nat), .int .u32 (st4 6 : Nat), .int .u32 (st4 7 : Nat), .int .u32 (st4 8 : Nat), .int .u32 (st4 9 : Nat), .int .u32 (st4 10 : Nat), .int .u32 (st4 11 : Nat), .int .u32 (st4 12 : Nat), .int .u32 (st4 13 : Nat), .int .u32 (st4 14 : Nat), .int .u32 (st4 15 : Nat)] := rfl
theorem tabV_at {j : Nat} (h : j < 16) : tabV[j]? = some (.int .u32 (st4 j : Nat)) := by
 have := tabC_at (i := 16) h; rw [if_pos h] at this; exact this
def Summed (s : ByteArray) (w : World) (e : Ending) (w' : World) : Prop := e = .returned (.int .u32 (sum s.data.toList : Nat)) /\ Below w.heap.size w w'
theorem take_snoc (s : ByteArray) (k : Nat) (h : k < s.size) : s.data.toList.take (k + 1) = s.data.toList.take k ++ [s[k]] := by
 rw [List.take_succ_eq_append_getElem (by simpa using h)]; rfl
theorem ones_xor {x : Nat} (h : x < 4294967296) : 4294967295 ^^^ x = 4294967295 - x := by
 have e : (BitVec.allOnes 32 ^^^ BitVec.ofNat 32 x) = ~~~(BitVec.ofNat 32 x) := BitVec.allOnes_xor; have e2 := congrArg BitVec.toNat e; rw [BitVec.toNat_xor,BitVec.toNat_not,BitVec.toNat_ofNat,Nat.mod_eq_of_lt h] at e2; exact e2
theorem sum_end (s : ByteArray) : Value.int .u32 (bits .xor .u32 IntKind.u32.max (run (s.data.toList.take s.size) : Nat)) = .int .u32 (sum s.data.toList : Nat) := by
 have h := run_lt s.data.toList; rw [List.take_of_length_le (by simp),show IntKind.u32.max = ((4294967295 : Nat) : Int) from by decide,u32_xor_nat _ _ (by omega) h,ones_xor h]
 rfl
theorem sum_any (s : ByteArray) (w : World) (hs : s.size <= 9223372036854775807) : Calls Tryz.prog 67 #[.string s] w fun e w' => Summed s w e w' := by
 go_enter Tryz.func67,Tryz.ntmps67
 go_wp2_with fail
 refine (table_any _).mono ?_; rintro e w1 ⟨rfl,hl1⟩; have hB := Blk.new w1 173 tabV; have hl2 := hl1.alloc hl1.size (.cells tabV 173); have HT := gh tabV_lit; rw [tabV_lit]
 go_wp2_with fail
 rw [<- HT.o]
 generalize w1.alloc (.cells tabV 173) = w2 at hB hl2
 generalize w1.heap.size = g at hB
 clear hl1
 go_loop [4, 9] (fun c v => ∃ k : Nat,k <= s.size /\ v = .int .i64 k /\ c = .int .u32 (run (s.data.toList.take k) : Nat)) (fun _ v => s.size - (intOf v).toNat)
 case atStart => exact ⟨0,Nat.zero_le _,rfl,rfl⟩
 case round =>
  obtain ⟨k,hk,rfl,rfl⟩ := hrel
  by_cases hlt : k < s.size
  ·have hr := run_lt (s.data.toList.take k)
   obtain ⟨r,hrr⟩ := gXe (run (s.data.toList.take k)); rw [<- hrr] at hr ⊢; have hsn := run_snoc (s.data.toList.take k) s[k]; rw [<- take_snoc s k hlt, <- hrr] at hsn; have HS := gh hsn; clear hsn hrr; have hb8 := s[k].toNat_lt; obtain ⟨y1,m1,y2,m2,y3,e1,e2,e3,e4,e5,l1,l2,t1,t2,e6⟩ := byte_go hr (b := s[k].toNat) (by omega)
   have c1 := hB.cell m1; rw [tabV_at l1,t1] at c1; have c2 := hB.cell m2; rw [tabV_at l2,t2] at c2; have E6 := gh e6; clear e6 t1 t2
   go_wp2
   go_round
   case rel => exact ⟨k + 1,by omega,by go_num,by rw [HS.o,E6.o]⟩
   case measure => simp [intOf]; omega
  ·obtain rfl : k = s.size := by omega
   go_wp2
   go_ret
   exact ⟨congrArg Ending.returned (sum_end s),hl2⟩
end Go.Proofs.YtaamihdibpioaaaGreat
namespace Go.Proofs.YtaamihdibpioaaaGreat
open Go.RowKit Go.Proofs.YtaamihdibpioaaaGreat.Crc
def headOf (s : ByteArray) : ByteArray := strOfNums [(s.size : Int) / 256, (s.size : Int) % 256]
def tailOf (c : Nat) : ByteArray := strOfNums [(c : Int) % 256, (c : Int) / 256 % 256, (c : Int) / 65536 % 256, (c : Int) / 16777216]
def frameOf (s : ByteArray) : ByteArray := headOf s ++ s ++ tailOf (sum (headOf s ++ s).data.toList)
def Framed (s : ByteArray) (w : World) (e : Ending) (w' : World) : Prop := e = .returned (.string (frameOf s)) /\ Below w.heap.size w w'
theorem framed_eq {s : ByteArray} {c : Nat} (h : c = sum (strOfNums [(s.size : Int) / 256, (s.size : Int) % 256] ++ s).data.toList) : frameOf s = headOf s ++ s ++ tailOf c := by
 subst h; rfl
end Go.Proofs.YtaamihdibpioaaaGreat
namespace Go.Proofs.YtaamihdibpioaaaGreat.Ref06
open Go.RowKit Go.Proofs.YtaamihdibpioaaaGreat Go.Proofs.YtaamihdibpioaaaGreat.Crc
theorem st_odd {x : Nat} (h : x < 4294967296) (h1 : x % 2 = 1) : bits .xor .u32 ((x : Int) / 2) 3988292384 = ((st x : Nat) : Int) := by
 rw [show ((x : Int) / 2) = ((x / 2 : Nat) : Int) by omega,show (3988292384 : Int) = ((3988292384 : Nat) : Int) from rfl,u32_xor_nat _ _ (by omega) (by omega)]
 simp [st,h1,P]
theorem st_ev {x : Nat} (h1 : x % 2 = 0) : ((x : Int) / 2) = ((st x : Nat) : Int) := by
 simp [st,h1]
theorem sum_any (s : ByteArray) (w : World) (hs : s.size <= 9223372036854775806) : Calls Tryz.prog 88 #[.string s] w fun e w' => e = .returned (.int .u32 (sum s.data.toList : Nat)) /\ w = w' := by
 go_enter Tryz.func88,Tryz.ntmps88
 go_wp2
 go_loop [3, 4] (fun c v => ∃ k : Nat,k <= s.size /\ v = .int .i64 k /\ c = .int .u32 (run (s.data.toList.take k) : Nat)) (fun _ v => s.size - (intOf v).toNat)
 case atStart => exact ⟨0,Nat.zero_le _,rfl,rfl⟩
 case round =>
  obtain ⟨k,hk,rfl,rfl⟩ := hrel
  by_cases hlt : k < s.size
  ·have hr := run_lt (s.data.toList.take k)
   obtain ⟨r,hrr⟩ := gXe (run (s.data.toList.take k)); rw [<- hrr] at hr ⊢; have hsn := run_snoc (s.data.toList.take k) s[k]; rw [<- take_snoc s k hlt, <- hrr] at hsn; have HS := gh hsn; clear hsn hrr; have hb8 := s[k].toNat_lt; have hx := u32_xor_nat r s[k].toNat hr (by omega)
   have hy : r ^^^ s[k].toNat < 4294967296 := Nat.xor_lt_two_pow (n := 32) (by omega) (by omega)
   go_wp2
   go_loop [3, 5] (fun c v => ∃ j : Nat,j <= 8 /\ v = .int .i64 j /\ c = .int .u32 (it j (r ^^^ s[k].toNat) : Nat)) (fun _ v => 8 - (intOf v).toNat)
   case atStart => exact ⟨0,by omega,rfl,rfl⟩
   case round =>
    obtain ⟨j,hj,rfl,rfl⟩ := hrel
    by_cases hj8 : j < 8
    ·have hlt' := it_lt hy j
     obtain ⟨x,hxx⟩ := gXe (it j (r ^^^ s[k].toNat)); have HX := gh hxx; rw [<- hxx] at hlt' ⊢; clear hxx hx hy
     by_cases hp : x % 2 = 1
     ·have hb : (((x : Int) % 2) == 1) = true := by simp; omega
      have hst := st_odd hlt' hp; clear hp
      go_wp2
      go_round
      case rel => exact ⟨j + 1,by omega,by go_num,by rw [HX.o]; rfl⟩
      case measure => simp [intOf]; omega
     ·have hb : (((x : Int) % 2) == 1) = false := by simp; omega
      have hst := st_ev (x := x) (by omega)
      clear hp
      go_wp2
      go_round
      case rel => exact ⟨j + 1,by omega,by go_num,by rw [HX.o]; rfl⟩
      case measure => simp [intOf]; omega
    ·obtain rfl : j = 8 := by omega
     go_wp2
     go_round
     case rel => exact ⟨k + 1,by omega,by go_num,by rw [HS.o]; rfl⟩
     case measure => simp [intOf]; omega
  ·obtain rfl : k = s.size := by omega
   go_wp2
   go_ret
   exact ⟨congrArg Ending.returned (sum_end s),rfl⟩
theorem conv2 (W : World) (a b : Int) (c : Nat) : (convert 105 9 (.slice (some ⟨W.heap.size, 0, none⟩) 2 c)).run Tryz.prog (W.alloc (.cells #[.int .u8 a, .int .u8 b] 5)) = .ok (.string (strOfNums [a, b])) (W.alloc (.cells #[.int .u8 a, .int .u8 b] 5)) :=
 run_convert_bytes_arg (P := Tryz.prog) _ 105 5 Tryz.underlying105 Tryz.underlying5 W.heap.size 0 2 c [a, b] rfl (fun i hi => by
  have hb := Blk.new W 5 #[.int .u8 a, .int .u8 b]; rw [hb.cell]
  match i,hi with
  | 0,_ => rfl
  | 1,_ => rfl) _ Tryz.underlying9
theorem conv4 (W : World) (g : Nat) (a b d f : Int) (c : Nat) (hg : g = W.heap.size) : (convert 105 9 (.slice (some ⟨g, 0, none⟩) 4 c)).run Tryz.prog (W.alloc (.cells #[.int .u8 a, .int .u8 b, .int .u8 d, .int .u8 f] 5)) = .ok (.string (strOfNums [a, b, d, f])) (W.alloc (.cells #[.int .u8 a, .int .u8 b, .int .u8 d, .int .u8 f] 5)) :=
 run_convert_bytes_arg (P := Tryz.prog) _ 105 5 Tryz.underlying105 Tryz.underlying5 g 0 4 c [a, b, d, f] rfl (fun i hi => by
  subst hg; have hb := Blk.new W 5 #[.int .u8 a, .int .u8 b, .int .u8 d, .int .u8 f]; rw [hb.cell]
  match i,hi with
  | 0,_ => rfl
  | 1,_ => rfl
  | 2,_ => rfl
  | 3,_ => rfl) _ Tryz.underlying9
theorem make_any (s : ByteArray) (w : World) (hs : s.size <= 2000) : Calls Tryz.prog 54 #[.string s] w fun e w' => Framed s w e w' := by
 have h2 := conv2; have h4 := conv4; have hz2 : ∀ a b : Int, (strOfNums [a,b]).size = 2 := fun a b => strOfNums_size _
 have hz4 : ∀ a b c d : Int, (strOfNums [a,b,c,d]).size = 4 := fun a b c d => strOfNums_size _
 go_enter Tryz.func54,Tryz.ntmps54
 go_wp2_with fail
 refine (sum_any (strOfNums [(s.size : Int) / 256, (s.size : Int) % 256] ++ s) _ (by rw [ByteArray.size_append,strOfNums_size]; simp; omega)).mono ?_
 rintro e w' ⟨rfl,rfl⟩; obtain ⟨c,hc⟩ := gXe (sum ((strOfNums [(s.size : Int) / 256, (s.size : Int) % 256] ++ s).data.toList)); have hlt := sum_lt ((strOfNums [(s.size : Int) / 256, (s.size : Int) % 256] ++ s).data.toList); rw [<- hc] at hlt ⊢; have HC := gh hc; clear hc
 go_wp2_with fail
 go_ret
 refine ⟨?_,?_⟩
 ·rw [framed_eq HC.o]
  rfl
 ·exact ((Below.refl _ _).alloc (Nat.le_refl _) _).alloc (by simp) _
end Go.Proofs.YtaamihdibpioaaaGreat.Ref06
namespace Go.Proofs.YtaamihdibpioaaaGreat.Ref17
open Go.RowKit
structure RefAt (w : World) (p q n : Nat) (rows : List ByteArray) : Prop where
 top : Blk w p 59 #[.slice (some ⟨q, 0,none⟩) n n]
 row : Blk w q 9 (rows.map Value.string).toArray
 len : rows.length = n
 n1 : 1 <= n
 n8 : n <= 8
 sz : ∀ r ∈ rows,r.size <= 4000
section
variable {w w' : World} {p q n : Nat} {rows : List ByteArray}
theorem RefAt.ne (h : RefAt w p q n rows) : p ≠ q := h.top.ne_ h.row (by decide)
theorem RefAt.c0 (h : RefAt w p q n rows) : w.cell? ⟨p, 0,none⟩ = some (.slice (some ⟨q, 0,none⟩) n n) := by rw [h.top.cell]; rfl
theorem RefAt.grown {row : Option Nat} (h : RefAt w p q n rows) (hg : w.grownBy w' row) (h1 : some p ≠ row) (h2 : some q ≠ row) : RefAt w' p q n rows :=
 ⟨h.top.grown hg h1,h.row.grown hg h2,h.len,h.n1,h.n8,h.sz⟩
theorem RefAt.at_ (h : RefAt w p q n rows) {i : Int} (hi : isSeg n i = true) : ∃ k : Nat, i = (k : Int) /\ k < n /\ w.cell? ⟨q, k, none⟩ = some (.string (rowOf rows i)) /\ rows[k]? = some (rowOf rows i) /\ (rowOf rows i).size <= 4000 := by
 have hi' : 0 <= i /\ i < n := by simpa [isSeg] using hi
 obtain ⟨k,rfl⟩ := Int.eq_ofNat_of_zero_le hi'.1; have hk : k < rows.length := by have := h.len; omega
 have e : rows[k]? = some (rowOf rows (k : Int)) := by simp [rowOf,hk]
 refine ⟨k,rfl,by omega,?_,e,h.sz _ ?_⟩
 ·rw [h.row.cell]; simp [e]
 ·simp [rowOf,hk]
end
def Turned (p q n : Nat) (rows : List ByteArray) (w w' : World) : Prop := Only w w' q /\ RefAt w' p q n rows
theorem Turned.refl {p q n : Nat} {rows : List ByteArray} {w : World} (h : RefAt w p q n rows) : Turned p q n rows w w := ⟨Only.refl w q,h⟩
theorem Turned.of_set {p q n : Nat} {rows : List ByteArray} {w : World} (h : RefAt w p q n rows) (i : Nat) {r r' : ByteArray} (e : r' = r) (hr : r.size <= 4000) :
  Turned p q n (rows.set i r) w (w.setCell ⟨q,i,none⟩ (.string r')).drew := by
 subst e; refine ⟨((Only.refl w q).set_ (.inl rfl) _).drew,h.top.far h.ne _,?_,by simp [h.len],h.n1,h.n8,fun x hx => ?_⟩
 ·have := (h.row.set_ i (.string r')).drew
  simpa [List.map_set] using this
 ·rcases List.mem_or_eq_of_mem_set hx with hx | rfl
  ·exact h.sz x hx
  ·exact hr
theorem is_yes (p q n : Nat) (rows : List ByteArray) (i : Int) (w : World) (h : RefAt w p q n rows) (hi : 0 <= i) (hn : i < n) :
  Calls Tryz.prog 55 #[.pointer (some ⟨p, 0,none⟩), .int .i64 i] w fun e w' => e = .returned (.bool true) /\ w = w' := by
 have c0 := h.c0; have hd : decide (0 <= i) = true := by simpa using hi
 have hd2 : decide (i < (n : Int)) = true := by simpa using hn
 go_enter Tryz.func55,Tryz.ntmps55
 go_wp2
 go_ret
 exact ⟨rfl,rfl⟩
theorem is_no (p q n : Nat) (rows : List ByteArray) (i : Int) (w : World) (h : RefAt w p q n rows) (hi : i < 0 \/ (n : Int) <= i) :
  Calls Tryz.prog 55 #[.pointer (some ⟨p, 0,none⟩), .int .i64 i] w fun e w' => e = .returned (.bool false) /\ w = w' := by
 have c0 := h.c0
 by_cases h0 : i < 0
 ·have hd : decide (0 <= i) = false := by simpa using h0
  clear hi
  go_enter Tryz.func55,Tryz.ntmps55
  go_wp2
  go_ret
  exact ⟨rfl,rfl⟩
 ·have hd : decide (0 <= i) = true := by simp; omega
  have hd2 : decide (i < (n : Int)) = false := by simp; omega
  clear hi
  go_enter Tryz.func55,Tryz.ntmps55
  go_wp2
  go_ret
  exact ⟨rfl,rfl⟩
theorem tear_out (p q n : Nat) (rows : List ByteArray) (i : Int) (s : ByteArray) (keep : Int) (w : World) (h : RefAt w p q n rows) (hi : i < 0 \/ (n : Int) <= i) :
  Calls Tryz.prog 36 #[.pointer (some ⟨p, 0,none⟩), .int .i64 i, .string s, .int .i64 keep] w fun e w' => e = .returned (.int .i64 3) /\ w = w' := by
 go_enter Tryz.func36,Tryz.ntmps36
 go_wp2_with (go_at_call 55; refine (is_no p q n rows i _ h hi).mono ?_; rintro e w' ⟨rfl,rfl⟩)
 go_ret
 exact ⟨rfl,rfl⟩
theorem tear_full (p q n : Nat) (rows : List ByteArray) (i : Nat) (s R : ByteArray) (keep : Int) (w : World) (h : RefAt w p q n rows) (hi : i < n) (hc : w.cell? ⟨q, i, none⟩ = some (.string R))
  (hs : s.size <= 140737488355328) (hr0 : R.size <= 4000) (hr : 4000 < R.size + s.size) :
  Calls Tryz.prog 36 #[.pointer (some ⟨p, 0,none⟩), .int .i64 i, .string s, .int .i64 keep] w fun e w' => e = .returned (.int .i64 4) /\ w = w' := by
 have c0 := h.c0; have hle : 4000 < (R.size : Int) + s.size := by omega
 have hn : (i : Int) < n := by omega
 have h8 := h.n8
 go_enter Tryz.func36,Tryz.ntmps36
 go_wp2_with (go_at_call 55; refine (is_yes p q n rows i _ h (by omega) (by omega)).mono ?_; rintro e w' ⟨rfl,rfl⟩)
 go_ret
 exact ⟨rfl,rfl⟩
theorem tear_ok (p q n : Nat) (rows : List ByteArray) (i : Nat) (s R : ByteArray) (keep : Int) (w : World) (hA : RefAt w p q n rows) (hi : i < n) (hc : w.cell? ⟨q, i, none⟩ = some (.string R))
  (hr : R.size + s.size <= 4000) :
  Calls Tryz.prog 36 #[.pointer (some ⟨p, 0,none⟩), .int .i64 i, .string s, .int .i64 keep] w fun e w' => e = .returned (.int .i64 0) /\ Turned p q n (rows.set i (R ++ kept s keep)) w w' := by
 have c0 := hA.c0; have hle : (R.size : Int) + s.size <= 4000 := by omega
 have hn : (i : Int) < n := by omega
 have h8 := hA.n8; have hf := hA.row.frozen i; have hk := kept_size s keep
 go_enter Tryz.func36,Tryz.ntmps36
 go_wp2_with (go_at_call 55; refine (is_yes p q n rows i _ hA (by omega) (by omega)).mono ?_; rintro e w' ⟨rfl,rfl⟩)
 go_region
 all_goals go_wp2
 all_goals go_ret
 all_goals refine ⟨rfl,Turned.of_set hA i ?_ (by simp; omega)⟩
 all_goals first
  | (have e : keep <= 0 := by omega
     rw [kept_neg e]; simp; done)
  | (have e : s.size = 0 := by omega
     have e' : s = ByteArray.empty := ByteArray.size_eq_zero_iff.1 e
     subst e'
     simp [kept]; done)
  | (have e : (s.size : Int) <= keep := by omega
     rw [kept_all e]; done)
  | (have e : keep <= (s.size : Int) := by omega
     rw [kept_some e]; done)
theorem tear_any (p q n : Nat) (rows : List ByteArray) (i : Int) (s : ByteArray) (keep : Int) (w : World) (h : RefAt w p q n rows) (hs : s.size <= 140737488355328) :
  Calls Tryz.prog 36 #[.pointer (some ⟨p, 0,none⟩), .int .i64 i, .string s, .int .i64 keep] w fun e w' => e = .returned (.int .i64 (tearE n rows i s)) /\ Turned p q n (tearR n rows i s keep) w w' := by
 cases hi : isSeg n i
 ·refine (tear_out p q n rows i s keep w h (isSeg_out hi)).mono ?_
  rintro e w' ⟨rfl,rfl⟩; exact ⟨by simp [tearE,hi],by simp [tearR,hi]; exact Turned.refl h⟩
 ·obtain ⟨k, rfl, h1, hc, hR, hz⟩ := h.at_ hi
  cases hf : fits rows k s
  ·have : ¬ ((rowOf rows k).size + s.size <= 4000) := by simpa [fits] using hf
   refine (tear_full p q n rows k s _ keep w h h1 hc hs hz (by omega)).mono ?_
   rintro e w' ⟨rfl,rfl⟩; exact ⟨by simp [tearE,hi,hf],by simp [tearR,hf]; exact Turned.refl h⟩
  ·have : ((rowOf rows k).size + s.size <= 4000) := by simpa [fits] using hf
   refine (tear_ok p q n rows k s _ keep w h h1 hc this).mono ?_; rintro e w' ⟨rfl,hd⟩; exact ⟨by simp [tearE,hi,hf],by simp only [tearR,hi,hf]; exact hd⟩
theorem cut_out (p q n : Nat) (rows : List ByteArray) (i m : Int) (w : World) (h : RefAt w p q n rows) (hi : i < 0 \/ (n : Int) <= i) :
  Calls Tryz.prog 38 #[.pointer (some ⟨p, 0,none⟩), .int .i64 i, .int .i64 m] w fun e w' => e = .returned (.int .i64 3) /\ w = w' := by
 go_enter Tryz.func38,Tryz.ntmps38
 go_wp2_with (go_at_call 55; refine (is_no p q n rows i _ h hi).mono ?_; rintro e w' ⟨rfl,rfl⟩)
 go_ret
 exact ⟨rfl,rfl⟩
theorem cut_range (p q n : Nat) (rows : List ByteArray) (i : Nat) (m : Int) (R : ByteArray) (w : World) (h : RefAt w p q n rows) (hi : i < n) (hc : w.cell? ⟨q, i, none⟩ = some (.string R))
  (hz : R.size <= 4000) (hm : m < 0 \/ (R.size : Int) < m) :
  Calls Tryz.prog 38 #[.pointer (some ⟨p, 0,none⟩), .int .i64 i, .int .i64 m] w fun e w' => e = .returned (.int .i64 3) /\ w = w' := by
 have c0 := h.c0; have hn : (i : Int) < n := by omega
 have h8 := h.n8
 by_cases hm0 : m < 0
 all_goals
  try have hm1 : (R.size : Int) < m := by omega
  try have hm2 : decide (m < 0) = false := by simp; omega
  clear hm
  go_enter Tryz.func38,Tryz.ntmps38
  go_wp2_with (go_at_call 55; refine (is_yes p q n rows i _ h (by omega) (by omega)).mono ?_; rintro e w' ⟨rfl,rfl⟩)
  all_goals go_ret
  all_goals exact ⟨rfl,rfl⟩
theorem cut_ok (p q n : Nat) (rows : List ByteArray) (i m : Nat) (R : ByteArray) (w : World) (h : RefAt w p q n rows) (hi : i < n) (hc : w.cell? ⟨q, i, none⟩ = some (.string R))
  (hz : R.size <= 4000) (hm : m <= R.size) :
  Calls Tryz.prog 38 #[.pointer (some ⟨p, 0,none⟩), .int .i64 i, .int .i64 m] w fun e w' => e = .returned (.int .i64 0) /\ Turned p q n (rows.set i (R.extract 0 m)) w w' := by
 have c0 := h.c0; have hn : (i : Int) < n := by omega
 have h8 := h.n8; have hf := h.row.frozen i; have hm1 : (m : Int) <= (R.size : Int) := by omega
 have hm2 : decide ((m : Int) < 0) = false := by simp
 go_enter Tryz.func38,Tryz.ntmps38
 go_wp2_with (go_at_call 55; refine (is_yes p q n rows i _ h (by omega) (by omega)).mono ?_; rintro e w' ⟨rfl,rfl⟩)
 all_goals go_region
 all_goals go_wp2
 all_goals go_ret
 all_goals exact ⟨rfl,Turned.of_set h i (by simp) (by simp; omega)⟩
theorem cut_any (p q n : Nat) (rows : List ByteArray) (i m : Int) (w : World) (h : RefAt w p q n rows) :
  Calls Tryz.prog 38 #[.pointer (some ⟨p, 0,none⟩), .int .i64 i, .int .i64 m] w fun e w' => e = .returned (.int .i64 (cutE n rows i m)) /\ Turned p q n (cutR n rows i m) w w' := by
 cases hi : isSeg n i
 ·refine (cut_out p q n rows i m w h (isSeg_out hi)).mono ?_
  rintro e w' ⟨rfl,rfl⟩; exact ⟨by simp [cutE,hi],by simp [cutR,hi]; exact Turned.refl h⟩
 ·obtain ⟨k, rfl, h1, hc, hR, hz⟩ := h.at_ hi
  cases hf : within rows k m
  ·have : ¬ (0 <= m /\ m <= (rowOf rows k).size) := by simpa [within] using hf
   refine (cut_range p q n rows k m _ w h h1 hc hz (by omega)).mono ?_
   rintro e w' ⟨rfl,rfl⟩; exact ⟨by simp [cutE,hf],by simp [cutR,hf]; exact Turned.refl h⟩
  ·have : (0 <= m /\ m <= (rowOf rows k).size) := by simpa [within] using hf
   obtain ⟨j,rfl⟩ := Int.eq_ofNat_of_zero_le this.1; refine (cut_ok p q n rows k j _ w h h1 hc hz (by omega)).mono ?_
   rintro e w' ⟨rfl,hd⟩; exact ⟨by simp [cutE,hi,hf],by simp only [cutR,hi,hf]; exact hd⟩
end Go.Proofs.YtaamihdibpioaaaGreat.Ref17
