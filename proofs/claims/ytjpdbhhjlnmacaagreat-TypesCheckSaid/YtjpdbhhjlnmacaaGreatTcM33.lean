/- types.Join and types.Is of any two types. -/
import Derived.Test.YtjpdbhhjlnmacaaGreatTcM31
namespace Go.Proofs.YtjpdbhhjlnmacaaGreat
set_option linter.unusedVariables false
open Go.RowKit

theorem RightB.some {a : Ty} (h : a.RightB = true) : ∃ n, a.rightB n = true := by
  unfold Ty.RightB at h
  rw [Bool.and_eq_true] at h
  exact ⟨1, h.2⟩
/-- A catch behind a panic: what it leaves. -/
theorem caught_blk {w : World} {T E : Nat} {k : Int} {x0 x1 x2 y : Value} (hT : Blk w T 36 #[x0, x1, x2]) (hE : Blk w E 37 #[y]) (hne : T ≠ E) :
    Blk (caughtW w T E k) T 36 #[.int .i64 0, .slice none 0 0, .slice none 0 0] ∧ Blk (caughtW w T E k) E 37 #[.int .i64 k] :=
  ⟨(blk3_set hT _ _ _).far (p := ⟨E, 0, none⟩) hne _, (((hE.far (p := ⟨T, 0, none⟩) (Ne.symm hne) _).far (p := ⟨T, 1, none⟩) (Ne.symm hne) _).far (p := ⟨T, 2, none⟩) (Ne.symm hne) _).set_ 0 _⟩
theorem caught_below {B : Nat} {w W : World} {T E : Nat} {k : Int} (h : Below B w W) (hT : B ≤ T) (hE : B ≤ E) : Below B w (caughtW W T E k) := (below3_set h hT _ _ _).setCell (p := ⟨E, 0, none⟩) hE _
/-- Where it begins: two by value, room for the results. -/
structure J4 (w W : World) (a b : Ty) : Prop where
  below : Below w.heap.size w W
  ba : Blk W w.heap.size 36 #[.int .i64 a.k, a.na.val a.ns.length, a.xa.val a.xs.length]
  bb : Blk W (w.heap.size + 1) 36 #[.int .i64 b.k, b.na.val b.ns.length, b.xa.val b.xs.length]
  br : Blk W (w.heap.size + 1 + 1) 36 #[.int .i64 0, .slice none 0 0, .slice none 0 0]
  be : Blk W (w.heap.size + 1 + 1 + 1) 37 #[.int .i64 0]
theorem Ty.erase_erase : ∀ (d : Nat) (v : Ty), v.sz ≤ d → v.erase.erase = v.erase
  | 0, v, hd => by rw [Ty.sz_eq] at hd; omega
  | d + 1, v, hd => by
    rw [Ty.erase_eq v, Ty.erase_eq]
    simp only [Ty.k, Ty.ns, Ty.xs, List.map_map]
    congr 1
    refine List.map_congr_left (fun x hx => ?_)
    exact Ty.erase_erase d x (by have := Ty.size_mem hx; omega)
end Go.Proofs.YtjpdbhhjlnmacaaGreat
