/- Words that the laws of layer 9 share. -/
import Derived.Test.YtjpdbhhjlnmacaaGreatTlM18
import Derived.Test.YtjpdbhhjlnmacaaGreatTlM19
import Derived.Test.YtjpdbhhjlnmacaaGreatTlM47
import Derived.Test.YtjpdbhhjlnmacaaGreatTlM50
import Derived.Test.YtjpdbhhjlnmacaaGreatTlM52
namespace Go.Proofs.YtjpdbhhjlnmacaaGreat
set_option linter.unusedVariables false
open Go.RowKit

/-- What a join of right types answers. -/
def JAns (a b T : Ty) (k : Int) : Prop := (k = 0 ∧ a.joinT b = some T.erase) ∨ (k = 6 ∧ a.joinT b = none ∧ T.erase = Ty.zero)
theorem joined_right (a b : Ty) (w : World) (ha : a.In w) (hb : b.In w) (hra : a.RightB = true) (hrb : b.RightB = true) :
    Calls Tryz.prog 17 #[a.agg, b.agg] w fun e w' => ∃ (T : Ty) (k : Int), e = .returned (.tuple #[T.agg, .int .i64 k]) ∧ T.In w' ∧ JAns a b T k ∧ Below w.heap.size w w' := by
  refine (joinf_any a b (fun b => b < w.heap.size) w (fun b h => h) ha hb ha.sep hb.sep).mono ?_
  rintro e w' ⟨hb', hr⟩
  unfold Ty.joinF at hr
  rw [hra, hrb] at hr
  simp only [Bool.and_self, cond_true] at hr
  cases h2 : a.joinT b with
  | none =>
    rw [h2] at hr
    exact ⟨Ty.zero, 6, hr, tzero_in _, .inr ⟨rfl, h2, rfl⟩, hb'⟩
  | some v =>
    rw [h2] at hr
    obtain ⟨u, he, hue, hui, hus⟩ := hr
    exact ⟨u, 0, he, hui, .inl ⟨rfl, by rw [h2, hue]⟩, hb'⟩
/-- A join of what is no type. -/
theorem joined_wrong (a b : Ty) (w : World) (ha : a.In w) (hb : b.In w) (hr : (a.RightB && b.RightB) = false) :
    Calls Tryz.prog 17 #[a.agg, b.agg] w fun e w' => e = .returned (.tuple #[Ty.zero.agg, .int .i64 2]) ∧ Below w.heap.size w w' := by
  refine (joinf_any a b (fun b => b < w.heap.size) w (fun b h => h) ha hb ha.sep hb.sep).mono ?_
  rintro e w' ⟨hb', h⟩
  unfold Ty.joinF at h
  rw [hr] at h
  simp only [cond_false] at h
  exact ⟨h, hb'⟩
theorem zero_wrong (a q : Ty) (h : q.erase = Ty.zero) : (a.RightB && q.RightB) = false := by
  rw [← Ty.RightB_erase q, h]
  have : Ty.zero.RightB = false := by kernel_rfl
  rw [this, Bool.and_false]
theorem right_rt {a : Ty} (h : a.RightB = true) : a.Rt := RightB.some h
theorem isB_up {a x v : Ty} (ha : a.RightB = true) (hx : x.RightB = true) (hv : x.erase = v) (h : a.joinT v = some v) : a.isB x = true := by
  rw [isB_eq, ha, hx, ← Ty.joinT_eraseR, hv, h]
  show v.sameB x = true
  exact Ty.sameB_of (by rw [← hv, Ty.ee])
theorem isB_self {a : Ty} (ha : a.RightB = true) : a.isB a = true := by
  rw [isB_eq, ha, joinT_self]
  exact Ty.sameB_of (Ty.ee a)
end Go.Proofs.YtjpdbhhjlnmacaaGreat
