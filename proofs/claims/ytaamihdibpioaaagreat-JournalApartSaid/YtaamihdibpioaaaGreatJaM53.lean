/- Records that are built beside: one step each. -/
import Derived.Test.YtaamihdibpioaaaGreatJaM43
import Derived.Test.YtaamihdibpioaaaGreatJaM47
import Derived.Test.YtaamihdibpioaaaGreatJaM52
import Derived.Great.Walk
namespace Go.Proofs.YtaamihdibpioaaaGreat.Jr
set_option linter.unusedVariables false
open Go.RowKit Go.Proofs.YtaamihdibpioaaaGreat.Pk Go.Proofs.YtaamihdibpioaaaGreat.Rf

theorem rec_one2 (r : Rc) : r.cells.toArray.all (·.oneCell') = true := by
  rw [List.all_toArray, List.all_eq_true]
  exact fun u hu => recE.one r u hu
theorem JAt.grown {w w' : World} {j d : Nat} {s : Jt} {row : Option Nat} (h : JAt w j d s) (hg : w.grownBy w' row) (h1 : some j ≠ row) (h2 : some d ≠ row) : JAt w' j d s := ⟨h.jb.grown hg h1, h.db.grown hg h2, h.dk⟩
/-- The k-th record of a row of records. -/
theorem rec_range {w : World} {base n : Nat} {a : Option Addr} {c : Nat} {us : List Rc} (h : w.ownsRow base 44 19 (.slice a n c) us.length (recE.row us)) {k : Nat} (hk : k < us.length) :
    ∃ g, a = some ⟨g, 0, none⟩ ∧ us.length ≤ c ∧ base ≤ g ∧ g < w.heap.size ∧ w.rangeAt g (k * 19) (us[k]'hk).cells := by
  have hh := h
  rcases h.2 with ⟨h1, h0⟩ | ⟨g, cap, cur, hv, hb, hg, hc, _⟩
  · omega
  · injection hv with e1 e2 e3
    subst e1 e3
    refine ⟨g, rfl, hc, hb, Blk.lt hg, fun j v hv => ?_⟩
    have hj : j < 19 := by
      have := (List.getElem?_eq_some_iff.1 hv).1
      rwa [Rc.cells_len] at this
    have := hh.cells (g := g) rfl (k * 19 + j) v (by rw [erow_get us k j hk hj]; exact hv)
    rw [Addr.add_lit, Nat.zero_add] at this
    exact this
theorem range_part {w : World} {b o i : Nat} {cs ds : List Value} (h : w.rangeAt b o cs) (hd : ∀ j v, ds[j]? = some v → cs[i + j]? = some v) : w.rangeAt b (o + i) ds := fun j v hv => by
  have := h (i + j) v (hd j v hv)
  rw [Nat.add_assoc]
  exact this
theorem rc_cmd (r : Rc) : ∀ j v, r.c.cells[j]? = some v → r.cells[2 + j]? = some v := fun j v hv => by
  unfold Rc.cells
  rw [List.getElem?_append_right (by simp), ← hv]
  congr 1
  simp
theorem rc_range {w : World} {g : Nat} {r : Rc} (h : Blk w g 44 r.cells.toArray) : w.rangeAt g 0 r.cells := fun j v hv => by
  rw [h.cell (0 + j)]
  simpa using hv
theorem rec_info : (Tryz.prog.info? 44).map (·.size) = some 19 := by kernel_rfl
theorem hr_in {S : Nat → Prop} {B : Nat} {w : World} {us : List Rc} {v : Value} (h : Rowed recE S B 44 w us v) {k : Nat} (hk : k < us.length) : (us[k]'hk).In w := (h.each _ (List.getElem_mem hk)).1
theorem wpList_buildSliceAs {P : Program} {ops : Array Oper} {rest : List Oper} {o : Oper} {a : Act} {w : World} {Q : Exit → Act → World → Prop} (t e : TypeId) (len : Nat) (parts : Array (Nat × Operand)) (X : Array Value) (ps : List (Nat × Value))
    (hg : o.guard = none) (ho : o.op = .buildSlice t len parts) (hp : (parts.map fun (i, x) => (i, a.eval x)).toList = ps) (hu : P.underlying t = some (.slice e)) (hb : P.builtSlice e len ps = some X)
    (h : wpList P ops Q rest (a.put o.dst (.slice (some ⟨w.heap.size, 0, none⟩) len len)) (w.alloc (.cells X e))) : wpList P ops Q (o :: rest) a w :=
  Go.Great.wpList_buildSliceTo hg t e len parts ho _ rfl _ rfl hu X (by rw [hp]; exact hb) h
end Go.Proofs.YtaamihdibpioaaaGreat.Jr
