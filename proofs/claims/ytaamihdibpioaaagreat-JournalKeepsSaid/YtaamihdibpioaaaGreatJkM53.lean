/- Records that are built beside: one step each. -/
import Derived.Test.YtaamihdibpioaaaGreatJkM43
import Derived.Test.YtaamihdibpioaaaGreatJkM47
import Derived.Test.YtaamihdibpioaaaGreatJkM52
import Derived.Great.Walk
namespace Go.Proofs.YtaamihdibpioaaaGreat.Jr
set_option linter.unusedVariables false
open Go.RowKit Go.Proofs.YtaamihdibpioaaaGreat.Pk Go.Proofs.YtaamihdibpioaaaGreat.Rf

theorem built_rec (l : Int) (c : Cm) : Tryz.prog.built 44 [(1, .int .i64 l), (2, .agg c.cells.toArray)] = some (Rc.mk 0 l c).cells.toArray := by kernel_rfl
theorem wpList_build_as {P : Program} {ops : Array Oper} {rest : List Oper} {o : Oper} {a : Act} {w : World} {Q : Exit → Act → World → Prop} (t : TypeId) (parts : Array (Nat × Operand)) (X : Array Value) (ps : List (Nat × Value))
    (hg : o.guard = none) (ho : o.op = .build t parts) (hp : (parts.map fun (i, x) => (i, a.eval x)).toList = ps) (hb : P.built t ps = some X)
    (h : wpList P ops Q rest (a.put o.dst (.agg X)) w) : wpList P ops Q (o :: rest) a w :=
  wpList_build hg t parts ho (by rw [hp, hb]; rfl) (by rw [hp, hb]; exact h)
theorem rec_one2 (r : Rc) : r.cells.toArray.all (·.oneCell') = true := by
  rw [List.all_toArray, List.all_eq_true]
  exact fun u hu => recE.one r u hu
theorem built_recs (l : Int) (c : Cm) : Tryz.prog.builtSlice 44 1 [(0, .agg (Rc.mk 0 l c).cells.toArray)] = some (Rc.mk 0 l c).cells.toArray := by kernel_rfl
theorem recs_read (w : World) (r : Rc) : Reads (w.alloc (.cells r.cells.toArray 44)) (w.heap.size + 1) 19 (some ⟨w.heap.size, 0, none⟩) 1 r.cells :=
  ⟨by rw [Rc.cells_len], fun _ => ⟨_, rfl, by simp, cells_new w r.cells 44⟩⟩
theorem JAt.grown {w w' : World} {j d : Nat} {s : Jt} {row : Option Nat} (h : JAt w j d s) (hg : w.grownBy w' row) (h1 : some j ≠ row) (h2 : some d ≠ row) : JAt w' j d s := ⟨h.jb.grown hg h1, h.db.grown hg h2, h.dk⟩
theorem kept_more {w w5 w8 : World} {B j d : Nat} {s : Jt} {ks : List Rc} {ka : Option Addr} {kc : Nat} {v' : Value} {l : Int} {c : Cm}
    (hb : Below w.heap.size w w5) (hwB : w.heap.size ≤ B) (hB : B ≤ w5.heap.size) (hj : j < B) (hd : d < B) (hJ : JAt w5 j d s)
    (hR : Rowed recE (fun b => b < w.heap.size) B 44 w5 ks (.slice ka ks.length kc)) (hc : c.In w) (hl : i64r l)
    (ho : w8.ownsRow B 44 19 v' (ks.length + 1) (recE.row ks ++ (Rc.mk 0 l c).cells))
    (hg : (w5.alloc (.cells (Rc.mk 0 l c).cells.toArray 44)).grownBy w8 (Value.slice ka ks.length kc).ownBlock)
    (hor : v'.ownBlock = (Value.slice ka ks.length kc).ownBlock ∨ v'.ownBlock = some (w5.alloc (.cells (Rc.mk 0 l c).cells.toArray 44)).heap.size) :
    Rowed recE (fun b => b < w.heap.size) B 44 w8 (ks ++ [⟨0, l, c⟩]) v' ∧ Below w.heap.size w w8 ∧ JAt w8 j d s ∧ B ≤ w8.heap.size := by
  obtain ⟨W6, hW6⟩ : ∃ W6, W6 = w5.alloc (.cells (Rc.mk 0 l c).cells.toArray 44) := ⟨_, rfl⟩
  rw [← hW6] at hg hor
  have h56 : Below w5.heap.size w5 W6 := by rw [hW6]; exact (Below.refl _ _).alloc (Nat.le_refl _) _
  have h6 : Below w.heap.size w W6 := hb.trans (h56.mono hb.size)
  have hz : W6.heap.size = w5.heap.size + 1 := by rw [hW6]; simp
  have hown : ∀ k, (Value.slice ka ks.length kc).ownBlock = some k → B ≤ k := fun k hk => own_ge hR.items hk
  have hR6 := hR.below h56
  have hc6 : Rc.In W6 ⟨0, l, c⟩ := ⟨⟨by show (-9223372036854775808 : Int) ≤ 0; decide, by show (0 : Int) ≤ 9223372036854775807; decide⟩, hl, hc.below h6⟩
  have hcs : recE.Sep (fun b => b < w.heap.size ∨ W6.heap.size ≤ b) ⟨0, l, c⟩ := recE.mono (recE.lt (show recE.In w ⟨0, l, c⟩ from ⟨⟨by show (-9223372036854775808 : Int) ≤ 0; decide, by show (0 : Int) ≤ 9223372036854775807; decide⟩, hl, hc⟩)) (fun b hb => .inl hb)
  refine ⟨Rowed.item (Z := W6.heap.size) hR6 (fun b hb => by omega) (by omega) hc6 hcs (by omega) (fun b hb => own_lt hR6.items hb) ho hg hor, h6.grown hg (by have := h6.size; omega) (fun k hk => by have := hown k hk; omega), (hJ.below h56).grown hg (fun e => by have := hown j e.symm; omega) (fun e => by have := hown d e.symm; omega), ?_⟩
  have := hg.size
  omega
/-- The k-th record of a row of records. -/
theorem rec_range {w : World} {base n : Nat} {a : Option Addr} {c : Nat} {us : List Rc} (h : w.ownsRow base 44 19 (.slice a n c) us.length (recE.row us)) {k : Nat} (hk : k < us.length) :
    ∃ g, a = some ⟨g, 0, none⟩ ∧ us.length ≤ c ∧ base ≤ g ∧ g < w.heap.size ∧ w.rangeAt g (k * 19) (us[k]'hk).cells := by
  have hh := h
  rcases h.2 with ⟨h1, h0⟩ | ⟨g, cap, cur, hv, hb, hg, hc, _⟩
  · omega
  · injection hv with e1 e2 e3
    subst e1 e3
    refine ⟨g, rfl, hc, hb, Blk.lt hg, fun j v hv => ?_⟩
    have hj : j < 19 := by
      have := (List.getElem?_eq_some_iff.1 hv).1
      rwa [Rc.cells_len] at this
    have := hh.cells (g := g) rfl (k * 19 + j) v (by rw [erow_get us k j hk hj]; exact hv)
    rw [Addr.add_lit, Nat.zero_add] at this
    exact this
theorem range_part {w : World} {b o i : Nat} {cs ds : List Value} (h : w.rangeAt b o cs) (hd : ∀ j v, ds[j]? = some v → cs[i + j]? = some v) : w.rangeAt b (o + i) ds := fun j v hv => by
  have := h (i + j) v (hd j v hv)
  rw [Nat.add_assoc]
  exact this
theorem rc_cmd (r : Rc) : ∀ j v, r.c.cells[j]? = some v → r.cells[2 + j]? = some v := fun j v hv => by
  unfold Rc.cells
  rw [List.getElem?_append_right (by simp), ← hv]
  congr 1
  simp
theorem rc_range {w : World} {g : Nat} {r : Rc} (h : Blk w g 44 r.cells.toArray) : w.rangeAt g 0 r.cells := fun j v hv => by
  rw [h.cell (0 + j)]
  simpa using hv
theorem rec_info : (Tryz.prog.info? 44).map (·.size) = some 19 := by kernel_rfl
theorem hr_in {S : Nat → Prop} {B : Nat} {w : World} {us : List Rc} {v : Value} (h : Rowed recE S B 44 w us v) {k : Nat} (hk : k < us.length) : (us[k]'hk).In w := (h.each _ (List.getElem_mem hk)).1
theorem wpList_buildSliceAs {P : Program} {ops : Array Oper} {rest : List Oper} {o : Oper} {a : Act} {w : World} {Q : Exit → Act → World → Prop} (t e : TypeId) (len : Nat) (parts : Array (Nat × Operand)) (X : Array Value) (ps : List (Nat × Value))
    (hg : o.guard = none) (ho : o.op = .buildSlice t len parts) (hp : (parts.map fun (i, x) => (i, a.eval x)).toList = ps) (hu : P.underlying t = some (.slice e)) (hb : P.builtSlice e len ps = some X)
    (h : wpList P ops Q rest (a.put o.dst (.slice (some ⟨w.heap.size, 0, none⟩) len len)) (w.alloc (.cells X e))) : wpList P ops Q (o :: rest) a w :=
  Go.Great.wpList_buildSliceTo hg t e len parts ho _ rfl _ rfl hu X (by rw [hp]; exact hb) h
end Go.Proofs.YtaamihdibpioaaaGreat.Jr
