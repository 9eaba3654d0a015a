/- journal: how two records stand to one another. -/
import Derived.Test.YtaamihdibpioaaaGreatJpM31
import Derived.Sort.Grow
set_option maxRecDepth 100000
set_option maxHeartbeats 40000000
namespace Go.Proofs.YtaamihdibpioaaaGreat.Jr
open Go.RowKit Go.Sort
theorem sl_val (a : Sl) (n : Nat) : ∃ p m c, a.val n = .slice p m c := by
 cases a with
 | no => exact ⟨_,_,_,rfl⟩
 | odd a => exact ⟨_,_,_,rfl⟩
 | at_ b o c => exact ⟨_,_,_,rfl⟩
def OrdG (n : Int) (w : World) (e : Ending) (w' : World) : Prop := e = .returned (.int .i64 n) /\ ∃ q os',w' = grow (w.drewN q) os'
theorem grow2 (w : World) (A B : Obj) : (w.alloc A).alloc B = grow (w.drewN 0) #[A, B] := by
 have h : (w.alloc A).alloc B = grow w #[A,B] := by rw [alloc_eq_grow,alloc_eq_grow,grow_grow]; rfl
 rw [h]
 rfl
theorem clo_ord (x y : Rc) (w : World) : Calls Tryz.prog 32 #[x.agg, y.agg] w fun e w' => OrdG (sgnI x.seq y.seq) w e w' := by
 obtain ⟨p1,m1,c1,h1⟩ := sl_val x.c.key.na x.c.key.ns.length; obtain ⟨p2,m2,c2,h2⟩ := sl_val x.c.key.xa x.c.key.xs.length; obtain ⟨p3,m3,c3,h3⟩ := sl_val x.c.v.na x.c.v.ns.length; obtain ⟨p4,m4,c4,h4⟩ := sl_val x.c.v.xa x.c.v.xs.length; obtain ⟨q1,n1,d1,g1⟩ := sl_val y.c.key.na y.c.key.ns.length; obtain ⟨q2,n2,d2,g2⟩ := sl_val y.c.key.xa y.c.key.xs.length; obtain ⟨q3,n3,d3,g3⟩ := sl_val y.c.v.na y.c.v.ns.length; obtain ⟨q4,n4,d4,g4⟩ := sl_val y.c.v.xa y.c.v.xs.length; obtain ⟨W,hW⟩ := gXe ((w.alloc (.cells x.cells.toArray 44)).alloc (.cells y.cells.toArray 44)); have ha : Blk W w.heap.size 44 x.cells.toArray := by rw [hW]; exact (Blk.new _ _ _).alloc _
 have hb : Blk W (w.heap.size + 1) 44 y.cells.toArray := by
  rw [hW]; have := Blk.new (w.alloc (.cells x.cells.toArray 44)) 44 y.cells.toArray; rw [World.size_alloc] at this; exact this
 have hG : Hid (W = grow (w.drewN 0) #[.cells x.cells.toArray 44, .cells y.cells.toArray 44]) := gh (by rw [hW,grow2])
 have a0 := ha.cell 0; have b0 := hb.cell 0; have e0 : W.cell? ⟨w.heap.size, 0,none⟩ = some (.int .i64 x.seq) := a0; have e1 : W.cell? ⟨w.heap.size + 1, 0,none⟩ = some (.int .i64 y.seq) := b0; unfold Rc.cells Cm.cells Val.cells at hW; unfold Rc.agg Rc.cells Cm.cells Val.cells; rw [h1,h2,h3,h4,g1,g2,g3,g4] at hW ⊢; simp only [List.cons_append,List.nil_append] at hW ⊢; have HW := gh hW; clear hW ha hb a0 b0 h1 h2 h3 h4 g1 g2 g3 g4
 go_enter Tryz.func32,Tryz.ntmps32
 go_upto_region 1 with fail
 rw [<- HW.o]
 go_wp2_with fail
 refine (cmp_int _ _ _).mono ?_; rintro e w' ⟨rfl,rfl⟩
 go_wp2
 go_ret
 exact ⟨rfl, 0,_,hG.o⟩
end Go.Proofs.YtaamihdibpioaaaGreat.Jr
