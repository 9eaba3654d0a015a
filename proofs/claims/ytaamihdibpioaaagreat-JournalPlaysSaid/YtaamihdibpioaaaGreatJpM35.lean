/- Scripts of calls that came in, opened (printed by wip/gen_jopen.py). -/
import Derived.Test.YtaamihdibpioaaaGreatJpM27
import Derived.Test.YtaamihdibpioaaaGreatJpM30
set_option maxRecDepth 100000
set_option maxHeartbeats 40000000
namespace Go.Proofs.YtaamihdibpioaaaGreat
open Go.RowKit Go.ChangeShapes Go.WideShapes Go.Deep
structure JOp where
 kind : Int
 label : Int
 keep : Int
 c : Cm
def JOp.cells (r : JOp) : List Value := [.int .i64 r.kind, .int .i64 r.label, .int .i64 r.keep] ++ r.c.cells
def JOp.agg (r : JOp) : Value := .agg r.cells.toArray
def JOp.In (w : World) (r : JOp) : Prop := i64r r.kind /\ i64r r.label /\ i64r r.keep /\ r.c.In w
theorem JOp.cells_len (r : JOp) : r.cells.length = 20 := rfl
theorem JOp.In.below {w w' : World} {r : JOp} (h : r.In w) (hb : Below w.heap.size w w') : r.In w' := ⟨h.1,h.2.1,h.2.2.1,h.2.2.2.below hb⟩
structure OpsIn (w : World) (p : Option Addr) (c : Nat) (us : List JOp) : Prop where
 len : us.length <= 586406201480
 cap : us.length <= c
 at_ : ∀ i (hi : i < us.length), ∃ b f,p = some ⟨b,f,none⟩ /\ (∀ j,j < 20 -> w.cell? ⟨b,f + i * 20 + j,none⟩ = (us[i]'hi).cells[j]?) /\ b < w.heap.size /\ (us[i]'hi).In w
theorem OpsIn.below {w w' : World} {p : Option Addr} {c : Nat} {us : List JOp} (h : OpsIn w p c us) (hb : Below w.heap.size w w') : OpsIn w' p c us :=
 ⟨h.len, h.cap, fun i hi => by
  obtain ⟨b,f,h1,h2,h3,h4⟩ := h.at_ i hi; exact ⟨b,f,h1,fun j hj => (hb.cell (p := ⟨b,f + i * 20 + j,none⟩) h3).trans (h2 j hj),Nat.lt_of_lt_of_le h3 hb.size,h4.below hb⟩⟩
section
variable {H : Type} {enc : TypeId × Value -> H} {W : World}
theorem ref_open (fuel : Nat) (cs : List Value) (x : DataW H × List MemPlace) (h : DataW.trod enc Tryz.prog W 0 (fun _ => true) true fuel 32 cs = some x) (hw : Fits 32 x.1) : ∃ a b : Int, cs = [.int .i64 a, .int .i64 b] /\ i64r a /\ i64r b := by
 cases fuel with
 | zero => simp [DataW.trod] at h
 | succ fuel =>
  obtain ⟨ys,n,hn,rfl,hl,hyl,hfs⟩ := DataW.trod_struct Tryz.underlying32 h; have hnf : n = fuel := by omega
  rw [hnf] at hfs; rw [show Tryz.prog.cellsOf 32 = 2 from by kernel_rfl] at hl
  obtain ⟨c0, c1, rfl⟩ : ∃ c0 c1, cs = [c0, c1] := by
   match cs,hl with
   | [c0,c1],_ => exact ⟨c0,c1,rfl⟩
  have hget : ∀ i,i < 2 -> ∃ y,ys[i]? = some y := fun i hi => ⟨ys[i]'(by rw [hyl]; exact hi),List.getElem?_eq_getElem _⟩
  obtain ⟨y0,g0⟩ := hget 0 (by omega)
  obtain ⟨y1,g1⟩ := hget 1 (by omega)
  have t0 : DataW.trod enc Tryz.prog W 0 (fun _ => true) true fuel 3 (([c0,c1].drop 0).take (Tryz.prog.cellsOf 3)) = some y0 := (hfs 0 _ rfl).trans g0
  have t1 : DataW.trod enc Tryz.prog W 0 (fun _ => true) true fuel 3 (([c0,c1].drop 1).take (Tryz.prog.cellsOf 3)) = some y1 := (hfs 1 _ rfl).trans g1
  have hp : ∀ (j : Nat) (u : TypeId) (y : DataW H × List MemPlace),_ -> ys[j]? = some y -> Fits u y.1 := fun j u y h1 h2 => parts_mem Tryz.underlying32 (j := j) h1 (by rw [List.getElem?_map,h2]; rfl) hw
  simp only [show Tryz.prog.cellsOf 3 = 1 from by kernel_rfl,List.drop_succ_cons,List.drop_zero,List.take_succ_cons,List.take_zero] at t0
  simp only [show Tryz.prog.cellsOf 3 = 1 from by kernel_rfl,List.drop_succ_cons,List.drop_zero,List.take_succ_cons,List.take_zero] at t1
  obtain ⟨x0,e0,_,r0⟩ := DataW.trod_int Tryz.underlying3 t0; injection e0 with e0 _; subst e0; obtain ⟨x1,e1,_,r1⟩ := DataW.trod_int Tryz.underlying3 t1; injection e1 with e1 _; subst e1; exact ⟨x0,x1,rfl,i64_wf r0,i64_wf r1⟩
theorem cmd_open (fuel : Nat) (cs : List Value) (x : DataW H × List MemPlace) (h : DataW.trod enc Tryz.prog W 0 (fun _ => true) true fuel 39 cs = some x) (hw : Fits 39 x.1) : ∃ v : Cm, cs = v.cells /\ v.In W := by
 cases fuel with
 | zero => simp [DataW.trod] at h
 | succ fuel =>
  obtain ⟨ys,n,hn,rfl,hl,hyl,hfs⟩ := DataW.trod_struct Tryz.underlying39 h; have hnf : n = fuel := by omega
  rw [hnf] at hfs; rw [show Tryz.prog.cellsOf 39 = 17 from by kernel_rfl] at hl
  obtain ⟨c0, c1, c2, c3, c4, c5, c6, c7, c8, c9, c10, c11, c12, c13, c14, c15, c16, rfl⟩ : ∃ c0 c1 c2 c3 c4 c5 c6 c7 c8 c9 c10 c11 c12 c13 c14 c15 c16, cs = [c0, c1, c2, c3, c4, c5, c6, c7, c8, c9, c10, c11, c12, c13, c14, c15, c16] := by
   match cs,hl with
   | [c0,c1,c2,c3,c4,c5,c6,c7,c8,c9,c10,c11,c12,c13,c14,c15,c16],_ => exact ⟨c0,c1,c2,c3,c4,c5,c6,c7,c8,c9,c10,c11,c12,c13,c14,c15,c16,rfl⟩
  have hget : ∀ i,i < 6 -> ∃ y,ys[i]? = some y := fun i hi => ⟨ys[i]'(by rw [hyl]; exact hi),List.getElem?_eq_getElem _⟩
  obtain ⟨y0,g0⟩ := hget 0 (by omega)
  obtain ⟨y1,g1⟩ := hget 1 (by omega)
  obtain ⟨y2,g2⟩ := hget 2 (by omega)
  obtain ⟨y3,g3⟩ := hget 3 (by omega)
  obtain ⟨y4,g4⟩ := hget 4 (by omega)
  obtain ⟨y5,g5⟩ := hget 5 (by omega)
  have t0 : DataW.trod enc Tryz.prog W 0 (fun _ => true) true fuel 3 (([c0,c1,c2,c3,c4,c5,c6,c7,c8,c9,c10,c11,c12,c13,c14,c15,c16].drop 0).take (Tryz.prog.cellsOf 3)) = some y0 := (hfs 0 _ rfl).trans g0
  have t1 : DataW.trod enc Tryz.prog W 0 (fun _ => true) true fuel 3 (([c0,c1,c2,c3,c4,c5,c6,c7,c8,c9,c10,c11,c12,c13,c14,c15,c16].drop 1).take (Tryz.prog.cellsOf 3)) = some y1 := (hfs 1 _ rfl).trans g1
  have t2 : DataW.trod enc Tryz.prog W 0 (fun _ => true) true fuel 32 (([c0,c1,c2,c3,c4,c5,c6,c7,c8,c9,c10,c11,c12,c13,c14,c15,c16].drop 2).take (Tryz.prog.cellsOf 32)) = some y2 := (hfs 2 _ rfl).trans g2
  have t3 : DataW.trod enc Tryz.prog W 0 (fun _ => true) true fuel 3 (([c0,c1,c2,c3,c4,c5,c6,c7,c8,c9,c10,c11,c12,c13,c14,c15,c16].drop 4).take (Tryz.prog.cellsOf 3)) = some y3 := (hfs 3 _ rfl).trans g3
  have t4 : DataW.trod enc Tryz.prog W 0 (fun _ => true) true fuel 37 (([c0,c1,c2,c3,c4,c5,c6,c7,c8,c9,c10,c11,c12,c13,c14,c15,c16].drop 5).take (Tryz.prog.cellsOf 37)) = some y4 := (hfs 4 _ rfl).trans g4
  have t5 : DataW.trod enc Tryz.prog W 0 (fun _ => true) true fuel 37 (([c0,c1,c2,c3,c4,c5,c6,c7,c8,c9,c10,c11,c12,c13,c14,c15,c16].drop 11).take (Tryz.prog.cellsOf 37)) = some y5 := (hfs 5 _ rfl).trans g5
  have hp : ∀ (j : Nat) (u : TypeId) (y : DataW H × List MemPlace),_ -> ys[j]? = some y -> Fits u y.1 := fun j u y h1 h2 => parts_mem Tryz.underlying39 (j := j) h1 (by rw [List.getElem?_map,h2]; rfl) hw
  have w2 : Fits 32 y2.1 := hp 2 32 y2 rfl g2; have w4 : Fits 37 y4.1 := hp 4 37 y4 rfl g4; have w5 : Fits 37 y5.1 := hp 5 37 y5 rfl g5; simp only [show Tryz.prog.cellsOf 3 = 1 from by kernel_rfl,List.drop_succ_cons,List.drop_zero,List.take_succ_cons,List.take_zero] at t0
  simp only [show Tryz.prog.cellsOf 3 = 1 from by kernel_rfl,List.drop_succ_cons,List.drop_zero,List.take_succ_cons,List.take_zero] at t1
  simp only [show Tryz.prog.cellsOf 32 = 2 from by kernel_rfl,List.drop_succ_cons,List.drop_zero,List.take_succ_cons,List.take_zero] at t2
  simp only [show Tryz.prog.cellsOf 3 = 1 from by kernel_rfl,List.drop_succ_cons,List.drop_zero,List.take_succ_cons,List.take_zero] at t3
  simp only [show Tryz.prog.cellsOf 37 = 6 from by kernel_rfl,List.drop_succ_cons,List.drop_zero,List.take_succ_cons,List.take_zero] at t4
  simp only [show Tryz.prog.cellsOf 37 = 6 from by kernel_rfl,List.drop_succ_cons,List.drop_zero,List.take_succ_cons,List.take_zero] at t5
  obtain ⟨x0,e0,_,r0⟩ := DataW.trod_int Tryz.underlying3 t0; injection e0 with e0 _; subst e0; obtain ⟨x1,e1,_,r1⟩ := DataW.trod_int Tryz.underlying3 t1; injection e1 with e1 _; subst e1; obtain ⟨x2,z2,e2,r2,s2⟩ := ref_open fuel _ y2 t2 w2; injection e2 with e2 q2; injection q2 with q2 _; subst e2 q2; obtain ⟨x3,e3,_,r3⟩ := DataW.trod_int Tryz.underlying3 t3; injection e3 with e3 _; subst e3; obtain ⟨v4,e4,hv4⟩ := val_open fuel _ y4 t4 w4; unfold Val.cells at e4; injection e4 with f40 e4; injection e4 with f41 e4; injection e4 with f42 e4; injection e4 with f43 e4; injection e4 with f44 e4; injection e4 with f45 e4; subst f40 f41 f42 f43 f44 f45; obtain ⟨v5,e5,hv5⟩ := val_open fuel _ y5 t5 w5; unfold Val.cells at e5; injection e5 with f50 e5; injection e5 with f51 e5; injection e5 with f52 e5; injection e5 with f53 e5; injection e5 with f54 e5; injection e5 with f55 e5; subst f50 f51 f52 f53 f54 f55; refine ⟨⟨x0,x1,x2,z2,x3,v4,v5⟩,rfl,fun x hx => ?_,hv4,hv5⟩
  simp only [Cm.ints,List.mem_cons,List.not_mem_nil,or_false] at hx
  rcases hx with rfl | rfl | rfl | rfl | rfl
  ·exact i64_wf r0
  ·exact i64_wf r1
  ·exact r2
  ·exact s2
  ·exact i64_wf r3
theorem op_open (fuel : Nat) (cs : List Value) (x : DataW H × List MemPlace) (h : DataW.trod enc Tryz.prog W 0 (fun _ => true) true fuel 41 cs = some x) (hw : Fits 41 x.1) : ∃ v : JOp, cs = v.cells /\ v.In W := by
 cases fuel with
 | zero => simp [DataW.trod] at h
 | succ fuel =>
  obtain ⟨ys,n,hn,rfl,hl,hyl,hfs⟩ := DataW.trod_struct Tryz.underlying41 h; have hnf : n = fuel := by omega
  rw [hnf] at hfs; rw [show Tryz.prog.cellsOf 41 = 20 from by kernel_rfl] at hl
  obtain ⟨c0, c1, c2, c3, c4, c5, c6, c7, c8, c9, c10, c11, c12, c13, c14, c15, c16, c17, c18, c19, rfl⟩ : ∃ c0 c1 c2 c3 c4 c5 c6 c7 c8 c9 c10 c11 c12 c13 c14 c15 c16 c17 c18 c19, cs = [c0, c1, c2, c3, c4, c5, c6, c7, c8, c9, c10, c11, c12, c13, c14, c15, c16, c17, c18, c19] := by
   match cs,hl with
   | [c0,c1,c2,c3,c4,c5,c6,c7,c8,c9,c10,c11,c12,c13,c14,c15,c16,c17,c18,c19],_ => exact ⟨c0,c1,c2,c3,c4,c5,c6,c7,c8,c9,c10,c11,c12,c13,c14,c15,c16,c17,c18,c19,rfl⟩
  have hget : ∀ i,i < 4 -> ∃ y,ys[i]? = some y := fun i hi => ⟨ys[i]'(by rw [hyl]; exact hi),List.getElem?_eq_getElem _⟩
  obtain ⟨y0,g0⟩ := hget 0 (by omega)
  obtain ⟨y1,g1⟩ := hget 1 (by omega)
  obtain ⟨y2,g2⟩ := hget 2 (by omega)
  obtain ⟨y3,g3⟩ := hget 3 (by omega)
  have t0 : DataW.trod enc Tryz.prog W 0 (fun _ => true) true fuel 3 (([c0,c1,c2,c3,c4,c5,c6,c7,c8,c9,c10,c11,c12,c13,c14,c15,c16,c17,c18,c19].drop 0).take (Tryz.prog.cellsOf 3)) = some y0 := (hfs 0 _ rfl).trans g0
  have t1 : DataW.trod enc Tryz.prog W 0 (fun _ => true) true fuel 3 (([c0,c1,c2,c3,c4,c5,c6,c7,c8,c9,c10,c11,c12,c13,c14,c15,c16,c17,c18,c19].drop 1).take (Tryz.prog.cellsOf 3)) = some y1 := (hfs 1 _ rfl).trans g1
  have t2 : DataW.trod enc Tryz.prog W 0 (fun _ => true) true fuel 3 (([c0,c1,c2,c3,c4,c5,c6,c7,c8,c9,c10,c11,c12,c13,c14,c15,c16,c17,c18,c19].drop 2).take (Tryz.prog.cellsOf 3)) = some y2 := (hfs 2 _ rfl).trans g2
  have t3 : DataW.trod enc Tryz.prog W 0 (fun _ => true) true fuel 39 (([c0,c1,c2,c3,c4,c5,c6,c7,c8,c9,c10,c11,c12,c13,c14,c15,c16,c17,c18,c19].drop 3).take (Tryz.prog.cellsOf 39)) = some y3 := (hfs 3 _ rfl).trans g3
  have hp : ∀ (j : Nat) (u : TypeId) (y : DataW H × List MemPlace),_ -> ys[j]? = some y -> Fits u y.1 := fun j u y h1 h2 => parts_mem Tryz.underlying41 (j := j) h1 (by rw [List.getElem?_map,h2]; rfl) hw
  have w3 : Fits 39 y3.1 := hp 3 39 y3 rfl g3; simp only [show Tryz.prog.cellsOf 3 = 1 from by kernel_rfl,List.drop_succ_cons,List.drop_zero,List.take_succ_cons,List.take_zero] at t0
  simp only [show Tryz.prog.cellsOf 3 = 1 from by kernel_rfl,List.drop_succ_cons,List.drop_zero,List.take_succ_cons,List.take_zero] at t1
  simp only [show Tryz.prog.cellsOf 3 = 1 from by kernel_rfl,List.drop_succ_cons,List.drop_zero,List.take_succ_cons,List.take_zero] at t2
  simp only [show Tryz.prog.cellsOf 39 = 17 from by kernel_rfl,List.drop_succ_cons,List.drop_zero,List.take_succ_cons,List.take_zero] at t3
  obtain ⟨x0,e0,_,r0⟩ := DataW.trod_int Tryz.underlying3 t0; injection e0 with e0 _; subst e0; obtain ⟨x1,e1,_,r1⟩ := DataW.trod_int Tryz.underlying3 t1; injection e1 with e1 _; subst e1; obtain ⟨x2,e2,_,r2⟩ := DataW.trod_int Tryz.underlying3 t2; injection e2 with e2 _; subst e2; obtain ⟨k3,e3,hc3⟩ := cmd_open fuel _ y3 t3 w3; unfold Cm.cells Val.cells at e3; simp only [List.cons_append,List.nil_append] at e3; injection e3 with f3x0 e3; injection e3 with f3x1 e3; injection e3 with f3x2 e3; injection e3 with f3x3 e3; injection e3 with f3x4 e3; injection e3 with f3x5 e3; injection e3 with f3x6 e3; injection e3 with f3x7 e3; injection e3 with f3x8 e3; injection e3 with f3x9 e3; injection e3 with f3x10 e3; injection e3 with f3x11 e3; injection e3 with f3x12 e3; injection e3 with f3x13 e3; injection e3 with f3x14 e3; injection e3 with f3x15 e3; injection e3 with f3x16 e3; subst f3x0 f3x1 f3x2 f3x3 f3x4 f3x5 f3x6 f3x7 f3x8 f3x9 f3x10 f3x11 f3x12 f3x13 f3x14 f3x15 f3x16; exact ⟨⟨x0,x1,x2,k3⟩,rfl,i64_wf r0,i64_wf r1,i64_wf r2,hc3⟩
theorem ops_open {fuel : Nat} {cs : List Value} {x : DataW H × List MemPlace} (h : DataW.trod enc Tryz.prog W 0 (fun _ => true) true fuel 22 cs = some x) (hw : Fits 22 x.1) :
  ∃ (vs : List JOp) (p : Option Addr) (c : Nat),cs = [.slice p vs.length c] /\ OpsIn W p c vs := by
 rcases DataW.trod_slice Tryz.underlying22 h with ⟨e5,_⟩ | ⟨a,len,cap,elems,rest,n',hn',e5,hx5,hb5,hlc,hcm,hel,hi,hsp,_⟩
 ·exact ⟨[],none, 0,by rw [e5]; rfl,⟨by simp,by simp,fun i hi => by simp at hi⟩⟩
 ·rw [e5]
  obtain ⟨hrl,hrj⟩ := hsp rfl
  have hbytes : cap * 240 <= 140737488351232 := by
   refine hw _ ?_; rw [hx5]; have hbo : Tryz.prog.bytesOf 41 = 240 := by kernel_rfl
   simp only [DataW.weights,Tryz.underlying22,List.length_map,hbo,List.mem_cons]
   left
   rw [hel,hrl]
   omega
  have hcell : ∀ i, i < cap -> ∃ cs', W.cells? 0 (a.add (i * 20)) 20 = some cs' := fun i hic => by
   rcases Nat.lt_or_ge i len with h' | h'
   ·have := hi i h'
    rw [List.getElem?_eq_getElem (by omega)] at this
    obtain ⟨cs',h1,h2⟩ := Option.bind_eq_some_iff.1 this; rw [show Tryz.prog.cellsOf 41 = 20 from by kernel_rfl] at h1
    exact ⟨cs',h1⟩
   ·have := hrj (i - len) (by omega)
    rw [List.getElem?_eq_getElem (by omega)] at this
    obtain ⟨cs',h1,h2⟩ := Option.bind_eq_some_iff.1 this; rw [show Tryz.prog.cellsOf 41 = 20 from by kernel_rfl,show len + (i - len) = i by omega] at h1
    exact ⟨cs',h1⟩
  have hv' : ∀ i, i < len -> ∃ v : JOp, W.cells? 0 (a.add (i * 20)) 20 = some v.cells /\ v.In W := fun i hil => by
   have := hi i hil; rw [List.getElem?_eq_getElem (by omega)] at this
   obtain ⟨cs',h1,h2⟩ := Option.bind_eq_some_iff.1 this; rw [show Tryz.prog.cellsOf 41 = 20 from by kernel_rfl] at h1
   obtain ⟨v, rfl, hvi⟩ := op_open n' cs' (elems[i]'(by omega)) (h2) (fun y hy => hw y (by
    rw [hx5]; simp only [DataW.weights,Tryz.underlying22,List.mem_cons,List.mem_append]
    right; left
    exact weightsAll_mem (List.mem_map.2 ⟨_,List.getElem_mem _,rfl⟩) hy))
   exact ⟨v,h1,hvi⟩
  obtain ⟨xs,hxl,hxs⟩ := exists_list len hv'; refine ⟨xs,some a,cap,by rw [hxl],⟨by omega,by omega,fun i hi' => ?_⟩⟩
  obtain ⟨cs',hc'⟩ := hcell i (by omega)
  have h00 := (World.cells?_some (hxs 0 (by omega)).1).2.2 0 (by omega)
  have ha0 : (a.add (0 * 20)).add 0 = a := by simp [Addr.add]
  rw [ha0] at h00; have h01 : W.cell? a = some (.int .i64 (xs[0]'(by omega)).kind) := h00
  have hspot := cell_spot h01; have hlt := cell_lt h01; refine ⟨a.block,a.off,by rw [<- hspot],fun j hj => ?_,hlt, (hxs i hi').2⟩
  obtain ⟨_,_,hat⟩ := World.cells?_some (hxs i hi').1; have := hat j hj; rw [Go.Deep.add_add,hspot,Addr.add_lit] at this; rw [Nat.add_assoc]; exact this
theorem arg_jops {v : Value} {base : Nat} (hk : Value.okWide Tryz.prog W .any base 22 v) {d : DataW H} {p : List MemPlace} (h : DataW.Trod enc Tryz.prog W 0 (fun _ => true) true 22 v d p)
  {ts : List TypeId} {ds : List (DataW H)} (j : Nat) (hsz : (DataW.weightsEach Tryz.prog ts ds).all (· <= reachBytes) = true) (ht : ts[j]? = some 22) (hd : ds[j]? = some d) :
  ∃ (vs : List JOp) (p : Option Addr) (c : Nat),v = .slice p vs.length c /\ OpsIn W p c vs := by
 obtain ⟨o,l,c,rfl⟩ := okWide_slice Tryz.underlying22 hk; obtain ⟨fuel,hf⟩ := h
 obtain ⟨vs, p, c', he, hu⟩ := ops_open hf (fun y hy => by
  have := List.all_eq_true.1 hsz y (weightsEach_mem ht hd hy); exact of_decide_eq_true this)
 simp only [Value.cells] at he; injection he with he _; exact ⟨vs,p,c',he,hu⟩
end
end Go.Proofs.YtaamihdibpioaaaGreat
