/- Values that came in, opened as trees. -/
import Derived.Test.YtaamihdibpioaaaGreatJpM9
import Derived.Test.YtaamihdibpioaaaGreatJpM26
set_option maxRecDepth 100000
set_option maxHeartbeats 40000000
namespace Go.Proofs.YtaamihdibpioaaaGreat
open Go.RowKit Go.ChangeShapes Go.WideShapes Go.Deep
section
variable {H : Type} {enc : TypeId × Value -> H} {P : Program} {w : World} {base fuel : Nat} {spare : Nat -> Bool} {held : Bool} {t : TypeId} {cs : List Value} {x : DataW H × List MemPlace}
theorem trod_float {k : FloatKind} (ht : P.underlying t = some (.float k)) (h : DataW.trod enc P w base spare held fuel t cs = some x) : ∃ b, cs = [.float k b] /\ x = (.lit (.float k b), []) /\ (Lit.float k b).wf = true := by
 cases fuel with
 | zero => simp [DataW.trod] at h
 | succ n =>
  unfold DataW.trod at h; rw [ht] at h
  cases cs with
  | nil => simp at h
  | cons c rest =>
   cases rest with
   | cons _ _ => simp at h
   | nil =>
    cases c with
    | float k' b =>
     simp only [] at h
     split at h
     ·rename_i hk
      injection h with h; obtain ⟨rfl,hw⟩ := hk; exact ⟨b,rfl,h.symm,hw⟩
     ·cases h
    | _ => simp at h
end
theorem i64_wf {a : Int} (h : (Lit.int .i64 a).wf = true) : i64r a := by
 have h2 : IntKind.i64.min <= a /\ a <= IntKind.i64.max := by simpa [Lit.wf] using h
 have h3 : IntKind.i64.max = 9223372036854775807 := by decide
 have h4 : IntKind.i64.min = -9223372036854775808 := by decide
 unfold i64r
 omega
theorem f64_wf {b : Nat} (h : (Lit.float .f64 b).wf = true) : b < 18446744073709551616 := by
 have h2 : b < 2 ^ 64 := by simpa [Lit.wf] using h
 omega
section
variable {H : Type} {enc : TypeId × Value -> H} {W : World}
def Fits (t : TypeId) (d : DataW H) : Prop := ∀ y,y ∈ DataW.weights Tryz.prog t d -> y <= 140737488351232
theorem names_open {fuel : Nat} {cs : List Value} {x : DataW H × List MemPlace} (h : DataW.trod enc Tryz.prog W 0 (fun _ => true) true fuel 34 cs = some x) (hw : Fits 34 x.1) :
  ∃ (a : Sl) (ns : List ByteArray),cs = [a.val ns.length] /\ ns.length <= 8796093021952 /\ (∀ s,s ∈ ns -> strok s) /\ a.lies W 1 ns.length (fun i => [.string (ns.getD i ByteArray.empty)]) := by
 rcases open_slice1 Tryz.underlying34 (by kernel_rfl) h with ⟨rfl,rfl⟩ | ⟨a,len,cap,m,n,V,D,Pl,rfl,hb,hl,hm,hmm,hx,hi⟩
 ·exact ⟨.no, [],rfl,by simp,by simp,rfl⟩
 ·simp only [if_true] at hmm
  subst hmm
  have hbytes : m * 16 <= 140737488351232 := by
   refine hw _ ?_; rw [hx]; have hbo : Tryz.prog.bytesOf 9 = 16 := by kernel_rfl
   simp only [DataW.weights,Tryz.underlying34,List.length_map,List.length_range,hbo,List.mem_cons]
   left
   omega
  have hs : ∀ i, i < len -> ∃ s : ByteArray, V i = .string s /\ strok s := fun i hi' => by
   obtain ⟨s,e,ex,_⟩ := DataW.trod_string Tryz.underlying9 (hi i (by omega)).2
   injection e with e _; refine ⟨s,e,?_⟩
   have hq : s.data.toList.length <= 140737488351232 := by
    refine hw _ ?_; rw [hx]; simp only [DataW.weights,Tryz.underlying34,List.mem_cons,List.mem_append]
    right
    left
    refine weightsAll_mem (d := D i) (List.mem_map.2 ⟨i,by simpa using hi',rfl⟩) ?_
    injection ex with ex _; rw [ex]
    simp [DataW.weights]
   unfold strok; have : s.size = s.data.toList.length := Array.length_toList.symm
   omega
  obtain ⟨ns,hnl,hns⟩ := exists_list len hs
  rcases Nat.eq_zero_or_pos m with h0 | h0
  ·subst h0
   have hz : len = 0 := by omega
   subst hz; refine ⟨.odd a, [],rfl,by simp,by simp,rfl⟩
  ·have hsp := cell_spot (hi 0 h0).1
   have ha0 : a.add 0 = a := rfl; rw [ha0] at hsp; have hlt := cell_lt (hi 0 h0).1; rw [ha0] at hlt; rw [hsp]; refine ⟨.at_ a.block a.off m,ns,by rw [hnl]; rfl,by omega,fun s hs' => ?_,by omega,by unfold maxLen at hm; exact hm,fun i hi' j hj => ⟨?_,hlt⟩⟩
   ·obtain ⟨i, hi', rfl⟩ := List.getElem_of_mem hs'
    exact (hns i hi').2
   ·obtain rfl : j = 0 := by omega
    have hc := (hi i (by omega)).1
    rw [hsp,Addr.add_lit] at hc; have e : i * 1 + 0 = i := by omega
    rw [e,hc, (hns i hi').1]
    simp [hi']
theorem parts_mem {fs : Array Field} {t : TypeId} (hf : Tryz.prog.underlying t = some (.struct fs)) {parts : List (DataW H)} {j : Nat} {u : TypeId} {d : DataW H} (h1 : (fs.toList.map (·.type))[j]? = some u) (h2 : parts[j]? = some d) (hw : Fits t (.agg parts)) : Fits u d := fun y hy => by
 refine hw y ?_; simp only [DataW.weights,hf]; exact weightsEach_mem h1 h2 hy
theorem val_open : ∀ (fuel : Nat) (cs : List Value) (x : DataW H × List MemPlace), DataW.trod enc Tryz.prog W 0 (fun _ => true) true fuel 37 cs = some x -> Fits 37 x.1 -> ∃ v : Val, cs = v.cells /\ v.In W
 | 0,cs,x,h,_ => by simp [DataW.trod] at h
 | fuel + 1, cs, x, h, hw => by
  obtain ⟨ys,n,hn,rfl,hl,hyl,hfs⟩ := DataW.trod_struct Tryz.underlying37 h; have hnf : n = fuel := by omega
  rw [hnf] at hfs; rw [show Tryz.prog.cellsOf 37 = 6 from by kernel_rfl] at hl
  obtain ⟨c0, c1, c2, c3, c4, c5, rfl⟩ : ∃ c0 c1 c2 c3 c4 c5, cs = [c0, c1, c2, c3, c4, c5] := by
   match cs,hl with
   | [c0,c1,c2,c3,c4,c5],_ => exact ⟨c0,c1,c2,c3,c4,c5,rfl⟩
  have hget : ∀ i,i < 6 -> ∃ y,ys[i]? = some y := fun i hi => ⟨ys[i]'(by rw [hyl]; exact hi),List.getElem?_eq_getElem _⟩
  obtain ⟨y0,g0⟩ := hget 0 (by omega); obtain ⟨y1,g1⟩ := hget 1 (by omega); obtain ⟨y2,g2⟩ := hget 2 (by omega)
  obtain ⟨y3,g3⟩ := hget 3 (by omega); obtain ⟨y4,g4⟩ := hget 4 (by omega); obtain ⟨y5,g5⟩ := hget 5 (by omega)
  have t0 : DataW.trod enc Tryz.prog W 0 (fun _ => true) true fuel 3 (([c0,c1,c2,c3,c4,c5].drop 0).take (Tryz.prog.cellsOf 3)) = some y0 := (hfs 0 _ rfl).trans g0
  have t1 : DataW.trod enc Tryz.prog W 0 (fun _ => true) true fuel 2 (([c0,c1,c2,c3,c4,c5].drop 1).take (Tryz.prog.cellsOf 2)) = some y1 := (hfs 1 _ rfl).trans g1
  have t2 : DataW.trod enc Tryz.prog W 0 (fun _ => true) true fuel 33 (([c0,c1,c2,c3,c4,c5].drop 2).take (Tryz.prog.cellsOf 33)) = some y2 := (hfs 2 _ rfl).trans g2
  have t3 : DataW.trod enc Tryz.prog W 0 (fun _ => true) true fuel 9 (([c0,c1,c2,c3,c4,c5].drop 3).take (Tryz.prog.cellsOf 9)) = some y3 := (hfs 3 _ rfl).trans g3
  have t4 : DataW.trod enc Tryz.prog W 0 (fun _ => true) true fuel 34 (([c0,c1,c2,c3,c4,c5].drop 4).take (Tryz.prog.cellsOf 34)) = some y4 := (hfs 4 _ rfl).trans g4
  have t5 : DataW.trod enc Tryz.prog W 0 (fun _ => true) true fuel 35 (([c0,c1,c2,c3,c4,c5].drop 5).take (Tryz.prog.cellsOf 35)) = some y5 := (hfs 5 _ rfl).trans g5
  have hp : ∀ (j : Nat) (u : TypeId) (y : DataW H × List MemPlace),_ -> ys[j]? = some y -> Fits u y.1 := fun j u y h1 h2 => parts_mem Tryz.underlying37 (j := j) h1 (by rw [List.getElem?_map,h2]; rfl) hw
  have w3 : Fits 9 y3.1 := hp 3 9 y3 rfl g3; have w4 : Fits 34 y4.1 := hp 4 34 y4 rfl g4; have w5 : Fits 35 y5.1 := hp 5 35 y5 rfl g5; simp only [show Tryz.prog.cellsOf 3 = 1 from by kernel_rfl,List.drop_zero,List.take_succ_cons,List.take_zero] at t0
  simp only [show Tryz.prog.cellsOf 2 = 1 from by kernel_rfl,List.drop_succ_cons,List.drop_zero,List.take_succ_cons,List.take_zero] at t1
  simp only [show Tryz.prog.cellsOf 33 = 1 from by kernel_rfl,List.drop_succ_cons,List.drop_zero,List.take_succ_cons,List.take_zero] at t2
  simp only [show Tryz.prog.cellsOf 9 = 1 from by kernel_rfl,List.drop_succ_cons,List.drop_zero,List.take_succ_cons,List.take_zero] at t3
  simp only [show Tryz.prog.cellsOf 34 = 1 from by kernel_rfl,List.drop_succ_cons,List.drop_zero,List.take_succ_cons,List.take_zero] at t4
  simp only [show Tryz.prog.cellsOf 35 = 1 from by kernel_rfl,List.drop_succ_cons,List.drop_zero,List.take_succ_cons,List.take_zero] at t5
  obtain ⟨x0,e0,_,r0⟩ := DataW.trod_int Tryz.underlying3 t0; obtain ⟨x1,e1,_,r1⟩ := DataW.trod_int Tryz.underlying2 t1; obtain ⟨x2,e2,_,r2⟩ := trod_float Tryz.underlying33 t2; obtain ⟨x3,e3,d3,_⟩ := DataW.trod_string Tryz.underlying9 t3; obtain ⟨na,ns,e4,q1,q2,q3⟩ := names_open t4 w4; injection e0 with e0 _; injection e1 with e1 _; injection e2 with e2 _; injection e3 with e3 _; injection e4 with e4 _; subst e0 e1 e2 e3 e4
  have hs3 : strok x3 := by
   have : x3.data.toList.length <= 140737488351232 := w3 _ (by rw [d3]; simp [DataW.weights])
   unfold strok; have e : x3.size = x3.data.toList.length := Array.length_toList.symm
   omega
  have hin : ∀ (xa : Sl) (xs : List Val), c5 = xa.val xs.length -> xs.length <= 1599289640354 -> xa.lies W 6 xs.length (fun i => (xs.getD i Val.zero).cells) -> (∀ y, y ∈ xs -> y.In W) ->
    ∃ v : Val, [.int .i64 x0, .int .i64 x1, .float .f64 x2, .string x3,na.val ns.length,c5] = v.cells /\ v.In W := fun xa xs h1 h2 h3 h4 =>
   ⟨.mk x0 x1 x2 x3 na ns xa xs,by rw [h1]; rfl, (Val.in_iff W _).2 ⟨⟨i64_wf r0,i64_wf r1,f64_wf r2,hs3,q1,h2,q2⟩,q3,h3,h4⟩⟩
  rcases DataW.trod_slice Tryz.underlying35 t5 with ⟨e5,_⟩ | ⟨a,len,cap,elems,rest,n',hn',e5,hx5,hb5,hlc,hcm,hel,hi,hsp,_⟩
  ·injection e5 with e5 _
   exact hin .no [] e5 (by simp) rfl (fun y hy => by simp at hy)
  ·injection e5 with e5 _
   obtain ⟨hrl,hrj⟩ := hsp rfl
   have hbytes : cap * 88 <= 140737488351232 := by
    refine w5 _ ?_; rw [hx5]; have hbo : Tryz.prog.bytesOf 37 = 88 := by kernel_rfl
    simp only [DataW.weights,Tryz.underlying35,List.length_map,hbo,List.mem_cons]
    left
    rw [hel,hrl]
    omega
   have hcell : ∀ i, i < cap -> ∃ cs', W.cells? 0 (a.add (i * 6)) 6 = some cs' := fun i hic => by
    rcases Nat.lt_or_ge i len with h' | h'
    ·have := hi i h'
     rw [List.getElem?_eq_getElem (by omega)] at this
     obtain ⟨cs',h1,h2⟩ := Option.bind_eq_some_iff.1 this; rw [show Tryz.prog.cellsOf 37 = 6 from by kernel_rfl] at h1
     exact ⟨cs',h1⟩
    ·have := hrj (i - len) (by omega)
     rw [List.getElem?_eq_getElem (by omega)] at this
     obtain ⟨cs',h1,h2⟩ := Option.bind_eq_some_iff.1 this; rw [show Tryz.prog.cellsOf 37 = 6 from by kernel_rfl,show len + (i - len) = i by omega] at h1
     exact ⟨cs',h1⟩
   have hv : ∀ i, i < len -> ∃ v : Val, W.cells? 0 (a.add (i * 6)) 6 = some v.cells /\ v.In W := fun i hil => by
    have := hi i hil; rw [List.getElem?_eq_getElem (by omega)] at this
    obtain ⟨cs',h1,h2⟩ := Option.bind_eq_some_iff.1 this; rw [show Tryz.prog.cellsOf 37 = 6 from by kernel_rfl] at h1
    obtain ⟨v, rfl, hvi⟩ := val_open fuel cs' (elems[i]'(by omega)) (DataW.trod_le (by omega) h2) (fun y hy => w5 y (by
     rw [hx5]; simp only [DataW.weights,Tryz.underlying35,List.mem_cons,List.mem_append]
     right; left
     exact weightsAll_mem (List.mem_map.2 ⟨_,List.getElem_mem _,rfl⟩) hy))
    exact ⟨v,h1,hvi⟩
   obtain ⟨xs,hxl,hxs⟩ := exists_list len hv
   rcases Nat.eq_zero_or_pos cap with h0 | h0
   ·obtain rfl : cap = 0 := h0
    obtain rfl : len = 0 := by omega
    exact hin (.odd a) [] e5 (by simp) rfl (fun y hy => by simp at hy)
   ·obtain ⟨cs', hc'⟩ := hcell 0 h0
    obtain ⟨_,hcl,hat⟩ := World.cells?_some hc'; have h00 := hat 0 (by omega)
    rw [List.getElem?_eq_getElem (by omega)] at h00
    have ha0 : (a.add (0 * 6)).add 0 = a := by simp [Addr.add]
    rw [ha0] at h00; have hspot := cell_spot h00; have hlt := cell_lt h00; refine hin (.at_ a.block a.off cap) xs (by rw [e5,hxl]; show Value.slice (some a) len cap = _; rw [Sl.val, <- hspot]) (by omega) ⟨by omega,by unfold maxLen at hcm; exact hcm,fun i hi' j hj => ⟨?_,hlt⟩⟩ (fun y hy => ?_)
    ·obtain ⟨_, _, hat⟩ := World.cells?_some (hxs i hi').1
     have := hat j hj; rw [Go.Deep.add_add,hspot,Addr.add_lit] at this; rw [this]
     simp [hi']
    ·obtain ⟨i, hi', rfl⟩ := List.getElem_of_mem hy
     exact (hxs i hi').2
end
end Go.Proofs.YtaamihdibpioaaaGreat
