/- codec.ReadValue and codec.ReadType at any bytes, from any place on (printed by wip/gen_rdf.py). -/
import Derived.Test.YtaamihdibpioaaaGreatJpM5
import Derived.Test.YtaamihdibpioaaaGreatJpM24
import Derived.Test.YtaamihdibpioaaaGreatJpM29
import Derived.LoopTactic
set_option maxRecDepth 100000
set_option maxHeartbeats 40000000
namespace Go.Proofs.YtaamihdibpioaaaGreat
open Go.RowKit
theorem only_cell {W W' : World} {g b : Nat} (h : Only W W' g) (hb : b ≠ g) (hlt : b < W.heap.size) (o : Nat) : W'.cell? ⟨b, o, none⟩ = W.cell? ⟨b, o, none⟩ :=
 World.cell?_of_block (a := ⟨b,o,none⟩) (h.block b hlt (by simp; exact hb))
theorem below_only {w w1 w2 : World} {g : Nat} (h : Only w w1 g) (k : Below w1.heap.size w1 w2) : Only w w2 g := h.trans (Only.of_below k g)
theorem enter_val (args : Array Value) (W : World) : (callFunc 152 args).run Tryz.prog W = .ok (.enter 152 args) W := run_enter Tryz.func152 (by kernel_rfl) rfl args W
def readV (s : ByteArray) (p : Nat) : Except Int (Val × Nat) :=
 match rdV s 12 p 0 with
 | .error k => .error k
 | .ok (v,q,_) => bif v.RightB then .ok (v,q) else .error 5
theorem readV_lt {s : ByteArray} {p q : Nat} {v : Val} (hp : p <= s.size) (h : readV s p = .ok (v, q)) : p < q /\ q <= s.size /\ v.RightB = true := by
 unfold readV at h
 cases hu : rdV s 12 p 0 with
 | error k => rw [hu] at h; cases h
 | ok x =>
  obtain ⟨v',q',m'⟩ := x; have := rdV_lt s 12 p 0 v' q' m' hp (by omega) hu
  rw [hu] at h; simp only at h
  cases hr : v'.RightB with
  | false => rw [hr] at h; cases h
  | true =>
   rw [hr] at h; simp only [cond_true,Except.ok.injEq,Prod.mk.injEq] at h; obtain ⟨rfl,rfl⟩ := h; exact ⟨this.1,this.2.1,hr⟩
def ValAt (W : World) (m B : Nat) (v : Val) : Prop := ∃ u : Val,Blk W m 37 u.cells.toArray /\ u.erase = v /\ u.In W /\ u.Sep (fun b => B <= b)
theorem ValAt.apart {m b : Nat} {v : Val} (h : m < b) : Apart2 b (fun W => ValAt W m (b + 2) v) := fun W p x hp ⟨u, h1, h2, h3, h4⟩ =>
 ⟨u,Blk.far h1 (by rcases hp with h' | h' <;> omega) x,h2,h3.carryS h4 (fun c o hc hlt => World.cell?_setCell_other W p ⟨c,o,none⟩ x (fun e => by subst e; have hc' : b + 2 <= c := hc; have hp' : c = b \/ c = b + 1 := hp; omega)) (by simp [World.setCell]),h4⟩
theorem clo_val_no (s : ByteArray) (p g m : Nat) (k : Int) (w : World) (Q : World -> Prop) (hs : s.size <= 100000) (hp : p <= s.size) (h : At w g s p 0) (hm : Blk w m 37 #[.int .i64 0, .int .i64 0, .float .f64 0, .string ⟨#[]⟩, .slice none 0 0, .slice none 0 0]) (hgm : g ≠ m) (hu : rdV s 12 p 0 = .error k) :
  Calls Tryz.prog 152 #[.pointer (some ⟨g, 0,none⟩), .pointer (some ⟨m, 0,none⟩)] w fun e w' => CloDid (.error k) s g m Q (fun W => Blk W m 37 #[.int .i64 0, .int .i64 0, .float .f64 0, .string ⟨#[]⟩, .slice none 0 0, .slice none 0 0]) w e w' := by
 have hr := rvalue_any s hs 12 1 p 0 g w (by omega) hp (by omega) h
 rw [hu] at hr; have HR := gh hr; have HM := gh hm; clear hr hu h hm
 go_enter Tryz.func152,Tryz.ntmps152
 go_wp2_with fail
 refine HR.o.mono ?_; rintro e w2 ⟨ho2,rfl⟩; have HO := gh ho2; clear ho2; unfold gives
 go_wp2
 exact ⟨rfl,w2,HO.o,Only.refl w2 m,rfl,HM.o.grown HO.o (by simp; omega)⟩
theorem clo_val_bad (s : ByteArray) (p g m q n : Nat) (v : Val) (w : World) (Q : World -> Prop) (hs : s.size <= 100000) (hp : p <= s.size) (h : At w g s p 0) (hm : Blk w m 37 #[.int .i64 0, .int .i64 0, .float .f64 0, .string ⟨#[]⟩, .slice none 0 0, .slice none 0 0]) (hgm : g ≠ m) (hu : rdV s 12 p 0 = .ok (v, q, n)) (hv : v.RightB = false) :
  Calls Tryz.prog 152 #[.pointer (some ⟨g, 0,none⟩), .pointer (some ⟨m, 0,none⟩)] w fun e w' => CloDid (.error 5) s g m Q (fun W => Blk W m 37 #[.int .i64 0, .int .i64 0, .float .f64 0, .string ⟨#[]⟩, .slice none 0 0, .slice none 0 0]) w e w' := by
 have hsf := run_store_flt; have hr := rvalue_any s hs 12 1 p 0 g w (by omega) hp (by omega) h
 rw [hu] at hr; have HR := gh hr; have HM := gh hm; have HV := gh hv; clear hr hu h hm hv
 go_enter Tryz.func152,Tryz.ntmps152
 go_wp2_with fail
 refine HR.o.mono ?_; rintro e w1 ⟨ho1,u,rfl,hue,hui,hus,ha1⟩; obtain ⟨a4,b4,k4⟩ := hui.nslice; obtain ⟨a5,b5,k5⟩ := hui.xslice; have hb1 := PVal.new w1 u 37 hui; have hri := rightf_any u (w1.alloc (.cells u.cells.toArray 37)) hb1.in; rw [show u.RightB = false from by rw [<- Val.RightB_erase,hue]; exact HV.o] at hri
 have ho2 := ho1.alloc (.cells u.cells.toArray 37); obtain ⟨W1,hW1⟩ := gXe (w1.alloc (.cells u.cells.toArray 37)); rw [<- hW1] at hri ho2; unfold Val.cells at hW1; unfold Val.agg at hri ⊢; rw [k4,k5] at hri hW1 ⊢; have HRI := gh hri; have HO2 := gh ho2; have HW1 := gh hW1; have HM2 := gh (HM.o.grown ho2 (by simp; omega))
 clear hri ho2 hW1 hb1 ho1 hui hus ha1 hue k4 k5 HM HR
 go_upto_region 1 with fail
 rw [<- HW1.o]; have hb := Blk.new w1 37 #[.int .i64 u.k, .int .i64 u.n, .float .f64 u.f, .string u.s, .slice a4 u.ns.length b4, .slice a5 u.xs.length b5]; rw [<- HW1.o] at hb; have bb0 := hb.cell 0; have bb1 := hb.cell 1; have bb2 := hb.cell 2; have bb3 := hb.cell 3; have bb4 := hb.cell 4; have bb5 := hb.cell 5; simp only [gX0,gX1,gX2] at bb0 bb1 bb2 bb3 bb4 bb5; clear hb
 go_wp2_with fail
 refine HRI.o.mono ?_; rintro e w2 ⟨rfl,hb2⟩; have HO3 := gh (below_only HO2.o hb2); have HM3 := gh (HM2.o.below hb2 HM2.o.lt); clear hb2
 go_wp2_with fail
 refine (must_false _ _ _ rfl).mono ?_; rintro e w3 ⟨rfl,rfl⟩
 go_wp2
 exact ⟨rfl,w2,HO3.o,Only.refl w2 m,rfl,HM3.o⟩
theorem clo_val_ok (s : ByteArray) (p g m q n B : Nat) (v : Val) (w : World) (Z : World -> Prop) (hs : s.size <= 100000) (hp : p <= s.size) (h : At w g s p 0) (hm : Blk w m 37 #[.int .i64 0, .int .i64 0, .float .f64 0, .string ⟨#[]⟩, .slice none 0 0, .slice none 0 0]) (hgm : g ≠ m) (hB : B + 3 = w.heap.size) (hmB : m < B) (hu : rdV s 12 p 0 = .ok (v, q, n)) (hv : v.RightB = true) :
  Calls Tryz.prog 152 #[.pointer (some ⟨g, 0,none⟩), .pointer (some ⟨m, 0,none⟩)] w fun e w' => CloDid (.ok q) s g m (fun W => ValAt W m (B + 2) v) Z w e w' := by
 have hsf := run_store_flt; have hr := rvalue_any s hs 12 1 p 0 g w (by omega) hp (by omega) h
 rw [hu] at hr; have HR := gh hr; have HM := gh hm; have HV := gh hv; clear hr hu h hm hv
 go_enter Tryz.func152,Tryz.ntmps152
 go_wp2_with fail
 refine HR.o.mono ?_; rintro e w1 ⟨ho1,u,rfl,hue,hui,hus,ha1⟩; obtain ⟨a4,b4,k4⟩ := hui.nslice; obtain ⟨a5,b5,k5⟩ := hui.xslice; have hb1 := PVal.new w1 u 37 hui; have hri := rightf_any u (w1.alloc (.cells u.cells.toArray 37)) hb1.in; rw [show u.RightB = true from by rw [<- Val.RightB_erase,hue]; exact HV.o] at hri
 have ho2 := ho1.alloc (.cells u.cells.toArray 37); obtain ⟨W1,hW1⟩ := gXe (w1.alloc (.cells u.cells.toArray 37)); rw [<- hW1] at hri ho2; have hui1 := hui.below (w' := W1) (by rw [hW1]; exact (Below.refl _ _).alloc (Nat.le_refl _) _)
 have ha2 : At W1 g s q n := by rw [hW1]; exact Blk.alloc ha1 _
 have hub : [.int .i64 u.k, .int .i64 u.n, .float .f64 u.f, .string u.s, .slice a4 u.ns.length b4, .slice a5 u.xs.length b5] = u.cells := by unfold Val.cells; rw [k4,k5]
 unfold Val.cells at hW1; unfold Val.agg at hri ⊢; rw [k4,k5] at hri hW1 ⊢; have HRI := gh hri; have HO2 := gh ho2; have HW1 := gh hW1; have HM2 := gh (HM.o.grown ho2 (by simp; omega)); have HUI := gh hui1; have HUS := gh hus; have HUE := gh hue; have HUB := gh hub
 have HA2 := gh ha2; have hz1 : w.heap.size <= w1.heap.size := ho1.size; clear hri ho2 hW1 hb1 ho1 hui hui1 hus ha1 ha2 hue hub k4 k5 HM HR
 go_upto_region 1 with fail
 rw [<- HW1.o]; have hb := Blk.new w1 37 #[.int .i64 u.k, .int .i64 u.n, .float .f64 u.f, .string u.s, .slice a4 u.ns.length b4, .slice a5 u.xs.length b5]; rw [<- HW1.o] at hb; have HBT := gh hb; have bb0 := hb.cell 0; have bb1 := hb.cell 1; have bb2 := hb.cell 2; have bb3 := hb.cell 3; have bb4 := hb.cell 4; have bb5 := hb.cell 5; simp only [gX0,gX1,gX2] at bb0 bb1 bb2 bb3 bb4 bb5; clear hb
 go_wp2_with fail
 refine HRI.o.mono ?_; rintro e w2 ⟨rfl,hb2⟩; have HO3 := gh (below_only HO2.o hb2); have HM3 := gh (HM2.o.below hb2 HM2.o.lt); have HA3 := gh (HA2.o.below hb2 HA2.o.lt); have HUI3 := gh (HUI.o.below hb2); have HBT3 := gh (HBT.o.below hb2 HBT.o.lt); clear hb2 HRI HO2 HM2 HA2 HUI HBT HW1; clear bb0 bb1 bb2 bb3 bb4 bb5
 go_wp2_with fail
 refine (must_true _ _ _ rfl).mono ?_; rintro e w3 ⟨rfl,rfl⟩; have hb := HBT3.o; have bb0 := hb.cell 0; have bb1 := hb.cell 1; have bb2 := hb.cell 2; have bb3 := hb.cell 3; have bb4 := hb.cell 4; have bb5 := hb.cell 5; simp only [gX0,gX1,gX2] at bb0 bb1 bb2 bb3 bb4 bb5; have hc := HM3.o; have c0 := hc.cell 0; have c1 := hc.cell 1; have c2 := hc.cell 2; have c3 := hc.cell 3; have c4 := hc.cell 4; have c5 := hc.cell 5; have f0 := hc.frozen 0; have f1 := hc.frozen 1; have f2 := hc.frozen 2; have f3 := hc.frozen 3; have f4 := hc.frozen 4; have f5 := hc.frozen 5; simp only [gX0,gX1,gX2] at c0 c1 c2 c3 c4 c5; clear hb hc; obtain ⟨WF,hWF⟩ := gXe (((((((w2.setCell ⟨m, 0,none⟩ (.int .i64 u.k)).setCell ⟨m, 1,none⟩ (.int .i64 u.n)).setCell ⟨m, 2,none⟩ (.float .f64 u.f)).setCell ⟨m, 3,none⟩ (.string u.s)).setCell ⟨m, 4,none⟩ (.slice a4 u.ns.length b4)).setCell ⟨m, 5,none⟩ (.slice a5 u.xs.length b5))); have HWF := gh hWF; clear hWF
 go_wp2_with fail
 rw [<- HWF.o]
 go_end0
 have hst := stored6' HM3.o (.int .i64 u.k) (.int .i64 u.n) (.float .f64 u.f) (.string u.s) (.slice a4 u.ns.length b4) (.slice a5 u.xs.length b5); rw [<- HWF.o] at hst; have hne : g ≠ m := hgm; refine ⟨w2,HO3.o,hst.2,rfl,⟨n,Blk.grown HA3.o hst.2 (by simp; exact hne)⟩,u,?_,HUE.o,?_,HUS.o.mono (fun b hb => by omega)⟩
 ·rw [<- HUB.o]; exact hst.1
 ·exact HUI3.o.carryS (HUS.o.mono (T := fun b => B + 2 <= b) (fun b hb => by omega)) (fun b o hb hlt => only_cell hst.2 (by omega) hlt o) hst.2.size
def ReadVTold (r : Except Int (Val × Nat)) (w : World) (e : Ending) (w' : World) : Prop :=
 Below w.heap.size w w' /\ match r with
  | .ok (v,q) => ∃ u : Val,e = .returned (.tuple #[u.agg, .int .i64 q, .int .i64 0]) /\ u.erase = v /\ u.In w'
  | .error k => e = .returned (.tuple #[Val.zero.agg, .int .i64 0, .int .i64 k])
theorem readval_err (s : ByteArray) (at_ k : Int) (w : World)
  (hr : ∀ W,Below w.heap.size w W -> W.heap.size = w.heap.size + 1 -> Blk W w.heap.size 37 #[.int .i64 0, .int .i64 0, .float .f64 0, .string ⟨#[]⟩, .slice none 0 0, .slice none 0 0] -> Calls Tryz.prog 124 #[.string s, .int .i64 at_, .func (Fn.func 152) #[] #[.pointer (some ⟨w.heap.size, 0,none⟩)]] W fun e w' => e = .returned (.tuple #[.int .i64 0, .int .i64 k]) /\ Only W w' w.heap.size /\ Blk w' w.heap.size 37 #[.int .i64 0, .int .i64 0, .float .f64 0, .string ⟨#[]⟩, .slice none 0 0, .slice none 0 0]) :
  Calls Tryz.prog 127 #[.string s, .int .i64 at_] w fun e w' => ReadVTold (.error k) w e w' := by
 have hmf : ∀ (fn : Fn) (first cap : Array Value) (w : World), (Instr.makeFunc fn first cap).run Tryz.prog w = .ok (.func fn first cap) w := fun _ _ _ _ => rfl
 have hsf := run_store_flt; obtain ⟨W,hW⟩ := gXe (w.alloc (.cells #[.int .i64 0, .int .i64 0, .float .f64 0, .string ⟨#[]⟩, .slice none 0 0, .slice none 0 0] 37)); have bm : Blk W w.heap.size 37 #[.int .i64 0, .int .i64 0, .float .f64 0, .string ⟨#[]⟩, .slice none 0 0, .slice none 0 0] := by rw [hW]; exact Blk.new w 37 _
 have hB : Below w.heap.size w W := by rw [hW]; exact (Below.refl _ _).alloc (Nat.le_refl _) _
 have hr' := hr W hB (by rw [hW]; simp) bm
 have HW := gh hW; have HB := gh hB; have HR := gh hr'; clear hW bm hB hr hr'
 go_enter Tryz.func127,Tryz.ntmps127
 go_wp2_with fail
 rw [<- HW.o]; refine HR.o.mono ?_; rintro e w2 ⟨rfl,ho,hc⟩; have HO := gh ho; have HC := gh hc; have c0 := hc.cell 0; have c1 := hc.cell 1; have c2 := hc.cell 2; have c3 := hc.cell 3; have c4 := hc.cell 4; have c5 := hc.cell 5; have f0 := hc.frozen 0; have f1 := hc.frozen 1; have f2 := hc.frozen 2; have f3 := hc.frozen 3; have f4 := hc.frozen 4; have f5 := hc.frozen 5; simp only [gX0,gX1,gX2] at c0 c1 c2 c3 c4 c5; obtain ⟨WF,hWF⟩ := gXe (((((((w2.setCell ⟨w.heap.size, 0,none⟩ (.int .i64 0)).setCell ⟨w.heap.size, 1,none⟩ (.int .i64 0)).setCell ⟨w.heap.size, 2,none⟩ (.float .f64 0)).setCell ⟨w.heap.size, 3,none⟩ (.string ⟨#[]⟩)).setCell ⟨w.heap.size, 4,none⟩ (.slice none 0 0)).setCell ⟨w.heap.size, 5,none⟩ (.slice none 0 0))); have hst := stored6' HC.o (.int .i64 0) (.int .i64 0) (.float .f64 0) (.string ⟨#[]⟩) (.slice none 0 0) (.slice none 0 0); rw [<- hWF] at hst; have HWF := gh hWF; have HST := gh hst; clear hWF ho hc HR HW hst
 go_wp2_with fail
 rw [<- HWF.o]; clear c0 c1 c2 c3 c4 c5 f0 f1 f2 f3 f4 f5; have hc := HST.o.1; have e0 := hc.cell 0; have e1 := hc.cell 1; have e2 := hc.cell 2; have e3 := hc.cell 3; have e4 := hc.cell 4; have e5 := hc.cell 5; simp only [gX0,gX1,gX2] at e0 e1 e2 e3 e4 e5; clear hc; refine bodyPost_ret (v := .tuple #[.agg #[.int .i64 0, .int .i64 0, .float .f64 0, .string ⟨#[]⟩, .slice none 0 0, .slice none 0 0], .int .i64 0, .int .i64 k]) (by simp [results,Tryz.results127,go_sem,e0,e1,e2,e3,e4,e5]) rfl ?_
 exact ⟨Go.Proofs.YtaamihdibpioaaaGreat.Below.only HB.o (HO.o.trans HST.o.2) (Nat.le_refl _) HB.o.size,rfl⟩
def ReadVSep (r : Except Int (Val × Nat)) (w : World) (e : Ending) (w' : World) : Prop :=
 Below w.heap.size w w' /\ match r with
  | .ok (v,q) => ∃ u : Val,e = .returned (.tuple #[u.agg, .int .i64 q, .int .i64 0]) /\ u.erase = v /\ u.In w' /\ u.Sep (fun b => w.heap.size <= b)
  | .error k => e = .returned (.tuple #[Val.zero.agg, .int .i64 0, .int .i64 k])
theorem ReadVSep.told {r : Except Int (Val × Nat)} {w w' : World} {e : Ending} (h : ReadVSep r w e w') : ReadVTold r w e w' := by
 refine ⟨h.1,?_⟩; have h2 := h.2
 cases r with
 | error k => exact h2
 | ok x =>
  obtain ⟨v,q⟩ := x; obtain ⟨u,h3,h4,h5,_⟩ := h2; exact ⟨u,h3,h4,h5⟩
theorem readval_ok (s : ByteArray) (at_ : Int) (q : Nat) (v : Val) (w : World)
  (hr : ∀ W,Below w.heap.size w W -> W.heap.size = w.heap.size + 1 -> Blk W w.heap.size 37 #[.int .i64 0, .int .i64 0, .float .f64 0, .string ⟨#[]⟩, .slice none 0 0, .slice none 0 0] -> Calls Tryz.prog 124 #[.string s, .int .i64 at_, .func (Fn.func 152) #[] #[.pointer (some ⟨w.heap.size, 0,none⟩)]] W fun e w' => e = .returned (.tuple #[.int .i64 q, .int .i64 0]) /\ Only W w' w.heap.size /\ ValAt w' w.heap.size (w.heap.size + 1 + 2) v) :
  Calls Tryz.prog 127 #[.string s, .int .i64 at_] w fun e w' => ReadVSep (.ok (v,q)) w e w' := by
 have hmf : ∀ (fn : Fn) (first cap : Array Value) (w : World), (Instr.makeFunc fn first cap).run Tryz.prog w = .ok (.func fn first cap) w := fun _ _ _ _ => rfl
 have hsf := run_store_flt; obtain ⟨W,hW⟩ := gXe (w.alloc (.cells #[.int .i64 0, .int .i64 0, .float .f64 0, .string ⟨#[]⟩, .slice none 0 0, .slice none 0 0] 37)); have bm : Blk W w.heap.size 37 #[.int .i64 0, .int .i64 0, .float .f64 0, .string ⟨#[]⟩, .slice none 0 0, .slice none 0 0] := by rw [hW]; exact Blk.new w 37 _
 have hB : Below w.heap.size w W := by rw [hW]; exact (Below.refl _ _).alloc (Nat.le_refl _) _
 have hr' := hr W hB (by rw [hW]; simp) bm
 have HW := gh hW; have HB := gh hB; have HR := gh hr'; clear hW bm hB hr hr'
 go_enter Tryz.func127,Tryz.ntmps127
 go_wp2_with fail
 rw [<- HW.o]; refine HR.o.mono ?_; rintro e w2 ⟨rfl,ho,u,hc,hue,hui,hus⟩; obtain ⟨a4,b4,k4⟩ := hui.nslice; obtain ⟨a5,b5,k5⟩ := hui.xslice; have hc' : Blk w2 w.heap.size 37 #[.int .i64 u.k, .int .i64 u.n, .float .f64 u.f, .string u.s, .slice a4 u.ns.length b4, .slice a5 u.xs.length b5] := by unfold Val.cells at hc; rw [k4,k5] at hc; exact hc
 have hagg : u.agg = .agg #[.int .i64 u.k, .int .i64 u.n, .float .f64 u.f, .string u.s, .slice a4 u.ns.length b4, .slice a5 u.xs.length b5] := by unfold Val.agg; rw [k4,k5]
 have HO := gh ho; have HC := gh hc'; have HUE := gh hue; have HUI := gh hui; have HUS := gh hus; have HAG := gh hagg; clear hc hue hui hus k4 k5 hagg; have hc := hc'; clear hc'; have c0 := hc.cell 0; have c1 := hc.cell 1; have c2 := hc.cell 2; have c3 := hc.cell 3; have c4 := hc.cell 4; have c5 := hc.cell 5; have f0 := hc.frozen 0; have f1 := hc.frozen 1; have f2 := hc.frozen 2; have f3 := hc.frozen 3; have f4 := hc.frozen 4; have f5 := hc.frozen 5; simp only [gX0,gX1,gX2] at c0 c1 c2 c3 c4 c5; obtain ⟨WF,hWF⟩ := gXe (((((((w2.setCell ⟨w.heap.size, 0,none⟩ (.int .i64 u.k)).setCell ⟨w.heap.size, 1,none⟩ (.int .i64 u.n)).setCell ⟨w.heap.size, 2,none⟩ (.float .f64 u.f)).setCell ⟨w.heap.size, 3,none⟩ (.string u.s)).setCell ⟨w.heap.size, 4,none⟩ (.slice a4 u.ns.length b4)).setCell ⟨w.heap.size, 5,none⟩ (.slice a5 u.xs.length b5))); have hst := stored6' HC.o (.int .i64 u.k) (.int .i64 u.n) (.float .f64 u.f) (.string u.s) (.slice a4 u.ns.length b4) (.slice a5 u.xs.length b5); rw [<- hWF] at hst; have HWF := gh hWF; have HST := gh hst; clear hWF ho hc HR HW hst
 go_wp2_with fail
 rw [<- HWF.o]; clear c0 c1 c2 c3 c4 c5 f0 f1 f2 f3 f4 f5; have hc := HST.o.1; have e0 := hc.cell 0; have e1 := hc.cell 1; have e2 := hc.cell 2; have e3 := hc.cell 3; have e4 := hc.cell 4; have e5 := hc.cell 5; simp only [gX0,gX1,gX2] at e0 e1 e2 e3 e4 e5; clear hc; refine bodyPost_ret (v := .tuple #[.agg #[.int .i64 u.k, .int .i64 u.n, .float .f64 u.f, .string u.s, .slice a4 u.ns.length b4, .slice a5 u.xs.length b5], .int .i64 q, .int .i64 0]) (by simp [results,Tryz.results127,go_sem,e0,e1,e2,e3,e4,e5]) rfl ?_
 exact ⟨Go.Proofs.YtaamihdibpioaaaGreat.Below.only HB.o (HO.o.trans HST.o.2) (Nat.le_refl _) HB.o.size,u,by rw [HAG.o],HUE.o,HUI.o.carryS HUS.o (fun b o hb hlt => only_cell HST.o.2 (by omega) hlt o) HST.o.2.size,HUS.o.mono (fun b hb => by have hb' : w.heap.size + 1 + 2 <= b := hb; omega)⟩
def readVAt (s : ByteArray) (a : Int) : Except Int (Val × Nat) := if 0 <= a /\ a <= s.size then readV s a.toNat else .error 3
theorem readval_sep (s : ByteArray) (a : Int) (w : World) (hs : s.size <= 100000) : Calls Tryz.prog 127 #[.string s, .int .i64 a] w fun e w' => ReadVSep (readVAt s a) w e w' := by
 unfold readVAt
 by_cases hin : 0 <= a /\ a <= s.size
 ·rw [if_pos hin]
  obtain ⟨p,rfl⟩ : ∃ p : Nat,a = (p : Int) := ⟨a.toNat,by omega⟩
  have hp : p <= s.size := by omega
  rw [Int.toNat_natCast]
  cases hu : rdV s 12 p 0 with
  | error k =>
   have he : readV s p = .error k := by unfold readV; rw [hu]
   rw [he]; refine readval_err s p k w (fun W hb hz hm => ?_)
   exact (reads_any 152 #[.pointer (some ⟨w.heap.size, 0, none⟩)] (.error k) s p w.heap.size (fun _ => True) (fun W => Blk W w.heap.size 37 #[.int .i64 0, .int .i64 0, .float .f64 0, .string ⟨#[]⟩, .slice none 0 0, .slice none 0 0]) W hs hp (by omega) enter_val (fun _ _ _ _ h => h) (apart_blk (by omega))
    (fun W' hb' hz' ha => clo_val_no s p _ w.heap.size k W' _ hs hp ha (hm.below hb' (by omega)) (by omega) hu)).mono fun e w' ⟨ho,he,hz⟩ => ⟨he,ho,hz⟩
  | ok x =>
   obtain ⟨v,q,n⟩ := x
   cases hv : v.RightB with
   | false =>
    have he : readV s p = .error 5 := by unfold readV; rw [hu]; simp [hv]
    rw [he]; refine readval_err s p 5 w (fun W hb hz hm => ?_)
    exact (reads_any 152 #[.pointer (some ⟨w.heap.size, 0, none⟩)] (.error 5) s p w.heap.size (fun _ => True) (fun W => Blk W w.heap.size 37 #[.int .i64 0, .int .i64 0, .float .f64 0, .string ⟨#[]⟩, .slice none 0 0, .slice none 0 0]) W hs hp (by omega) enter_val (fun _ _ _ _ h => h) (apart_blk (by omega))
     (fun W' hb' hz' ha => clo_val_bad s p _ w.heap.size q n v W' _ hs hp ha (hm.below hb' (by omega)) (by omega) hu hv)).mono fun e w' ⟨ho,he,hz⟩ => ⟨he,ho,hz⟩
   | true =>
    have he : readV s p = .ok (v,q) := by unfold readV; rw [hu]; simp [hv]
    rw [he]; refine readval_ok s p q v w (fun W hb hz hm => ?_)
    rw [<- hz]
    exact (reads_any 152 #[.pointer (some ⟨w.heap.size, 0, none⟩)] (.ok q) s p w.heap.size (fun W' => ValAt W' w.heap.size (W.heap.size + 2) v) (fun _ => True) W hs hp (by omega) enter_val (ValAt.apart (by omega)) (fun _ _ _ _ h => h)
     (fun W' hb' hz' ha => clo_val_ok s p _ w.heap.size q n W.heap.size v W' _ hs hp ha (hm.below hb' (by omega)) (by omega) (by omega) (by omega) hu hv)).mono fun e w' ⟨ho,he,hz⟩ => ⟨he,ho,hz⟩
 ·rw [if_neg hin]
  refine readval_err s a 3 w (fun W hb hz hm => ?_)
  exact (reads_out 152 #[.pointer (some ⟨w.heap.size, 0,none⟩)] s a W hs (by omega)).mono fun e w' ⟨he,hb⟩ => ⟨he,Only.of_below hb _,hm.below hb (by omega)⟩
end Go.Proofs.YtaamihdibpioaaaGreat
namespace Go.Proofs.YtaamihdibpioaaaGreat
open Go.RowKit
structure Cm where
 k : Int
 nd : Int
 il : Int
 inn : Int
 n : Int
 key : Val
 v : Val
def Cm.ints (c : Cm) : List Int := [c.k,c.nd,c.il,c.inn,c.n]
def Cm.cells (c : Cm) : List Value := [.int .i64 c.k, .int .i64 c.nd, .int .i64 c.il, .int .i64 c.inn, .int .i64 c.n] ++ (c.key.cells ++ c.v.cells)
def Cm.agg (c : Cm) : Value := .agg c.cells.toArray
def Cm.In (w : World) (c : Cm) : Prop := (∀ x,x ∈ c.ints -> i64r x) /\ c.key.In w /\ c.v.In w
def Cm.Sep (S : Nat -> Prop) (c : Cm) : Prop := c.key.Sep S /\ c.v.Sep S
def Cm.erase (c : Cm) : Cm := ⟨c.k,c.nd,c.il,c.inn,c.n,c.key.erase,c.v.erase⟩
abbrev Cm.zero : Cm := ⟨0, 0, 0, 0, 0,Val.zero,Val.zero⟩
theorem Cm.cells_len (c : Cm) : c.cells.length = 17 := rfl
theorem Cm.oneCell (c : Cm) : ∀ u ∈ c.cells, u.oneCell' = true := by
 intro u hu; unfold Cm.cells at hu
 rcases List.mem_append.1 hu with hu | hu
 ·simp at hu
  rcases hu with rfl | rfl | rfl | rfl | rfl <;> rfl
 ·rcases List.mem_append.1 hu with hu | hu
  ·exact cells_oneCell _ u hu
  ·exact cells_oneCell _ u hu
theorem Cm.In.below {w w' : World} {c : Cm} (h : c.In w) (hb : Below w.heap.size w w') : c.In w' := ⟨h.1,h.2.1.below hb,h.2.2.below hb⟩
def cmE : Elem Cm where
 cells := Cm.cells
 size := 17
 In := Cm.In
 Sep := Cm.Sep
 pos := by decide
 len := Cm.cells_len
 one := Cm.oneCell
 carry := fun h hs hb hz => ⟨h.1,h.2.1.carryS hs.1 hb hz,h.2.2.carryS hs.2 hb hz⟩
 mono := fun h hst => ⟨h.1.mono hst,h.2.mono hst⟩
 and := fun h k => ⟨h.1.and k.1,h.2.and k.2⟩
 lt := fun h => ⟨h.2.1.sep,h.2.2.sep⟩
structure Rc where
 seq : Int
 label : Int
 c : Cm
def Rc.cells (r : Rc) : List Value := [.int .i64 r.seq, .int .i64 r.label] ++ r.c.cells
def Rc.agg (r : Rc) : Value := .agg r.cells.toArray
def Rc.In (w : World) (r : Rc) : Prop := i64r r.seq /\ i64r r.label /\ r.c.In w
def Rc.Sep (S : Nat -> Prop) (r : Rc) : Prop := r.c.Sep S
def Rc.erase (r : Rc) : Rc := ⟨r.seq,r.label,r.c.erase⟩
theorem Rc.cells_len (r : Rc) : r.cells.length = 19 := rfl
def recE : Elem Rc where
 cells := Rc.cells
 size := 19
 In := Rc.In
 Sep := Rc.Sep
 pos := by decide
 len := Rc.cells_len
 one := fun r u hu => by
  unfold Rc.cells at hu
  rcases List.mem_append.1 hu with hu | hu
  ·simp at hu
   rcases hu with rfl | rfl <;> rfl
  ·exact Cm.oneCell _ u hu
 carry := fun h hs hb hz => ⟨h.1,h.2.1,cmE.carry h.2.2 hs hb hz⟩
 mono := fun h hst => cmE.mono h hst
 and := fun h k => cmE.and h k
 lt := fun h => cmE.lt h.2.2
def numsB (ns : List Int) : List UInt8 := ns.flatMap fun n => ub n.toNat
def numOk (n : Int) : Bool := decide (0 <= n) && decide (n <= 10000)
def someB (v : Val) : Option (List UInt8) := if v.k = 0 then (bif v.noneB then some [0] else none) else (bif v.RightB then some (1 :: v.enc) else none)
def Cm.enc (c : Cm) : Option (List UInt8) :=
 bif c.ints.all numOk then
  (match someB c.key with
  | none => none
  | some a => match someB c.v with
   | none => none
   | some b => some (numsB c.ints ++ a ++ b))
 else none
def rdN (s : ByteArray) (p : Nat) : Option (Nat × Nat) := match readU s p 0 0 with
 | .ok (n,q) => if n <= 10000 then some (n,q) else none
 | .error _ => none
def rdSome (s : ByteArray) (p : Nat) : Option (Val × Nat) :=
 if p < s.size then
  (if (byteAt s p).toNat = 0 then some (Val.zero,p + 1) else if (byteAt s p).toNat = 1 then (match readVAt s ((p + 1 : Nat) : Int) with | .ok (v,q) => some (v,q) | .error _ => none) else none)
 else none
def rdCm (s : ByteArray) (p : Nat) : Option (Cm × Nat) := do
 let (a,p) <- rdN s p
 let (b,p) <- rdN s p
 let (c,p) <- rdN s p
 let (d,p) <- rdN s p
 let (e,p) <- rdN s p
 let (u,p) <- rdSome s p
 let (v,p) <- rdSome s p
 return (⟨a,b,c,d,e,u,v⟩,p)
def Val.like (u v : Val) : Prop := (v.k ≠ 0 /\ u.nf = v.nf /\ u.Kinds) \/ (v.k = 0 /\ v.noneB = true /\ u = Val.zero)
theorem noneB_erase {v : Val} (h : v.noneB = true) : v.erase = Val.zero := by
 unfold Val.noneB at h; simp only [Bool.and_eq_true,decide_eq_true_eq] at h; obtain ⟨⟨⟨⟨⟨h1,h2⟩,h3⟩,h4⟩,h5⟩,h6⟩ := h; rw [Val.erase_eq,h1,h2,h3,List.eq_nil_of_length_eq_zero h5,List.eq_nil_of_length_eq_zero h6]
 have e : v.s = ByteArray.empty := by
  have h7 : v.s.toList.isEmpty = true := by rw [h4]; rfl
  have h8 := congrArg List.length h4; refine ByteArray.ext (Array.ext' ?_); have h9 : v.s.toList = v.s.data.toList := Lib.toList_data v.s; rw [h9] at h4
  simpa using h4
 rw [e]
 rfl
theorem Val.like.rsame {u v : Val} (h : u.like v) : u.rsame v = true := by
 unfold Val.rsame
 rcases h with ⟨h1,h2,h3⟩ | ⟨h1,h2,rfl⟩
 ·rw [(Val.rord_nf u.sz u v (Nat.le_refl _) h3).2 h2]; rfl
 ·rw [Val.rord_erase Val.zero.sz Val.zero v (Nat.le_refl _) (noneB_erase h2).symm]; rfl
def Cm.like (u c : Cm) : Prop := u.ints = c.ints /\ u.key.like c.key /\ u.v.like c.v
end Go.Proofs.YtaamihdibpioaaaGreat
namespace Go.Proofs.YtaamihdibpioaaaGreat.Jr
open Go.RowKit Go.Proofs.YtaamihdibpioaaaGreat.Crc
structure He where
 seq : Nat
 label : Nat
 bytes : List UInt8
def num4 (n : Nat) : List UInt8 := [UInt8.ofNat (n / 16777216 % 256),UInt8.ofNat (n / 65536 % 256),UInt8.ofNat (n / 256 % 256),UInt8.ofNat (n % 256)]
def payB (n : Nat) (l : List UInt8) : ByteArray := ⟨(num4 n ++ l).toArray⟩
theorem payB_size (n : Nat) (l : List UInt8) : (payB n l).size = 4 + l.length := by
 rw [<- size_list]
 simp [payB,num4]
 omega
def He.pay (h : He) : ByteArray := payB h.seq h.bytes
def segL (H : List He) (i : Nat) : List He := H.filter fun h => decide (h.label = i)
def segOf (H : List He) (i : Nat) : List ByteArray := (segL H i).map He.pay
def He.Ok (n : Nat) (h : He) : Prop := h.bytes.length + 4 <= 2000 /\ h.label < n /\ 1 <= h.seq
theorem He.Ok.pay {n : Nat} {h : He} (k : h.Ok n) : YtaamihdibpioaaaGreat.Ok h.pay := by
 unfold YtaamihdibpioaaaGreat.Ok He.pay; rw [payB_size]; have := k.1
 omega
structure Hist (n : Nat) (rows : List ByteArray) (H : List He) (r : Nat -> ByteArray) : Prop where
 rows : ∀ i : Nat,i < n -> rowOf rows (i : Int) = cat (segOf H i) ++ r i
 tails : ∀ i,i < n -> frameAt (r i) = false
 ok : ∀ h,h ∈ H -> h.Ok n
 up : H.Pairwise fun a b => a.seq < b.seq
theorem segOf_ok {n : Nat} {H : List He} (h : ∀ x, x ∈ H -> x.Ok n) (i : Nat) : ∀ p, p ∈ segOf H i -> YtaamihdibpioaaaGreat.Ok p := by
 intro p hp; obtain ⟨x,hx,rfl⟩ := List.mem_map.1 hp; exact (h x (List.mem_filter.1 hx).1).pay
theorem Hist.all {n : Nat} {rows : List ByteArray} {H : List He} {r : Nat -> ByteArray} (h : Hist n rows H r) {i : Nat} (hi : i < n) : allOf (rowOf rows (i : Int)) = (segOf H i, ((cat (segOf H i)).size : Int)) := by
 rw [h.rows i hi]; exact all_of_cat (h.tails i hi) (segOf_ok h.ok i)
structure Jt where
 n : Nat
 rows : List ByteArray
 next : Nat
 torn : Bool
structure Good (s : Jt) (H : List He) (r : Nat -> ByteArray) : Prop where
 hist : Hist s.n s.rows H r
 dk : Dk s.n s.rows
 clean : s.torn = false -> ∀ i,i < s.n -> r i = ByteArray.empty
 below : ∀ h,h ∈ H -> h.seq < s.next + (if s.torn = true then 1 else 0)
 pos : 1 <= s.next
def jE (s : Jt) (label : Int) (enc : Option (List UInt8)) : Int :=
 bif s.torn then 14 else bif isSeg s.n label then (match enc with
  | none => 5
  | some l => if 2000 < 4 + l.length then 5 else tearE s.n s.rows label (frameOf (payB s.next l)))
 else 3
def jF (s : Jt) (enc : Option (List UInt8)) : ByteArray := frameOf (payB s.next (enc.getD []))
def jWrite (s : Jt) (label : Int) (enc : Option (List UInt8)) : Jt :=
 if jE s label enc = 0 then { s with rows := tearR s.n s.rows label (jF s enc) ((jF s enc).size : Int),next := s.next + 1 } else s
def jCrash (s : Jt) (label : Int) (enc : Option (List UInt8)) (keep : Int) : Jt :=
 if jE s label enc = 0 then { s with rows := tearR s.n s.rows label (jF s enc) keep,torn := true } else s
theorem jE_zero {s : Jt} {label : Int} {enc : Option (List UInt8)} (h : jE s label enc = 0) :
  s.torn = false /\ isSeg s.n label = true /\ ∃ l,enc = some l /\ l.length + 4 <= 2000 /\ fits s.rows label (frameOf (payB s.next l)) = true := by
 unfold jE at h
 cases ht : s.torn with
 | true => rw [ht] at h; simp at h
 | false =>
  rw [ht] at h
  cases hs : isSeg s.n label with
  | false => rw [hs] at h; simp at h
  | true =>
   rw [hs] at h
   cases enc with
   | none => simp at h
   | some l =>
    simp only [cond_false,cond_true] at h
    by_cases hl : 2000 < 4 + l.length
    ·rw [if_pos hl] at h; omega
    ·rw [if_neg hl] at h
     refine ⟨rfl,rfl,l,rfl,by omega,?_⟩
     unfold tearE at h; rw [hs] at h
     cases hf : fits s.rows label (frameOf (payB s.next l)) with
     | true => rfl
     | false => rw [hf] at h; simp at h
theorem cat_snoc (ps : List ByteArray) (p : ByteArray) : cat (ps ++ [p]) = cat ps ++ frameOf p := by
 rw [cat_append]
 simp [cat]
theorem segL_snoc (H : List He) (x : He) (i : Nat) : segL (H ++ [x]) i = if x.label = i then segL H i ++ [x] else segL H i := by
 unfold segL; rw [List.filter_append]
 by_cases h : x.label = i
 ·rw [if_pos h]; simp [h]
 ·rw [if_neg h]; simp [h]
theorem segOf_snoc (H : List He) (x : He) (i : Nat) : segOf (H ++ [x]) i = if x.label = i then segOf H i ++ [x.pay] else segOf H i := by
 unfold segOf; rw [segL_snoc]
 split <;> simp
theorem rowOf_set {rows : List ByteArray} {k : Nat} {x : ByteArray} (hk : k < rows.length) (i : Nat) : rowOf (rows.set k x) (i : Int) = if i = k then x else rowOf rows (i : Int) := by
 unfold rowOf; rw [Int.toNat_natCast]
 by_cases h : i = k
 ·subst h
  rw [if_pos rfl]
  simp [List.getD,hk]
 ·rw [if_neg h]
  simp [List.getD,List.getElem?_set,Ne.symm h]
theorem up_snoc {H : List He} {x : He} {m : Nat} (h : H.Pairwise fun a b => a.seq < b.seq) (hb : ∀ y, y ∈ H -> y.seq < m) (hx : x.seq = m) : (H ++ [x]).Pairwise fun a b => a.seq < b.seq := by
 rw [List.pairwise_append]; refine ⟨h,by simp,fun a ha b hb' => ?_⟩
 have e : b = x := by simpa using hb'
 subst e; have := hb a ha
 omega
theorem kept_of (f : ByteArray) (keep : Int) : (kept f keep = f /\ f.size <= keep.toNat) \/ ∃ k, k < f.size /\ kept f keep = f.extract 0 k := by
 unfold kept
 by_cases h : f.size <= keep.toNat
 ·left
  rw [Nat.min_eq_right h]; exact ⟨by simp,h⟩
 ·right
  exact ⟨keep.toNat,by omega,by rw [Nat.min_eq_left (by omega)]⟩
theorem good_write {s : Jt} {H : List He} {r : Nat -> ByteArray} {label : Int} {enc : Option (List UInt8)} (h : Good s H r) (he : jE s label enc = 0) :
  Good (jWrite s label enc) (H ++ [⟨s.next,label.toNat,enc.getD []⟩]) r := by
 obtain ⟨ht,hs,l,rfl,hl,hf⟩ := jE_zero he; obtain ⟨k,rfl,hk,hk8,hrk,hsz⟩ := h.dk.at_ hs; unfold jWrite; rw [if_pos he]; have hp : jF s (some l) = frameOf (payB s.next l) := rfl
 have hR : tearR s.n s.rows (k : Int) (jF s (some l)) ((jF s (some l)).size : Int) = s.rows.set k (rowOf s.rows (k : Int) ++ frameOf (payB s.next l)) := by
  unfold tearR; rw [hs,hp,hf,kept_all (Int.le_refl _)]
  rfl
 have hlen : k < s.rows.length := by rw [h.dk.len]; exact hk8
 have hrc := h.clean ht; refine ⟨⟨fun i hi => ?_,h.hist.tails,fun x hx => ?_,up_snoc h.hist.up (fun y hy => ?_) rfl⟩,h.dk.tear _ _ _,fun _ => hrc,fun x hx => ?_,by show 1 <= s.next + 1; omega⟩
 ·show rowOf (tearR _ _ _ _ _) _ = _
  rw [hR,rowOf_set hlen,segOf_snoc]
  by_cases hik : i = k
  ·subst hik
   rw [if_pos rfl,if_pos (by simp),cat_snoc,h.hist.rows i hi,hrc i hi]
   simp [He.pay]
  ·rw [if_neg hik, if_neg (by simp; omega)]
   exact h.hist.rows i hi
 ·rcases List.mem_append.1 hx with hx | hx
  ·exact h.hist.ok x hx
  ·obtain rfl : x = _ := by simpa using hx
   exact ⟨by simpa using hl,by show (k : Int).toNat < s.n; omega,h.pos⟩
 ·have := h.below y hy
  rw [ht] at this
  simpa using this
 ·show x.seq < s.next + 1 + (if s.torn = true then 1 else 0)
  rcases List.mem_append.1 hx with hx | hx
  ·have := h.below x hx
   omega
  ·obtain rfl : x = _ := by simpa using hx
   show s.next < _
   omega
theorem good_crash {s : Jt} {H : List He} {r : Nat -> ByteArray} {label : Int} {enc : Option (List UInt8)} {keep : Int} (h : Good s H r) (he : jE s label enc = 0) :
  ∃ r',Good (jCrash s label enc keep) (if (jF s enc).size <= keep.toNat then H ++ [⟨s.next,label.toNat,enc.getD []⟩] else H) r' := by
 obtain ⟨ht,hs,l,rfl,hl,hf⟩ := jE_zero he; obtain ⟨k,rfl,hk,hk8,hrk,hsz⟩ := h.dk.at_ hs; unfold jCrash; rw [if_pos he]; have hp : jF s (some l) = frameOf (payB s.next l) := rfl; have hok : YtaamihdibpioaaaGreat.Ok (payB s.next l) := by unfold YtaamihdibpioaaaGreat.Ok; rw [payB_size]; omega
 have hR : tearR s.n s.rows (k : Int) (jF s (some l)) keep = s.rows.set k (rowOf s.rows (k : Int) ++ kept (jF s (some l)) keep) := by
  unfold tearR; rw [hs,hp,hf]
  rfl
 have hlen : k < s.rows.length := by rw [h.dk.len]; exact hk8
 have hrc := h.clean ht
 have hb : ∀ y, y ∈ H -> y.seq < s.next := fun y hy => by
  have := h.below y hy; rw [ht] at this
  simpa using this
 rcases kept_of (jF s (some l)) keep with ⟨hkp,hsz2⟩ | ⟨c,hc,hkp⟩
 ·rw [if_pos hsz2]
  refine ⟨r,⟨⟨fun i hi => ?_,h.hist.tails,fun x hx => ?_,up_snoc h.hist.up hb rfl⟩,h.dk.tear _ _ _, (fun hq => by cases hq),fun x hx => ?_,h.pos⟩⟩
  ·show rowOf (tearR _ _ _ _ _) _ = _
   rw [hR,rowOf_set hlen,segOf_snoc,hkp]
   by_cases hik : i = k
   ·subst hik
    rw [if_pos rfl,if_pos (by simp),cat_snoc,h.hist.rows i hi,hrc i hi]
    simp [He.pay,hp]
   ·rw [if_neg hik, if_neg (by simp; omega)]
    exact h.hist.rows i hi
  ·rcases List.mem_append.1 hx with hx | hx
   ·exact h.hist.ok x hx
   ·obtain rfl : x = _ := by simpa using hx
    exact ⟨by simpa using hl,by show (k : Int).toNat < s.n; omega,h.pos⟩
  ·show x.seq < s.next + (if true = true then 1 else 0)
   rcases List.mem_append.1 hx with hx | hx
   ·have := hb x hx
    simp
    omega
   ·obtain rfl : x = _ := by simpa using hx
    show s.next < _
    simp
 ·have hns : ¬ (jF s (some l)).size <= keep.toNat := by
   intro hh; rw [kept,Nat.min_eq_right hh] at hkp; have h1 := congrArg ByteArray.size hkp
   simp at h1
   omega
  rw [if_neg hns]; refine ⟨fun i => if i = k then kept (jF s (some l)) keep else r i,⟨⟨fun i hi => ?_,fun i hi => ?_,h.hist.ok,h.hist.up⟩,h.dk.tear _ _ _, (fun hq => by cases hq),fun x hx => ?_,h.pos⟩⟩
  ·show rowOf (tearR _ _ _ _ _) _ = _
   rw [hR,rowOf_set hlen]
   by_cases hik : i = k
   ·subst hik
    rw [if_pos rfl,if_pos rfl,h.hist.rows i hi,hrc i hi]
    simp
   ·rw [if_neg hik, if_neg hik]
    exact h.hist.rows i hi
  ·show frameAt (if i = k then _ else _) = false
   by_cases hik : i = k
   ·rw [if_pos hik, hkp, hp]
    exact piece_none hok (by rw [<- hp]; exact hc)
   ·rw [if_neg hik]
    exact h.hist.tails i hi
  ·show x.seq < s.next + (if true = true then 1 else 0)
   have := hb x hx
   simp
   omega
def cutAll (n : Nat) (rows : List ByteArray) : Nat -> List ByteArray
 | 0 => rows
 | k + 1 => cutR n (cutAll n rows k) (k : Int) (allOf (rowOf (cutAll n rows k) (k : Int))).2
theorem cutAll_dk {n : Nat} {rows : List ByteArray} (h : Dk n rows) : ∀ k, Dk n (cutAll n rows k)
 | 0 => h
 | k + 1 => (cutAll_dk h k).cut _ _
theorem hist_cut {n : Nat} {rows : List ByteArray} {H : List He} {r : Nat -> ByteArray} (hd : Dk n rows) (h : Hist n rows H r) : ∀ k, k <= n -> Hist n (cutAll n rows k) H (fun i => if i < k then ByteArray.empty else r i)
 | 0, _ => by
  have e : (fun i => if i < 0 then ByteArray.empty else r i) = r := by funext i; simp
  rw [e]; exact h
 | k + 1, hk => by
  have ih := hist_cut hd h k (by omega)
  have hdk := cutAll_dk hd k; obtain ⟨R,hR⟩ := gXe (cutAll n rows k); rw [<- hR] at ih hdk; have hall := ih.all (show k < n by omega)
  have hrow := ih.rows k (by omega)
  rw [if_neg (by omega)] at hrow
  have hn8 := hdk.n8; have hlen : k < R.length := by rw [hdk.len]; omega
  have hs : isSeg n (k : Int) = true := by unfold isSeg; simp; omega
  have hw : within R (k : Int) ((cat (segOf H k)).size : Int) = true := by
   unfold within; rw [hrow]
   simp [ByteArray.size_append]
   omega
  have hc : cutAll n rows (k + 1) = R.set k (cat (segOf H k)) := by
   show cutR n (cutAll n rows k) (k : Int) (allOf (rowOf (cutAll n rows k) (k : Int))).2 = _
   rw [<- hR,hall]; unfold cutR; rw [hs,hw]; simp only [Bool.and_self,cond_true,Int.toNat_natCast]; rw [hrow,take_front]
  rw [hc]; refine ⟨fun i hi => ?_,fun i hi => ?_,ih.ok,ih.up⟩
  ·rw [rowOf_set hlen]
   by_cases hik : i = k
   ·subst hik
    rw [if_pos rfl,if_pos (by omega)]
    simp
   ·rw [if_neg hik, ih.rows i hi]
    by_cases h1 : i < k
    ·rw [if_pos h1,if_pos (by omega)]
    ·rw [if_neg h1,if_neg (by omega)]
  ·show frameAt (if i < k + 1 then _ else _) = false
   by_cases h1 : i < k + 1
   ·rw [if_pos h1]; exact empty_none
   ·rw [if_neg h1]; exact h.tails i hi
def nextOf (H : List He) : Nat := match H.getLast? with
 | none => 1
 | some h => h.seq + 1
def jRecover (s : Jt) (H : List He) : Jt := ⟨s.n,cutAll s.n s.rows s.n,nextOf H,false⟩
theorem nextOf_pos (H : List He) : 1 <= nextOf H := by
 unfold nextOf
 split <;> omega
theorem nextOf_above : ∀ {H : List He}, H.Pairwise (fun a b => a.seq < b.seq) -> ∀ h, h ∈ H -> h.seq < nextOf H := by
 intro H hp h hh; unfold nextOf; obtain ⟨L,x,rfl⟩ : ∃ L x,H = L ++ [x] := ⟨H.dropLast,H.getLast (List.ne_nil_of_mem hh), (List.dropLast_concat_getLast _).symm⟩; simp only [List.getLast?_append,List.getLast?_singleton,Option.some_or]; rw [List.pairwise_append] at hp
 rcases List.mem_append.1 hh with hh | hh
 ·have := hp.2.2 h hh x (by simp)
  omega
 ·obtain rfl : h = x := by simpa using hh
  omega
theorem good_recover {s : Jt} {H : List He} {r : Nat -> ByteArray} (h : Good s H r) : Good (jRecover s H) H (fun _ => ByteArray.empty) := by
 have hc := hist_cut h.dk h.hist s.n (Nat.le_refl _); refine ⟨⟨fun i hi => ?_,fun i hi => empty_none,h.hist.ok,h.hist.up⟩,cutAll_dk h.dk _,fun _ _ _ => rfl,fun x hx => ?_,nextOf_pos H⟩
 ·have := hc.rows i hi
  rw [if_pos (show i < s.n from hi)] at this
  exact this
 ·show x.seq < nextOf H + (if false = true then 1 else 0)
  have := nextOf_above h.hist.up x hx
  simpa using this
def jNew (n : Nat) : Jt := ⟨n,noRows, 1,false⟩
theorem good_new {n : Nat} (h1 : 1 <= n) (h8 : n <= 8) : Good (jNew n) [] (fun _ => ByteArray.empty) := by
 refine ⟨⟨fun i hi => ?_,fun _ _ => empty_none,fun x hx => by simp at hx,by simp⟩,⟨by simp [jNew,noRows],h1,h8,fun r hr => ?_⟩,fun _ _ _ => rfl,fun x hx => by simp at hx,Nat.le_refl _⟩
 ·show rowOf noRows (i : Int) = _
  have hi8 : i < 8 := Nat.lt_of_lt_of_le hi h8
  have e : rowOf noRows (i : Int) = ByteArray.empty := by
   show noRows.getD (i : Int).toNat ByteArray.empty = _
   rw [Int.toNat_natCast]
   match i,hi8 with
   | 0,_ => rfl
   | 1,_ => rfl
   | 2,_ => rfl
   | 3,_ => rfl
   | 4,_ => rfl
   | 5,_ => rfl
   | 6,_ => rfl
   | 7,_ => rfl
  rw [e]
  simp [segOf,segL,cat]
 ·have : r = ByteArray.empty := by
   unfold jNew noRows at hr
   simpa using (List.mem_replicate.1 hr).2
  subst this
  simp
def inSegs (H : List He) : Nat -> List He
 | 0 => []
 | n + 1 => inSegs H n ++ segL H n
theorem filter_two (p q r : He -> Bool) (h : ∀ a, r a = (p a || q a)) (hd : ∀ a, p a = true -> q a = false) : ∀ H : List He, (H.filter p ++ H.filter q).Perm (H.filter r)
 | [] => by simp
 | a :: H => by
  have ih := filter_two p q r h hd H
  cases hp : p a with
  | true =>
   have hq := hd a hp; have hr : r a = true := by rw [h,hp]; rfl
   simp only [List.filter_cons,hp,hq,hr,if_true,Bool.false_eq_true,if_false,List.cons_append]; exact ih.cons a
  | false =>
   cases hq : q a with
   | true =>
    have hr : r a = true := by rw [h,hq]; simp
    simp only [List.filter_cons,hp,hq,hr,if_true,Bool.false_eq_true,if_false]; exact List.perm_middle.trans (ih.cons a)
   | false =>
    have hr : r a = false := by rw [h,hp,hq]; rfl
    simp only [List.filter_cons,hp,hq,hr,Bool.false_eq_true,if_false]; exact ih
theorem inSegs_filter (H : List He) : ∀ n, (inSegs H n).Perm (H.filter fun h => decide (h.label < n))
 | 0 => by
  have e : (H.filter fun h => decide (h.label < 0)) = [] := List.filter_eq_nil_iff.2 (fun a _ => by simp)
  rw [e]; exact List.Perm.refl _
 | n + 1 => by
  have ih := inSegs_filter H n; refine (ih.append_right (segL H n)).trans ?_
  exact filter_two _ _ _ (fun a => by
   by_cases h1 : a.label < n
   ·simp [h1]; omega
   ·by_cases h2 : a.label = n
    ·simp [h2]
    ·simp [h1,h2]; omega) (fun a ha => by simp at ha ⊢; omega) H
theorem inSegs_perm {n : Nat} {H : List He} (h : ∀ x, x ∈ H -> x.label < n) : (inSegs H n).Perm H := by
 have := inSegs_filter H n; rw [List.filter_eq_self.2 (fun a ha => by simpa using h a ha)] at this
 exact this
theorem rising_same {A : Type} (key : A -> Int) : ∀ {L M : List A}, L.Perm M -> M.Pairwise (fun a b => key a < key b) -> L.Pairwise (fun a b => key a <= key b) -> L = M
 | [], M, h, _, _ => by
  have := h.length_eq; exact (List.eq_nil_of_length_eq_zero (by simpa using this.symm)).symm
 | a :: L, [], h, _, _ => by
  have := h.length_eq
  simp at this
 | a :: L, b :: M, h, hm, hl => by
  rw [List.pairwise_cons] at hm hl
  have hab : a = b := by
   have h1 : a ∈ b :: M := h.subset (by simp)
   have h2 : b ∈ a :: L := h.symm.subset (by simp)
   rcases List.mem_cons.1 h1 with h1 | h1
   ·exact h1
   ·rcases List.mem_cons.1 h2 with h2 | h2
    ·exact h2.symm
    ·have := hm.1 a h1
     have := hl.1 b h2
     omega
  subst hab; rw [rising_same key (List.Perm.cons_inv h) hm.2 hl.2]
def readC (p : ByteArray) : Cm := match rdCm p (min 4 p.size) with
 | some (c,_) => c
 | none => Cm.zero
def He.rc (h : He) : Rc := ⟨h.seq,h.label,readC h.pay⟩
end Go.Proofs.YtaamihdibpioaaaGreat.Jr
namespace Go.Proofs.YtaamihdibpioaaaGreat.Jr
open Go.RowKit Go.Proofs.YtaamihdibpioaaaGreat.Crc
structure Keeps2 (w w' : World) (j d : Nat) : Prop where
 os : w'.os = w.os
 tape : w'.tape = w.tape
 output : w'.output = w.output
 size : w.heap.size <= w'.heap.size
 block : ∀ i,i < w.heap.size -> i ≠ j -> i ≠ d -> w'.heap[i]? = w.heap[i]?
theorem Keeps2.refl (w : World) (j d : Nat) : Keeps2 w w j d := ⟨rfl,rfl,rfl,Nat.le_refl _,fun _ _ _ _ => rfl⟩
theorem Keeps2.of_below {w w' : World} (h : Below w.heap.size w w') (j d : Nat) : Keeps2 w w' j d := ⟨h.os,h.tape,h.output,h.size,fun i hi _ _ => h.block i hi⟩
theorem Keeps2.of_only1 {w w' : World} {j d : Nat} (h : Only w w' j) : Keeps2 w w' j d := ⟨h.os,h.tape,h.output,h.size,fun i hi hj _ => h.block i hi (by simpa using hj)⟩
theorem Keeps2.of_only2 {w w' : World} {j d : Nat} (h : Only w w' d) : Keeps2 w w' j d := ⟨h.os,h.tape,h.output,h.size,fun i hi _ hd => h.block i hi (by simpa using hd)⟩
theorem Keeps2.trans {w w' w'' : World} {j d : Nat} (h : Keeps2 w w' j d) (k : Keeps2 w' w'' j d) : Keeps2 w w'' j d :=
 ⟨k.os.trans h.os,k.tape.trans h.tape,k.output.trans h.output,Nat.le_trans h.size k.size,fun i hi hj hd => (k.block i (Nat.lt_of_lt_of_le hi h.size) hj hd).trans (h.block i hi hj hd)⟩
theorem Keeps2.below {B : Nat} {w w' : World} {j d : Nat} (h : Keeps2 w w' j d) (hj : B <= j) (hd : B <= d) (hB : B <= w.heap.size) : Below B w w' :=
 ⟨h.os,h.tape,h.output,h.size,fun i hi => h.block i (by omega) (by omega) (by omega)⟩
theorem Keeps2.blk {w w' : World} {j d g : Nat} {t : TypeId} {cs : Array Value} (h : Keeps2 w w' j d) (hb : Blk w g t cs) (hj : g ≠ j) (hd : g ≠ d) : Blk w' g t cs := (h.block g hb.lt hj hd).trans hb
structure JAt (w : World) (j d : Nat) (s : Jt) : Prop where
 jb : Blk w j 68 #[.pointer (some ⟨d, 0,none⟩), .int .i64 s.n, .int .i64 s.next, .bool s.torn]
 db : Blk w d 92 (diskCells s.n s.rows)
 dk : Dk s.n s.rows
theorem JAt.ne {w : World} {j d : Nat} {s : Jt} (h : JAt w j d s) : j ≠ d := h.jb.ne_ h.db (by decide)
theorem JAt.keep {w w' : World} {j d j' d' : Nat} {s : Jt} (h : JAt w j d s) (k : Keeps2 w w' j' d') (h1 : j ≠ j') (h2 : j ≠ d') (h3 : d ≠ j') (h4 : d ≠ d') : JAt w' j d s :=
 ⟨k.blk h.jb h1 h2,k.blk h.db h3 h4,h.dk⟩
theorem JAt.below {w w' : World} {j d : Nat} {s : Jt} (h : JAt w j d s) (hb : Below w.heap.size w w') : JAt w' j d s := ⟨h.jb.below hb h.jb.lt,h.db.below hb h.db.lt,h.dk⟩
def numI (n : Nat) (j : Nat) : Int := ((n / 256 ^ (3 - j) % 256 : Nat) : Int)
theorem num4_strs (n : Nat) : strOfNums [numI n 0, numI n 1, numI n 2, numI n 3] = ⟨(num4 n).toArray⟩ := by
 have h : ∀ m : Nat, (((m % 256 : Nat) : Int)).toNat = m % 256 := fun m => Int.toNat_natCast _
 unfold strOfNums num4 numI; simp only [List.map_cons,List.map_nil,h]
 simp
theorem conv4b {W : World} {g c : Nat} {a b d f : Int} (hb : Blk W g 5 #[.int .u8 a, .int .u8 b, .int .u8 d, .int .u8 f]) : (convert 105 9 (.slice (some ⟨g, 0, none⟩) 4 c)).run Tryz.prog W = .ok (.string (strOfNums [a, b, d, f])) W :=
 run_convert_bytes_arg (P := Tryz.prog) _ 105 5 Tryz.underlying105 Tryz.underlying5 g 0 4 c [a, b, d, f] rfl (fun i hi => by
  rw [hb.cell]
  match i,hi with
  | 0,_ => rfl
  | 1,_ => rfl
  | 2,_ => rfl
  | 3,_ => rfl) _ Tryz.underlying9
def numC (n i : Nat) : Array Value := #[.int .u8 (if 0 < i then numI n 0 else 0), .int .u8 (if 1 < i then numI n 1 else 0), .int .u8 (if 2 < i then numI n 2 else 0), .int .u8 (if 3 < i then numI n 3 else 0)]
theorem u8_nat (m : Nat) : IntKind.u8.wrap (m : Int) = ((m % 256 : Nat) : Int) := by rw [IntKind.wrap_u8]; omega
theorem byte_facts4 : (Tryz.prog.info? 5).map (fun i => (i.zero,i.size,i.bytes)) = some (some (.int .u8 0), 1, 1) := by kernel_rfl
theorem made4 : madeCells (Value.int .u8 0).cells (Int.toNat 4 * 1) = #[.int .u8 0, .int .u8 0, .int .u8 0, .int .u8 0] := by kernel_rfl
theorem number_any (n : Nat) (w : World) (hn : n < 2147483648) : Calls Tryz.prog 44 #[.int .i64 n] w fun e w' => Told ⟨(num4 n).toArray⟩ w.heap.size w e w' := by
 rw [<- num4_strs]; obtain ⟨G,hG⟩ := gXe (w.heap.size); have HG := gh hG
 have w0 : IntKind.u8.wrap ((n : Int) / 16777216) = numI n 0 := by
  have e : (n : Int) / 16777216 = ((n / 16777216 : Nat) : Int) := by omega
  rw [e,u8_nat]; rfl
 have w1 : IntKind.u8.wrap ((n : Int) / 65536) = numI n 1 := by
  have e : (n : Int) / 65536 = ((n / 65536 : Nat) : Int) := by omega
  rw [e,u8_nat]; rfl
 have w2 : IntKind.u8.wrap ((n : Int) / 256) = numI n 2 := by
  have e : (n : Int) / 256 = ((n / 256 : Nat) : Int) := by omega
  rw [e,u8_nat]; rfl
 have w3 : IntKind.u8.wrap (n : Int) = numI n 3 := by rw [u8_nat]; unfold numI; simp
 have HW0 := gh w0; have HW1 := gh w1; have HW2 := gh w2; have HW3 := gh w3; clear w0 w1 w2 w3 hG
 have hmk : ∀ W : World, (Instr.makeSlice 105 (.int .i64 4) (.int .i64 4)).run Tryz.prog W = .ok (.slice (some ⟨W.heap.size, 0, none⟩) 4 4) (W.alloc (.cells #[.int .u8 0, .int .u8 0, .int .u8 0, .int .u8 0] 5)) := fun W => by
  obtain ⟨i0,hi,hz0,hz1,hz2⟩ := info_parts byte_facts4; exact (run_make (P := Tryz.prog) W 105 5 i0 _ Tryz.underlying105 hi hz0 .i64 .i64 4 4 (by omega) (by omega) (by rw [hz2]; omega) (by omega)).trans (by rw [hz1,made4]; rfl)
 go_enter Tryz.func44,Tryz.ntmps44
 go_wp2_with fail
 rw [<- HG.o]
 go_loopw [8] (fun v wr => ∃ i : Nat,i <= 4 /\ v = .int .i64 i /\ Hid (Blk wr G 5 (numC n i)) /\ Hid (Below w.heap.size w wr)) (fun v _ => 4 - (intOf v).toNat)
 case atStart => exact ⟨0,by omega,rfl,gh (by rw [HG.o]; exact Blk.new _ _ _),gh ((Below.refl _ _).alloc (Nat.le_refl _) _)⟩
 case round =>
  obtain ⟨i,hi,rfl,HB,HL⟩ := hrel; have hb := HB.o; have hlt0 := hb.lt; have c0 := hb.cell 0; have c1 := hb.cell 1; have c2 := hb.cell 2; have c3 := hb.cell 3; have f0 := hb.frozen 0; have f1 := hb.frozen 1; have f2 := hb.frozen 2; have f3 := hb.frozen 3; unfold numC at c0 c1 c2 c3; simp only [gX0,gX1,gX2] at c0 c1 c2 c3; clear hb
  rcases (by omega : i = 0 \/ i = 1 \/ i = 2 \/ i = 3 \/ i = 4) with rfl | rfl | rfl | rfl | rfl
  ·have hx := HW0.o
   go_wp2
   go_roundw
   case rel => exact ⟨1,by omega,rfl,gh (HB.o.set_ 0 _),gh (HL.o.setCell (p := ⟨G, 0,none⟩) (by rw [HG.o]; exact Nat.le_refl _) _)⟩
   case measure => simp [intOf]
  ·have hx := HW1.o
   go_wp2
   go_roundw
   case rel => exact ⟨2,by omega,rfl,gh (HB.o.set_ 1 _),gh (HL.o.setCell (p := ⟨G, 1,none⟩) (by rw [HG.o]; exact Nat.le_refl _) _)⟩
   case measure => simp [intOf]
  ·have hx := HW2.o
   go_wp2
   go_roundw
   case rel => exact ⟨3,by omega,rfl,gh (HB.o.set_ 2 _),gh (HL.o.setCell (p := ⟨G, 2,none⟩) (by rw [HG.o]; exact Nat.le_refl _) _)⟩
   case measure => simp [intOf]
  ·have hx := HW3.o
   go_wp2
   go_roundw
   case rel => exact ⟨4,by omega,rfl,gh (HB.o.set_ 3 _),gh (HL.o.setCell (p := ⟨G, 3,none⟩) (by rw [HG.o]; exact Nat.le_refl _) _)⟩
   case measure => simp [intOf]
  ·have hcv := conv4b (c := 4) HB.o
   go_wp2
   go_ret
   exact ⟨rfl,HL.o⟩
def numOf (S : ByteArray) : Nat := (byteAt S 0).toNat * 16777216 + (byteAt S 1).toNat * 65536 + (byteAt S 2).toNat * 256 + (byteAt S 3).toNat
theorem or_add (x b : Nat) (hb : b < 256) : x * 256 ||| b = x * 256 + b := by
 have := Nat.shiftLeft_add_eq_or_of_lt (show b < 2 ^ 8 from hb) x
 rw [Nat.shiftLeft_eq] at this
 simpa using this.symm
theorem or_int {x b : Nat} {X : Int} (hX : X = (x : Int)) (hx : x < 100000000) (hb : b < 256) : bits .or .i64 (X * 256) (b : Int) = ((x * 256 + b : Nat) : Int) := by
 have e : X * 256 = ((x * 256 : Nat) : Int) := by omega
 rw [e,i64_or_nat _ _ (by omega) (by omega),or_add x b hb]
theorem numbered_any (S : ByteArray) (w : World) (hS : S.size = 4) : Calls Tryz.prog 48 #[.string S] w fun e w' => e = .returned (.int .i64 (numOf S)) /\ w = w' := by
 obtain ⟨b0,h0⟩ := gXe ((byteAt S 0).toNat); obtain ⟨b1,h1⟩ := gXe ((byteAt S 1).toNat); obtain ⟨b2,h2⟩ := gXe ((byteAt S 2).toNat); obtain ⟨b3,h3⟩ := gXe ((byteAt S 3).toNat); have l0 : b0 < 256 := by rw [h0]; exact UInt8.toNat_lt _
 have l1 : b1 < 256 := by rw [h1]; exact UInt8.toNat_lt _
 have l2 : b2 < 256 := by rw [h2]; exact UInt8.toNat_lt _
 have l3 : b3 < 256 := by rw [h3]; exact UInt8.toNat_lt _
 have g : ∀ i (hi : i < S.size),S[i]'hi = byteAt S i := fun i hi => (byteAt_eq hi).symm
 have hN : numOf S = ((b0 * 256 + b1) * 256 + b2) * 256 + b3 := by unfold numOf; rw [<- h0, <- h1, <- h2, <- h3]; omega
 have n0 : IntKind.i64.wrap ((0 : Int) * 256) = 0 := by decide
 have o0 : bits .or .i64 0 (b0 : Int) = (b0 : Int) := by
  have := i64_or_nat 0 b0 (by omega) (by omega)
  simpa using this
 have o1 := or_int (x := b0) (b := b1) (X := (b0 : Int)) rfl (by omega) l1
 have o2 := or_int (x := b0 * 256 + b1) (b := b2) (X := (b0 : Int) * 256 + (b1 : Int)) (by omega) (by omega) l2
 have o3 := or_int (x := (b0 * 256 + b1) * 256 + b2) (b := b3) (X := ((b0 : Int) * 256 + (b1 : Int)) * 256 + (b2 : Int)) (by omega) (by omega) l3
 have HN := gh hN; have HG := gh g; have H0 := gh h0; have H1 := gh h1; have H2 := gh h2; have H3 := gh h3; have O0 := gh o0; have O1 := gh o1; have O2 := gh o2; have O3 := gh o3; have HS := gh hS; clear hN g h0 h1 h2 h3 o0 o1 o2 o3 n0 hS; rw [HN.o]
 go_enter Tryz.func48,Tryz.ntmps48
 go_wp2_with fail
 go_loop [2, 6] (fun c v => ∃ i : Nat,i <= 4 /\ v = .int .i64 i /\ c = .int .i64 ((if i = 0 then 0 else if i = 1 then b0 else if i = 2 then b0 * 256 + b1 else if i = 3 then (b0 * 256 + b1) * 256 + b2 else ((b0 * 256 + b1) * 256 + b2) * 256 + b3 : Nat) : Int)) (fun _ v => 4 - (intOf v).toNat)
 case atStart => exact ⟨0,by omega,rfl,rfl⟩
 case round =>
  obtain ⟨i,hi,rfl,rfl⟩ := hrel; have hS := HS.o
  rcases (by omega : i = 0 \/ i = 1 \/ i = 2 \/ i = 3 \/ i = 4) with rfl | rfl | rfl | rfl | rfl
  ·have e2 : ((S[0]'(by omega)).toNat : Int) = (b0 : Int) := by rw [HG.o 0 (by omega), H0.o]
   have ho := O0.o
   simp (config := { decide := true }) only [if_true,if_false]
   go_wp2_with fail
   exact ⟨⟨1,by omega,rfl,rfl⟩,by simp [intOf]⟩
  ·have e2 : ((S[1]'(by omega)).toNat : Int) = (b1 : Int) := by rw [HG.o 1 (by omega), H1.o]
   simp (config := { decide := true }) only [if_true,if_false]
   go_wp2_with fail
   exact ⟨⟨2,by omega,rfl,by rw [O1.o]; rfl⟩,by simp [intOf]⟩
  ·have e2 : ((S[2]'(by omega)).toNat : Int) = (b2 : Int) := by rw [HG.o 2 (by omega), H2.o]
   simp (config := { decide := true }) only [if_true,if_false]
   go_wp2_with fail
   exact ⟨⟨3,by omega,rfl,by rw [O2.o]; rfl⟩,by simp [intOf]⟩
  ·have e2 : ((S[3]'(by omega)).toNat : Int) = (b3 : Int) := by rw [HG.o 3 (by omega), H3.o]
   simp (config := { decide := true }) only [if_true,if_false]
   go_wp2_with fail
   exact ⟨⟨4,by omega,rfl,by rw [O3.o]; rfl⟩,by simp [intOf]⟩
  ·simp (config := { decide := true }) only [if_true, if_false]
   go_wp2
   go_ret
   exact ⟨rfl,rfl⟩
theorem numOf_pay {n : Nat} (l : List UInt8) (hn : n < 4294967296) : numOf ((payB n l).extract 0 4) = n := by
 have e : ((payB n l).extract 0 4).data.toList = num4 n := by
  rw [Lib.extract_data]
  simp [payB,num4]
 unfold numOf byteAt; rw [e]
 simp [num4]
 omega
def JNewed (n : Nat) (w : World) (e : Ending) (w' : World) : Prop :=
 ∃ j d,w.heap.size <= j /\ w.heap.size <= d /\ e = .returned (.tuple #[.pointer (some ⟨j, 0,none⟩), .int .i64 0]) /\ Below w.heap.size w w' /\ JAt w' j d (jNew n)
theorem jnew_ok (n : Nat) (w : World) (h1 : 1 <= n) (h8 : n <= 8) : Calls Tryz.prog 7 #[.int .i64 n] w fun e w' => JNewed n w e w' := by
 have HN := gh (new_ok n w h1 h8); have hdk : Dk n noRows := (good_new h1 h8).dk; have HD := gh hdk; clear hdk
 go_enter Tryz.func7,Tryz.ntmps7
 go_wp2_with fail
 refine HN.o.mono ?_; rintro e w1 ⟨rfl,hb1,hk1⟩
 have HF := gh (show Below w.heap.size w (w1.alloc (.cells #[.pointer (some ⟨w.heap.size, 0, none⟩), .int .i64 n, .int .i64 1, .bool false] 68)) /\ JAt (w1.alloc (.cells #[.pointer (some ⟨w.heap.size, 0, none⟩), .int .i64 n, .int .i64 1, .bool false] 68)) w1.heap.size w.heap.size (jNew n) from
  ⟨hb1.alloc hb1.size _,Blk.new _ _ _,hk1.alloc _,HD.o⟩)
 have hz := hb1.size; clear hb1 hk1
 go_wp2
 go_ret2
 exact ⟨_,_,hz,Nat.le_refl _,rfl,HF.o.1,HF.o.2⟩
theorem jnew_bad (n : Int) (w : World) (h : n < 1 \/ 8 < n) : Calls Tryz.prog 7 #[.int .i64 n] w fun e w' => e = .returned (.tuple #[.pointer none, .int .i64 2]) /\ w = w' := by
 have HN := gh (new_bad n w h); clear h
 go_enter Tryz.func7,Tryz.ntmps7
 go_wp2_with fail
 refine HN.o.mono ?_; rintro e w1 ⟨rfl,rfl⟩
 go_wp2
 go_ret2
 exact ⟨rfl,rfl⟩
theorem size_any (j d : Nat) (s : Jt) (i : Int) (w : World) (h : JAt w j d s) : Calls Tryz.prog 15 #[.pointer (some ⟨j, 0, none⟩), .int .i64 i] w fun e w' => e = .returned (.int .i64 (readR s.n s.rows i).size) /\ w = w' := by
 have c0 := h.jb.cell 0
 simp at c0
 have HR := gh (read_any d s.n s.rows i w h.db h.dk); clear h
 go_enter Tryz.func15,Tryz.ntmps15
 go_wp2_with fail
 refine HR.o.mono ?_; rintro e w1 ⟨rfl,rfl⟩
 go_wp2
 go_ret
 exact ⟨rfl,rfl⟩
def JCopied (s : Jt) (w : World) (e : Ending) (w' : World) : Prop :=
 ∃ j d,w.heap.size <= j /\ w.heap.size <= d /\ e = .returned (.pointer (some ⟨j, 0,none⟩)) /\ Below w.heap.size w w' /\ JAt w' j d s
theorem copyj_any (j d : Nat) (s : Jt) (w : World) (h : JAt w j d s) : Calls Tryz.prog 20 #[.pointer (some ⟨j, 0, none⟩)] w fun e w' => JCopied s w e w' := by
 obtain ⟨W,hW⟩ := gXe (w.alloc (.cells #[.pointer (some ⟨d, 0,none⟩), .int .i64 s.n, .int .i64 s.next, .bool s.torn] 68)); have hb : Below w.heap.size w W := by rw [hW]; exact (Below.refl _ _).alloc (Nat.le_refl _) _
 have hj : Blk W w.heap.size 68 #[.pointer (some ⟨d, 0,none⟩), .int .i64 s.n, .int .i64 s.next, .bool s.torn] := by rw [hW]; exact Blk.new _ _ _
 have hold := h.below hb; have HC := gh (copy_any d s.n s.rows W hold.db h.dk); have c0 := h.jb.cell 0; have c1 := h.jb.cell 1; have c2 := h.jb.cell 2; have c3 := h.jb.cell 3
 simp at c0 c1 c2 c3
 have HJ := gh hj; have HB := gh hb; have HW := gh hW; have HD := gh h.dk; have HO := gh hold; have hjl := h.jb.lt; clear hj hb hW hold h
 go_enter Tryz.func20,Tryz.ntmps20
 go_upto_region 4 with fail
 rw [<- HW.o]; clear c0 c1 c2 c3; have c0 := HO.o.jb.cell 0
 simp at c0
 go_wp2_with fail
 refine HC.o.mono ?_; rintro e w1 ⟨rfl,hb1,hd1⟩; have hj1 := HJ.o.below hb1 HJ.o.lt; have hj2 := hj1.set_ 0 (.pointer (some ⟨W.heap.size, 0,none⟩)); have hd2 := hd1.far (p := ⟨w.heap.size, 0,none⟩) (by have := HJ.o.lt; simp; omega) (.pointer (some ⟨W.heap.size, 0,none⟩))
 have HF := gh (show Below w.heap.size w (w1.setCell ⟨w.heap.size, 0, none⟩ (.pointer (some ⟨W.heap.size, 0, none⟩))) /\ JAt (w1.setCell ⟨w.heap.size, 0, none⟩ (.pointer (some ⟨W.heap.size, 0, none⟩))) w.heap.size W.heap.size s from
  ⟨(HB.o.trans (hb1.mono HB.o.size)).setCell (p := ⟨w.heap.size, 0,none⟩) (Nat.le_refl _) _,hj2,hd2,HD.o⟩)
 have k0 := hj1.cell 0; have g0 := hj1.frozen 0
 simp at k0
 have hz := HB.o.size; clear hb1 hd1 hj1 hj2 hd2 c0
 go_wp2
 go_ret
 exact ⟨_,_,Nat.le_refl _,hz,rfl,HF.o.1,HF.o.2⟩
end Go.Proofs.YtaamihdibpioaaaGreat.Jr
namespace Go.Proofs.YtaamihdibpioaaaGreat.Pk
open Go.RowKit
def pgave (k : Int) : Ending := .panicked [{ v := .iface 25 (.int .i64 k),recovered := false }]
theorem pmust_true (b : Bool) (k : Int) (w : World) (h : b = true) : Calls Tryz.prog 95 #[.bool b, .int .i64 k] w fun e w' => e = .returned (.tuple #[]) /\ w = w' := by
 subst h
 go_enter Tryz.func95,Tryz.ntmps95
 go_wp2
 go_end0
 exact ⟨rfl,rfl⟩
theorem pmust_false (b : Bool) (k : Int) (w : World) (h : b = false) : Calls Tryz.prog 95 #[.bool b, .int .i64 k] w fun e w' => e = pgave k /\ w = w' := by
 subst h; unfold pgave
 go_enter Tryz.func95,Tryz.ntmps95
 go_wp2
 exact ⟨rfl,rfl,rfl⟩
theorem WB.below {w w' : World} {B b : Nat} {l : List UInt8} (h : WB w B b l) (hb : Below w.heap.size w w') : WB w' B b l := by
 have key : ∀ p, Lib.BuilderAt 157 5 B b p (Lib.byteCells l) w -> Lib.BuilderAt 157 5 B b p (Lib.byteCells l) w' := fun p h => by
  have hlt := h.lt; obtain ⟨h1,v,h2,h3,h4⟩ := h; exact ⟨h1,v, (hb.block b hlt).trans h2,rowed_own_keep (fun k _ hk => hb.block k hk) h3,h4⟩
 rcases h with h | h
 ·exact .inl (key _ h)
 ·exact .inr (key _ h)
end Go.Proofs.YtaamihdibpioaaaGreat.Pk
namespace Go.Proofs.YtaamihdibpioaaaGreat.Pk
open Go.RowKit
theorem KeepT.of_below {b : Nat} {w w' : World} (h : Below w.heap.size w w') : KeepT b w w' := fun g t cs h1 h2 h3 => h3.below h h3.lt
def POr (r : Option (List UInt8)) (B b : Nat) (w : World) (e : Ending) (w' : World) : Prop :=
 Below B w w' /\ KeepT b w w' /\ match r with
 | some l => e = .returned (.tuple #[]) /\ WB w' B b l
 | none => e = pgave 5
theorem numsB_snoc (ns : List Int) (x : Int) : numsB (ns ++ [x]) = numsB ns ++ ub x.toNat := by simp [numsB]
theorem numsB_len : ∀ (ns : List Int), ns.all numOk = true -> (numsB ns).length <= ns.length * 10
 | [],_ => by simp [numsB]
 | x :: ns, h => by
  simp only [List.all_cons,Bool.and_eq_true] at h; have ih := numsB_len ns h.2; have hx := h.1; unfold numOk at hx
  simp at hx
  have h1 := ub_len64 (n := x.toNat) (by omega)
  simp only [numsB,List.flatMap_cons,List.length_append,List.length_cons] at ih ⊢
  omega
theorem num_any (B b S c : Nat) (l : List UInt8) (ns : List Int) (w : World) (h : WB w B b l) (hB : B <= w.heap.size) (hS : Blk w S 3 (ns.map (Value.int .i64)).toArray) (hSb : S ≠ b) (hn : ns.length <= 64) (hc : ns.length <= c) (hl : l.length <= 1000000) :
  Calls Tryz.prog 65 #[.pointer (some ⟨b, 0,none⟩), .slice (some ⟨S, 0,none⟩) ns.length c] w fun e w' => POr (bif ns.all numOk then some (l ++ numsB ns) else none) B b w e w' := by
 obtain ⟨n,hnn⟩ := gXe (ns.length); obtain ⟨R,hR⟩ := gXe (ns.all numOk); have hn' := hn; rw [<- hnn] at hn hc ⊢; rw [<- hR]; have HN := gh hnn; have HR := gh hR; have HS := gh hS; have HW := gh h; have HBS := gh hB; have HSB := gh hSb; have HL := gh hl; have HN6 := gh hn'; clear hnn hR hS h hB hSb hl hn'
 go_enter Tryz.func65,Tryz.ntmps65
 go_wp2_with fail
 go_loopw [8] (fun iv wr => ∃ i : Nat,i <= n /\ iv = .int .i64 (i : Int) /\ Hid ((ns.take i).all numOk = true) /\ Hid (WB wr B b (l ++ numsB (ns.take i))) /\ Hid (Below B w wr) /\ Hid (KeepT b w wr)) (fun iv _ => n - (intOf iv).toNat)
 case atStart => exact ⟨0,by omega,rfl,gh rfl,gh (by simpa [numsB] using HW.o),gh (Below.refl _ _),gh (KeepT.refl _ _)⟩
 case round =>
  obtain ⟨i,hi,rfl,HAL,HWR,HBL,HKT⟩ := hrel
  by_cases hlt : i < n
  ·have hil : i < ns.length := by rw [<- HN.o]; exact hlt
   obtain ⟨x,hx⟩ := gXe (ns[i]'hil); have hSr := HKT.o S _ _ (by decide) HSB.o HS.o
   have c0 : wr.cell? ⟨S, i, none⟩ = some (.int .i64 x) := by
    rw [hSr.cell]
    simp [hil,hx]
   have hk0 : (0 : Int) <= (i : Int) := by omega
   have hk1 : (i : Int) < (n : Int) := by omega
   have htk : ns.take (i + 1) = ns.take i ++ [x] := by rw [hx,List.take_succ_eq_append_getElem hil]
   have HTK := gh htk; have hmem : x ∈ ns := by rw [hx]; exact List.getElem_mem hil
   have HBAD : Hid (numOk x = false -> R = false) := gh (fun h => by
    rw [HR.o,Bool.eq_false_iff]; intro hall; rw [List.all_eq_true.1 hall x hmem] at h
    cases h)
   clear hSr hx hmem htk
   by_cases h0 : 0 <= x
   ·by_cases h1 : x <= 10000
    ·have j0 : decide ((0 : Int) <= x) = true := by simpa using h0
     have j1 : decide (x <= (10000 : Int)) = true := by simpa using h1
     obtain ⟨m,rfl⟩ := Int.eq_ofNat_of_zero_le h0; have hm : m < 18446744073709551616 := by omega
     have hub := ub_len64 hm
     have hlen : (l ++ numsB (ns.take i)).length + (uintS m).size <= 140737488355328 := by
      have h1 := numsB_len _ HAL.o; have h2 : (ns.take i).length <= 64 := by rw [List.length_take]; omega
      have h3 : (uintS m).size = (ub m).length := by rw [<- size_list]; simp [uintS]
      have := HL.o; rw [List.length_append,h3]
      omega
     have hcv : IntKind.u64.wrap (m : Int) = m := by rw [IntKind.wrap_u64]; omega
     have hwr : B <= wr.heap.size := Nat.le_trans HBS.o HBL.o.size; have HUI := gh (uint_any m wr.drew hm); have HLE := gh hlen; have HOK : Hid (numOk (m : Int) = true) := gh (by unfold numOk; simp; omega)
     clear hlen hub
     go_wp2_with fail
     refine (pmust_true _ _ _ rfl).mono ?_; rintro e w2 ⟨rfl,rfl⟩
     go_wp2_with fail
     go_region_law (first
      | (go_simp; go_at_call 97; refine HUI.o.mono ?_; rintro e w3 ⟨rfl,hb3⟩; have HW3 := gh (HWR.o.below ((Below.refl wr.heap.size wr).drew.trans hb3)); have HB3 := gh hb3; clear hb3)
      | (go_simp; go_at_call 96; refine (wstr_any B b _ _ _ HW3.o HLE.o (Nat.le_trans hwr HB3.o.size)).mono ?_; rintro e w4 ⟨rfl,hw4,hb4,hk4⟩; have HW4 := gh hw4; have HB4 := gh hb4; have HK4 := gh hk4; clear hw4 hb4 hk4)
      | fail)
     all_goals
      go_wp2
      go_roundw
      case rel =>
       refine ⟨i + 1,by omega,rfl,gh ?_,gh ?_,gh ?_,gh ?_⟩
       ·rw [HTK.o,List.all_append,HAL.o]; simp [HOK.o]
       ·rw [HTK.o,numsB_snoc, <- List.append_assoc]; exact HW4.o
       ·exact HBL.o.trans (((Below.refl wr.heap.size wr).drew.trans HB3.o).mono hwr |>.trans HB4.o)
       ·exact HKT.o.trans ((KeepT.of_below ((Below.refl wr.heap.size wr).drew.trans HB3.o)).trans HK4.o)
      case measure => simp [intOf]; omega
    ·have j0 : decide ((0 : Int) <= x) = true := by simpa using h0
     have j1 : decide (x <= (10000 : Int)) = false := by simpa using h1
     have HRF : Hid (R = false) := gh (HBAD.o (by unfold numOk; rw [j1]; simp))
     go_wp2_with fail
     refine (pmust_false _ _ _ rfl).mono ?_; rintro e w2 ⟨rfl,rfl⟩; unfold pgave
     go_wp2
     rw [HRF.o]; exact ⟨rfl,HBL.o,HKT.o,rfl⟩
   ·have j0 : decide ((0 : Int) <= x) = false := by simpa using h0
    have HRF : Hid (R = false) := gh (HBAD.o (by unfold numOk; rw [j0]; simp))
    go_wp2_with fail
    refine (pmust_false _ _ _ rfl).mono ?_; rintro e w2 ⟨rfl,rfl⟩; unfold pgave
    go_wp2
    rw [HRF.o]; exact ⟨rfl,HBL.o,HKT.o,rfl⟩
  ·obtain rfl : i = n := by omega
   have HRT : Hid (R = true) := gh (by
    have h1 := HAL.o; rw [HN.o,List.take_length] at h1; rw [HR.o]; exact h1)
   have HWF : Hid (WB wr B b (l ++ numsB ns)) := gh (by
    have h1 := HWR.o; rw [HN.o,List.take_length] at h1; exact h1)
   have hk1 : ¬ ((i : Int) < (i : Int)) := by omega
   go_wp2
   go_end0
   rw [HRT.o]; exact ⟨HBL.o,HKT.o,rfl,HWF.o⟩
theorem whole_ok (B b : Nat) (l : List UInt8) (s : ByteArray) (w : World) (h : WB w B b l) (hB : B <= w.heap.size) (hl : l.length + s.size <= 140737488355328) :
  Calls Tryz.prog 101 #[.pointer (some ⟨b, 0,none⟩), .string s, .int .i64 0] w fun e w' => POr (some (l ++ s.data.toList)) B b w e w' := by
 have HS := gh (wstr_any B b l s w h hl hB); clear h
 go_enter Tryz.func101,Tryz.ntmps101
 go_wp2_with fail
 refine (pmust_true _ _ _ rfl).mono ?_; rintro e w2 ⟨rfl,rfl⟩
 go_wp2_with fail
 refine HS.o.mono ?_; rintro e w4 ⟨rfl,hw4,hb4,hk4⟩
 go_wp2
 go_end0
 exact ⟨hb4,hk4,rfl,hw4⟩
theorem whole_bad (B b : Nat) (s : ByteArray) (w : World) :
  Calls Tryz.prog 101 #[.pointer (some ⟨b, 0,none⟩), .string s, .int .i64 5] w fun e w' => POr none B b w e w' := by
 go_enter Tryz.func101,Tryz.ntmps101
 go_wp2_with fail
 refine (pmust_false _ _ _ rfl).mono ?_; rintro e w2 ⟨rfl,rfl⟩; unfold pgave
 go_wp2
 exact ⟨rfl,Below.refl _ _,KeepT.refl _ _,rfl⟩
end Go.Proofs.YtaamihdibpioaaaGreat.Pk
namespace Go.Proofs.YtaamihdibpioaaaGreat.Pk
open Go.RowKit
theorem in_under {B : Nat} {v : Val} {w w' : World} (h : v.In w) (hs : v.Sep (fun c => c < B)) (hb : Below B w w') : v.In w' :=
 h.carryS hs (fun b o hlt _ => hb.cell (p := ⟨b,o,none⟩) hlt) hb.size
theorem POr.map {r : Option (List UInt8)} {B b : Nat} {w w' : World} {e : Ending} (h : POr r B b w e w') : POr r B b w e w' := h
def someR (l : List UInt8) (v : Val) : Option (List UInt8) := (someB v).map (l ++ ·)
theorem psome_any (B b : Nat) (l : List UInt8) (v : Val) (w : World) (h : WB w B b l) (hB : B <= w.heap.size) (hv : v.In w) (hs : v.Sep (fun c => c < B)) (hl : l.length <= 1000000) :
  Calls Tryz.prog 66 #[.pointer (some ⟨b, 0,none⟩),v.agg] w fun e w' => POr (someR l v) B b w e w' := by
 obtain ⟨T,hT⟩ := gXe (w.heap.size); obtain ⟨W,hW⟩ := gXe (w.alloc (.cells #[.int .i64 v.k, .int .i64 v.n, .float .f64 v.f, .string v.s,v.na.val v.ns.length,v.xa.val v.xs.length] 37)); have hbW : Below T w W := by rw [hW,hT]; exact (Below.refl _ _).alloc (Nat.le_refl _) _
 have hkW : KeepT b w W := by rw [hW]; exact (KeepT.refl _ _).alloc _
 have hbx : Blk W T 37 #[.int .i64 v.k, .int .i64 v.n, .float .f64 v.f, .string v.s,v.na.val v.ns.length,v.xa.val v.xs.length] := by rw [hW,hT]; exact Blk.new _ _ _
 have hWB : WB W B b l := h.below (by rw [<- hT]; exact hbW)
 have hvW : v.In W := hv.below (by rw [<- hT]; exact hbW)
 have hBT : B <= T := by rw [hT]; exact hB
 have hbT : b ≠ T := by
  have : b < w.heap.size := by rcases h with h | h <;> exact h.lt
  omega
 have hzw : T < W.heap.size := hbx.lt; obtain ⟨p4,q4,e4⟩ := hv.nslice; obtain ⟨p5,q5,e5⟩ := hv.xslice; have hsame := fun (hk : v.k = 0) => same0_any v W hvW hk
 have hrt := fun (W' : World) (hb : Below W.heap.size W W') => varx_rightf v W' (varX_in (hvW.below hb))
 have hval := fun (W' : World) (hb : Below B W W') => value_any v W' (in_under hvW hs hb)
 have hxag : (varX v).agg = .agg #[.int .i64 2, .string ⟨#[120]⟩, .int .i64 v.k, .int .i64 v.n, .float .f64 v.f, .string v.s,v.na.val v.ns.length,v.xa.val v.xs.length, .slice none 0 0, .slice none 0 0] := rfl; rw [hxag] at hrt; have hzag : Val.zero.agg = .agg #[.int .i64 0, .int .i64 0, .float .f64 0, .string ByteArray.empty, .slice none 0 0, .slice none 0 0] := rfl; rw [hzag] at hsame; have henb := fun (hr : v.RightB = true) => Val.enc_bound v hr hvW
 unfold Val.agg at hsame hval ⊢; rw [e4,e5] at hbx hW hsame hrt hval ⊢; obtain ⟨R,hR⟩ := gXe (someR l v)
 have hR2 : R = (if v.k = 0 then (bif v.noneB then some (l ++ [0]) else none) else (bif v.RightB then some (l ++ (1 :: v.enc)) else none)) := by
  rw [hR]; unfold someR someB
  split
  ·cases v.noneB <;> rfl
  ·cases v.RightB <;> rfl
 rw [<- hR]; obtain ⟨S0,hS0⟩ := gXe (v.same0); obtain ⟨NB,hNB⟩ := gXe (v.noneB); obtain ⟨RB,hRB⟩ := gXe (v.RightB); have hsn : NB = true -> S0 = true := fun hn => by rw [hS0]; exact same0_none (by rw [<- hNB]; exact hn)
 obtain ⟨E,hE⟩ := gXe (v.enc); rw [<- hNB, <- hRB, <- hE] at hR2; simp only [<- hS0] at hsame; simp only [<- hNB] at hrt; rw [<- hRB, <- hE] at henb; simp only [<- hRB, <- hE] at hval; have c0 := hbx.cell 0; have c1 := hbx.cell 1; have c2 := hbx.cell 2; have c3 := hbx.cell 3; have c4 := hbx.cell 4; have c5 := hbx.cell 5; simp only [gX0,gX1,gX2] at c0 c1 c2 c3 c4 c5; have hBT' : B <= W.heap.size := by omega
 have HT := gh hT; have HW := gh hW; have HBW := gh hbW; have HKW := gh hkW; have HBX := gh hbx; have HWB := gh hWB; have HSN := gh hsn; have HR2 := gh hR2; have HSM := gh hsame; have HRT := gh hrt; have HVL := gh hval; have HEN := gh henb; have HL := gh hl; have HBT := gh hBT; have HbT := gh hbT; have HBT' := gh hBT'; clear hW hbW hkW hbx hWB hvW hsn hR2 hsame hrt hval henb hR hS0 hNB hRB hE hl h hv hs e4 e5 hxag hzag hbT hBT' hB hBT; have hwb := fun (c : UInt8) (W' : World) (hb : Below B W W') (hw : WB W' B b l) => wbyte_any B b l c W' hw (by have := HL.o; omega) (Nat.le_trans HBT'.out hb.size)
 have HWY := gh hwb; clear hwb hT
 by_cases hk : v.k = 0
 ·obtain ⟨K, hK⟩ := gXe (v.k)
  rw [hk] at c0 HR2; have HSM := gh (HSM.o hk); simp only [hk] at HSM HRT HBX HW ⊢; rw [if_pos rfl] at HR2; clear hk hK HVL HEN
  go_enter Tryz.func66,Tryz.ntmps66
  go_wp2_with fail
  rw [<- HW.o, <- HT.o]
  go_wp2_with fail
  refine HSM.o.mono ?_; rintro e w1 ⟨rfl,hb1⟩; have B1 := gh hb1; have X1 := gh (HBX.o.below hb1 HBX.o.lt); clear hb1 c0 c1 c2 c3 c4 c5
  cases S0 with
  | false =>
   have HRN : Hid (R = none) := gh (by
    rw [HR2.o]
    cases NB with
    | false => rfl
    | true => exact absurd (HSN.o rfl) (by decide))
   go_wp2_with fail
   refine (pmust_false _ _ _ rfl).mono ?_; rintro e w2 ⟨rfl,rfl⟩; unfold pgave
   go_wp2
   rw [HRN.o]; exact ⟨rfl, (HBW.o.mono HBT.o).trans (B1.o.mono HBT'.out),HKW.o.trans (KeepT.of_below B1.o),rfl⟩
  | true =>
   have c0 := X1.o.cell 0; have c1 := X1.o.cell 1; have c2 := X1.o.cell 2; have c3 := X1.o.cell 3; have c4 := X1.o.cell 4; have c5 := X1.o.cell 5; simp only [gX0,gX1,gX2] at c0 c1 c2 c3 c4 c5; have HR1 := gh (HRT.o w1 B1.o)
   go_wp2_with fail
   refine (pmust_true _ _ _ rfl).mono ?_; rintro e w2 ⟨rfl,rfl⟩
   go_wp2_with fail
   refine HR1.o.mono ?_; rintro e w2 ⟨rfl,hb2⟩; have B2 := gh (B1.o.trans (hb2.mono B1.o.size)); clear hb2 c0 c1 c2 c3 c4 c5 HR1
   cases NB with
   | false =>
    have HRN : Hid (R = none) := gh (by rw [HR2.o]; rfl)
    go_wp2_with fail
    refine (pmust_false _ _ _ rfl).mono ?_; rintro e w3 ⟨rfl,rfl⟩; unfold pgave
    go_wp2
    rw [HRN.o]; exact ⟨rfl, (HBW.o.mono HBT.o).trans (B2.o.mono HBT'.out),HKW.o.trans (KeepT.of_below B2.o),rfl⟩
   | true =>
    have HRN : Hid (R = some (l ++ [0])) := gh (by rw [HR2.o]; rfl)
    have HY := gh (HWY.o 0 w2 (B2.o.mono HBT'.out) (HWB.o.below B2.o))
    go_wp2_with fail
    refine (pmust_true _ _ _ rfl).mono ?_; rintro e w3 ⟨rfl,rfl⟩
    go_wp2_with fail
    refine HY.o.mono ?_; rintro e w4 ⟨rfl,hw4,hb4,hk4⟩; have HF := gh (show Below B w w4 /\ KeepT b w w4 /\ WB w4 B b (l ++ [0]) from ⟨((HBW.o.mono HBT.o).trans (B2.o.mono HBT'.out)).trans hb4, (HKW.o.trans (KeepT.of_below B2.o)).trans hk4,hw4⟩)
    clear hw4 hb4 hk4
    go_wp2
    go_end0
    rw [HRN.o]; exact ⟨HF.o.1,HF.o.2.1,rfl,HF.o.2.2⟩
 ·have i1 : (v.k == 0) = false := by simpa using hk
  rw [if_neg hk] at HR2; have HY := gh (HWY.o 1 W (Below.refl _ _) HWB.o); clear hk HSM HRT HSN HWY
  go_enter Tryz.func66,Tryz.ntmps66
  go_wp2_with fail
  rw [<- HW.o, <- HT.o]
  go_wp2_with fail
  refine HY.o.mono ?_; rintro e w1 ⟨rfl,hw1,hb1,hk1⟩; have X1 := gh (hk1 T _ _ (by decide) (Ne.symm HbT.o) HBX.o)
  have HV := gh (HVL.o w1 hb1); have W1 := gh hw1; have B1 := gh hb1; have K1 := gh hk1; clear hw1 hb1 hk1 HY HVL c0 c1 c2 c3 c4 c5; have c0 := X1.o.cell 0; have c1 := X1.o.cell 1; have c2 := X1.o.cell 2; have c3 := X1.o.cell 3; have c4 := X1.o.cell 4; have c5 := X1.o.cell 5; simp only [gX0,gX1,gX2] at c0 c1 c2 c3 c4 c5
  go_wp2_with fail
  refine HV.o.mono ?_; rintro e w2 ⟨rfl,hb2⟩; have W2 := gh (W1.o.below hb2); have B2 := gh (B1.o.trans (hb2.mono (Nat.le_trans HBT'.out B1.o.size))); have K2 := gh (K1.o.trans (KeepT.of_below hb2)); clear hb2 HV c0 c1 c2 c3 c4 c5
  cases RB with
  | false =>
   have HRN : Hid (R = none) := gh (by rw [HR2.o]; rfl)
   have HH := gh (whole_bad B b ByteArray.empty w2); simp only [cond_false]
   go_wp2_with fail
   refine HH.o.mono ?_; rintro e w3 ⟨hb3,hk3,rfl⟩; have HF := gh (And.intro hb3 hk3); clear hb3 hk3; unfold pgave
   go_wp2
   rw [HRN.o]; exact ⟨rfl, (HBW.o.mono HBT.o).trans (B2.o.trans HF.o.1), (HKW.o.trans K2.o).trans HF.o.2,rfl⟩
  | true =>
   have HRN : Hid (R = some (l ++ (1 :: E))) := gh (by rw [HR2.o]; rfl)
   have hen := HEN.o rfl
   have HH := gh (whole_ok B b (l ++ [1]) ⟨E.toArray⟩ w2 W2.o (Nat.le_trans HBT'.out B2.o.size) (by
    have := HL.o; have e : (⟨E.toArray⟩ : ByteArray).size = E.length := by rw [<- size_list]
    rw [e,List.length_append]
    simp
    omega))
   clear hen; simp only [cond_true]
   go_wp2_with fail
   refine HH.o.mono ?_; rintro e w3 ⟨hb3,hk3,rfl,hw3⟩; have e : l ++ [1] ++ E = l ++ (1 :: E) := by simp
   have HF := gh (show Below B w w3 /\ KeepT b w w3 /\ WB w3 B b (l ++ (1 :: E)) from ⟨(HBW.o.mono HBT.o).trans (B2.o.trans hb3), (HKW.o.trans K2.o).trans hk3,by rw [<- e]; exact hw3⟩)
   clear hb3 hk3 hw3 e
   go_wp2
   go_end0
   rw [HRN.o]; exact ⟨HF.o.1,HF.o.2.1,rfl,HF.o.2.2⟩
end Go.Proofs.YtaamihdibpioaaaGreat.Pk
namespace Go.Proofs.YtaamihdibpioaaaGreat.Pk
open Go.RowKit
theorem as_errno2 (W : World) (v : Value) : (Instr.typeAssert (.iface 25 v) 20 25 true).run Tryz.prog W = .ok (.tuple #[v, .bool true]) W := by kernel_rfl
theorem as_nil2 (W : World) : (Instr.typeAssert .nilIface 20 25 true).run Tryz.prog W = .ok (.tuple #[.int .i64 0, .bool false]) W := by kernel_rfl
theorem pcaught_panicking (E : Nat) (k : Int) (y : Value) (older : List PanicEntry) (w : World) (hE : Blk w E 25 #[y]) :
  CallsD Tryz.prog 69 #[.pointer (some ⟨E, 0, none⟩)] (.panicking ({ v := .iface 25 (.int .i64 k), recovered := false } :: older)) w fun e u' w' =>
   e = .returned (.tuple #[]) /\ u' = .panicking ({ v := .iface 25 (.int .i64 k),recovered := true } :: older) /\ w' = w.setCell ⟨E, 0,none⟩ (.int .i64 k) := by
 have c3 := hE.cell 0; have f3 := hE.frozen 0
 simp at c3
 refine callsD_of_wpS Tryz.func69 rfl fun c₀ cs hu => ?_
 apply wpS_seq
 apply wpS_region
 simp [wpOpsS,go_sem,recoverD,hu,Tryz.ntmps69,Exit.thenS,as_errno2]
 apply wpS_seq
 apply wpS_region
 simp [wpOpsS,go_sem,Exit.thenS]
 refine wpS_cond (t := true) (by simp [Act.eval]) ?_
 simp only [if_true]
 apply wpS_region
 simp [wpOpsS,go_sem,c3,f3,bodyPostS,results,Tryz.results69]
theorem pcaught_idle (p : Addr) (w : World) :
  CallsD Tryz.prog 69 #[.pointer (some p)] .returning w fun e u' w' => e = .returned (.tuple #[]) /\ u' = .returning /\ w' = w := by
 refine callsD_of_wpS Tryz.func69 rfl fun c₀ cs hu => ?_
 apply wpS_seq
 apply wpS_region
 simp [wpOpsS,go_sem,recoverD,hu,Tryz.ntmps69,Exit.thenS,as_nil2]
 apply wpS_seq
 apply wpS_region
 simp [wpOpsS,go_sem,Exit.thenS]
 refine wpS_cond (t := false) (by simp [Act.eval]) ?_
 simp only [Bool.false_eq_true,if_false]; refine wpS_of_wp (wp_skip ?_)
 cases c₀
 simp_all [bodyPostS,results,Tryz.results69]
theorem someR_none {l : List UInt8} {v : Val} (h : someB v = none) : someR l v = none := by unfold someR; rw [h]; rfl
theorem someR_some {l a : List UInt8} {v : Val} (h : someB v = some a) : someR l v = some (l ++ a) := by unfold someR; rw [h]; rfl
theorem someB_len {w : World} {v : Val} {l : List UInt8} (hv : v.In w) (h : someB v = some l) : l.length <= 60001 := by
 unfold someB at h
 split at h
 ·cases hn : v.noneB with
  | false => rw [hn] at h; cases h
  | true => rw [hn] at h; injection h with h; subst h; simp
 ·cases hn : v.RightB with
  | false => rw [hn] at h; cases h
  | true =>
   rw [hn] at h; injection h with h; subst h; have := Val.enc_bound v hn hv; simp only [List.length_cons]
   omega
theorem clo_cmd (B b C : Nat) (c : Cm) (w : World) (h : WB w B b []) (hB : B <= w.heap.size) (hC : Blk w C 39 c.cells.toArray) (hCB : C < B) (hc : c.In w) (hs : c.Sep (fun c => c < B)) :
  Calls Tryz.prog 64 #[.pointer (some ⟨b, 0,none⟩), .pointer (some ⟨C, 0,none⟩)] w fun e w' => POr c.enc B b w e w' := by
 obtain ⟨p4,q4,e4⟩ := hc.2.1.nslice; obtain ⟨p5,q5,e5⟩ := hc.2.1.xslice; obtain ⟨r4,t4,f4⟩ := hc.2.2.nslice; obtain ⟨r5,t5,f5⟩ := hc.2.2.xslice
 have hcell : ∀ w', Below B w w' -> Blk w' C 39 #[.int .i64 c.k, .int .i64 c.nd, .int .i64 c.il, .int .i64 c.inn, .int .i64 c.n, .int .i64 c.key.k, .int .i64 c.key.n, .float .f64 c.key.f, .string c.key.s, .slice p4 c.key.ns.length q4, .slice p5 c.key.xs.length q5, .int .i64 c.v.k, .int .i64 c.v.n, .float .f64 c.v.f, .string c.v.s, .slice r4 c.v.ns.length t4, .slice r5 c.v.xs.length t5] := fun w' hb => by
  have := hC.below hb hCB; unfold Cm.cells Val.cells at this; rw [e4,e5,f4,f5] at this; exact this
 have hBb : B <= b := by rcases h with h | h <;> exact h.1
 have hbl : b < w.heap.size := by rcases h with h | h <;> exact h.lt
 obtain ⟨S,hS⟩ := gXe (w.heap.size); obtain ⟨W,hW⟩ := gXe (w.alloc (.cells #[.int .i64 c.k, .int .i64 c.nd, .int .i64 c.il, .int .i64 c.inn, .int .i64 c.n] 3)); have hbW : Below w.heap.size w W := by rw [hW]; exact (Below.refl _ _).alloc (Nat.le_refl _) _
 have hnum := num_any B b S 5 [] c.ints W (h.below hbW) (Nat.le_trans hB hbW.size) (by rw [hW,hS]; exact Blk.new _ _ _) (by omega) (by simp [Cm.ints]) (by simp [Cm.ints]) (by simp)
 have hnl := numsB_len c.ints; have hk := fun (l : List UInt8) (hl : l.length <= 1000000) (w' : World) (hb : Below B w w') (hw : WB w' B b l) => psome_any B b l c.key w' hw (Nat.le_trans hB hb.size) (in_under hc.2.1 hs.1 hb) hs.1 hl
 have hv := fun (l : List UInt8) (hl : l.length <= 1000000) (w' : World) (hb : Below B w w') (hw : WB w' B b l) => psome_any B b l c.v w' hw (Nat.le_trans hB hb.size) (in_under hc.2.2 hs.2 hb) hs.2 hl
 have hkl := fun (l : List UInt8) (hl : someB c.key = some l) => someB_len hc.2.1 hl
 have hR : c.enc = bif c.ints.all numOk then (match someB c.key with | none => none | some a => match someB c.v with | none => none | some b => some (numsB c.ints ++ a ++ b)) else none := rfl
 obtain ⟨R,hR'⟩ : ∃ R,R = c.enc := ⟨_,rfl⟩; rw [<- hR'] at hR ⊢; have hil : c.ints.length = 5 := rfl; rw [hil] at hnum; obtain ⟨NO,hNO⟩ := gXe (c.ints.all numOk); obtain ⟨NL,hNL⟩ := gXe (numsB c.ints); rw [<- hNO, <- hNL] at hnum hR; rw [<- hNO, <- hNL,hil] at hnl; have hkag : c.key.agg = .agg #[.int .i64 c.key.k, .int .i64 c.key.n, .float .f64 c.key.f, .string c.key.s, .slice p4 c.key.ns.length q4, .slice p5 c.key.xs.length q5] := by unfold Val.agg; rw [e4,e5]
 have hvag : c.v.agg = .agg #[.int .i64 c.v.k, .int .i64 c.v.n, .float .f64 c.v.f, .string c.v.s, .slice r4 c.v.ns.length t4, .slice r5 c.v.xs.length t5] := by unfold Val.agg; rw [f4,f5]
 rw [hkag] at hk; rw [hvag] at hv; have hc0 := hcell w (Below.refl _ _); have c0 := hc0.cell 0; have c1 := hc0.cell 1; have c2 := hc0.cell 2; have c3 := hc0.cell 3; have c4 := hc0.cell 4; simp only [gX0,gX1,gX2] at c0 c1 c2 c3 c4; have hbWB : Below B w W := hbW.mono hB; have hkW : KeepT b w W := KeepT.of_below hbW; have HW := gh hW; have HS := gh hS; have HNU := gh hnum; have HNL := gh hnl; have HK := gh hk; have HV := gh hv; have HKL := gh hkl; have HR := gh hR; have HBW := gh hbWB; have HKW := gh hkW; have HCE := gh hcell; clear hW hS hnum hnl hk hv hkl hR hbW hbWB hkW hcell hc0 h hB hC hCB hc hs e4 e5 f4 f5 hR' hNO hNL hkag hvag hBb hbl hil
 go_enter Tryz.func64,Tryz.ntmps64
 go_wp2_with fail
 rw [<- HW.o, <- HS.o]; refine HNU.o.mono ?_
 cases NO with
 | false =>
  rintro e w1 ⟨hb1,hk1,rfl⟩; have HF := gh (And.intro (HBW.o.trans hb1) (HKW.o.trans hk1)); clear hb1 hk1; unfold pgave
  go_wp2
  rw [HR.o]; exact ⟨rfl,HF.o.1,HF.o.2,rfl⟩
 | true =>
  simp only [cond_true,List.nil_append]; rintro e w1 ⟨hb1,hk1,rfl,hw1⟩; have B1 := gh (HBW.o.trans hb1); have K1 := gh (HKW.o.trans hk1); have hnl := HNL.o rfl; have HK1 := gh (HK.o NL (by omega) w1 B1.o hw1)
  have hX := HCE.o w1 B1.o; clear hb1 hk1 hw1 c0 c1 c2 c3 c4 HNU HNL HK; have c5 := hX.cell 5; have c6 := hX.cell 6; have c7 := hX.cell 7; have c8 := hX.cell 8; have c9 := hX.cell 9; have c10 := hX.cell 10; simp only [gX0,gX1,gX2] at c5 c6 c7 c8 c9 c10; clear hX
  go_wp2_with fail
  refine HK1.o.mono ?_; clear c5 c6 c7 c8 c9 c10
  cases hk : someB c.key with
  | none =>
   rw [someR_none hk]; rintro e w2 ⟨hb2,hk2,rfl⟩; have HF := gh (And.intro (B1.o.trans hb2) (K1.o.trans hk2)); have HRN : Hid (R = none) := gh (by rw [HR.o,hk]; rfl)
   clear hb2 hk2 hk; unfold pgave
   go_wp2
   rw [HRN.o]; exact ⟨rfl,HF.o.1,HF.o.2,rfl⟩
  | some a =>
   rw [someR_some hk]; have hal := HKL.o a hk; rintro e w2 ⟨hb2,hk2,rfl,hw2⟩; have B2 := gh (B1.o.trans hb2); have K2 := gh (K1.o.trans hk2); have HV1 := gh (HV.o (NL ++ a) (by rw [List.length_append]; omega) w2 B2.o hw2)
   have hX := HCE.o w2 B2.o; have HKE := gh hk; clear hb2 hk2 hw2 HV HK1 HKL hk hal hnl; have c11 := hX.cell 11; have c12 := hX.cell 12; have c13 := hX.cell 13; have c14 := hX.cell 14; have c15 := hX.cell 15; have c16 := hX.cell 16; simp only [gX0,gX1,gX2] at c11 c12 c13 c14 c15 c16; clear hX
   go_wp2_with fail
   refine HV1.o.mono ?_; clear c11 c12 c13 c14 c15 c16
   cases hv : someB c.v with
   | none =>
    rw [someR_none hv]; rintro e w3 ⟨hb3,hk3,rfl⟩; have HF := gh (And.intro (B2.o.trans hb3) (K2.o.trans hk3)); have HRN : Hid (R = none) := gh (by rw [HR.o,HKE.o,hv]; rfl)
    clear hb3 hk3 hv; unfold pgave
    go_wp2
    rw [HRN.o]; exact ⟨rfl,HF.o.1,HF.o.2,rfl⟩
   | some d =>
    rw [someR_some hv]; rintro e w3 ⟨hb3,hk3,rfl,hw3⟩; have HF := gh (And.intro (B2.o.trans hb3) (And.intro (K2.o.trans hk3) hw3)); have HRN : Hid (R = some (NL ++ a ++ d)) := gh (by rw [HR.o,HKE.o,hv]; rfl)
    clear hb3 hk3 hv hw3
    go_wp2
    go_end0
    rw [HRN.o]; exact ⟨HF.o.1,HF.o.2.1,rfl,HF.o.2.2⟩
def cmdS : Option (List UInt8) -> ByteArray
 | some l => ⟨l.toArray⟩
 | none => ByteArray.empty
def cmdErr : Option (List UInt8) -> Int
 | some _ => 0
 | none => 5
def Cmded (r : Option (List UInt8)) (w : World) (e : Ending) (w' : World) : Prop :=
 Below w.heap.size w w' /\ e = .returned (.tuple #[.string (cmdS r), .int .i64 (cmdErr r)])
theorem pwb_new (w : World) (B : Nat) (hB : B <= w.heap.size) : WB (w.alloc (.cells #[.pointer none, .slice none 0 0] 157)) B w.heap.size [] :=
 .inl ⟨hB, .slice none 0 0,Blk.new w 157 _,⟨rfl, .inl ⟨rfl,rfl⟩⟩,by simp [Value.ownBlock]⟩
theorem numsB_ne {x : Int} {xs : List Int} : numsB (x :: xs) ≠ [] := by
 simp [numsB,ub_ne]
theorem enc_ne {c : Cm} {l : List UInt8} (h : c.enc = some l) : l ≠ [] := by
 unfold Cm.enc at h
 cases hA : c.ints.all numOk with
 | false => rw [hA] at h; cases h
 | true =>
  rw [hA] at h; simp only [cond_true] at h
  cases hk : someB c.key with
  | none => rw [hk] at h; cases h
  | some a =>
   rw [hk] at h; simp only at h
   cases hv : someB c.v with
   | none => rw [hv] at h; cases h
   | some b =>
    rw [hv] at h; injection h with h; rw [<- h]; intro he; have h1 := (List.append_eq_nil_iff.1 (List.append_eq_nil_iff.1 he).1).1; exact numsB_ne h1
theorem enter_cmd (args : Array Value) (W : World) : (callFunc 64 args).run Tryz.prog W = .ok (.enter 64 args) W := run_enter Tryz.func64 (by kernel_rfl) rfl args W
theorem written_any (C : Nat) (c : Cm) (w : World) (hC : Blk w C 39 c.cells.toArray) (hc : c.In w) :
  Calls Tryz.prog 63 #[.func (Fn.func 64) #[] #[.pointer (some ⟨C, 0,none⟩)]] w fun e w' => Cmded c.enc w e w' := by
 have hen := enter_cmd; obtain ⟨E,hE⟩ := gXe (w.heap.size); obtain ⟨W,hW⟩ := gXe ((w.alloc (.cells #[.int .i64 0] 25)).alloc (.cells #[.pointer none, .slice none 0 0] 157)); have hbW : Below E w W := by rw [hW,hE]; exact ((Below.refl _ _).alloc (Nat.le_refl _) _).alloc (by simp) _
 have hbE : Blk W E 25 #[.int .i64 0] := by rw [hW,hE]; exact (Blk.new _ _ _).alloc _
 have hz : W.heap.size = E + 1 + 1 := by rw [hW,hE]; simp
 have hwb : WB W (E + 1) (E + 1) [] := by
  rw [hW]; have := pwb_new (w.alloc (.cells #[.int .i64 0] 25)) (E + 1) (by rw [hE]; simp)
  have e : (w.alloc (.cells #[.int .i64 0] 25)).heap.size = E + 1 := by rw [hE]; simp
  rw [e] at this; exact this
 have hbl := hc.below (by rw [<- hE]; exact hbW)
 have hlt := hC.lt
 have hclo := clo_cmd (E + 1) (E + 1) C c W hwb (by omega) (hC.below hbW (by omega)) (by omega) hbl (by
  have h1 := cmE.lt hc; exact cmE.mono h1 (fun b hb => by have hb' : b < w.heap.size := hb; omega))
 obtain ⟨R,hR⟩ := gXe (c.enc); have hne := fun l (h : R = some l) => enc_ne (c := c) (l := l) (by rw [<- hR]; exact h)
 rw [<- hR] at hclo ⊢; have HE := gh hE; have HW := gh hW; have HB := gh hbW; have HBE := gh hbE; have HC := gh hclo; have HNE := gh hne; have HZ := gh hz; clear hE hW hbW hbE hz hwb hbl hlt hclo hR hne hC hc
 go_enter_defers Tryz.func63,Tryz.ntmps63
 go_wp2_with fail
 rw [<- HW.o, <- HE.o]; refine HC.o.mono ?_
 cases R with
 | none =>
  rintro e w1 ⟨hb1,hk1,rfl⟩; have hE1 := HBE.o.below hb1 (Nat.lt_succ_self _); have hset := hE1.set_ 0 (.int .i64 5); have e3 := hset.cell 0
  simp at e3
  have HE1 := gh hE1; have E3 := gh e3; have HF := gh ((HB.o.trans (hb1.mono (Nat.le_succ _))).setCell (p := ⟨E, 0,none⟩) (Nat.le_refl _) (.int .i64 5)); clear hb1 hk1 hE1 hset e3; unfold pgave
  go_wp2
  refine leaves_cons (f := 69) (args := #[.pointer (some ⟨E, 0,none⟩)]) (by simp) (by simp [go_sem]) ?_
  refine (pcaught_panicking E 5 _ [] _ HE1.o).mono ?_; rintro e u' w'' ⟨rfl,rfl,rfl⟩; have e3 := E3.o
  simp [Leaves,settle,results,Tryz.results63,go_sem,e3]
  refine ⟨?_,rfl⟩; rw [<- HE.o]; exact HF.o
 | some l =>
  rintro e w1 ⟨hb1,hk1,rfl,hw1⟩; have hE1 := HBE.o.below hb1 (Nat.lt_succ_self _); have HS := gh (string_some (E + 1) (E + 1) w1 l hw1 (HNE.o l rfl)); have HE1 := gh hE1; have B1 := gh (HB.o.trans (hb1.mono (Nat.le_succ _))); have hw1z : E + 1 <= w1.heap.size := by have := hb1.size; have := HZ.o; omega
  clear hb1 hk1 hE1 hw1
  go_wp2_with fail
  refine HS.o.mono ?_; rintro e w2 ⟨rfl,hb2⟩; have hE2 := HE1.o.below hb2 (Nat.lt_succ_self _); have c0 := hE2.cell 0; have f0 := hE2.frozen 0
  simp at c0
  have hset := hE2.set_ 0 (.int .i64 0); have e3 := hset.cell 0
  simp at e3
  have E3 := gh e3; have HF := gh ((B1.o.trans (hb2.mono (Nat.le_succ _))).setCell (p := ⟨E, 0,none⟩) (Nat.le_refl _) (.int .i64 0)); clear hb2 hE2 hset e3 HS
  go_wp2
  refine leaves_cons (f := 69) (args := #[.pointer (some ⟨E, 0,none⟩)]) (by simp) (by simp [go_sem]) ?_
  refine (pcaught_idle _ _).mono ?_; rintro e u' w'' ⟨rfl,rfl,rfl⟩; have e3 := E3.o
  simp [Leaves,settle,results,Tryz.results63,go_sem,e3]
  refine ⟨?_,rfl⟩; rw [<- HE.o]; exact HF.o
theorem cmd_any (c : Cm) (w : World) (hc : c.In w) : Calls Tryz.prog 42 #[c.agg] w fun e w' => Cmded c.enc w e w' := by
 have hmf : ∀ (fn : Fn) (first cap : Array Value) (w : World), (Instr.makeFunc fn first cap).run Tryz.prog w = .ok (.func fn first cap) w := fun _ _ _ _ => rfl
 obtain ⟨W,hW⟩ := gXe (w.alloc (.cells c.cells.toArray 39)); have hb : Below w.heap.size w W := by rw [hW]; exact (Below.refl _ _).alloc (Nat.le_refl _) _
 have hC : Blk W w.heap.size 39 c.cells.toArray := by rw [hW]; exact Blk.new _ _ _
 have hwr := written_any w.heap.size c W hC (hc.below hb); obtain ⟨p4,q4,e4⟩ := hc.2.1.nslice; obtain ⟨p5,q5,e5⟩ := hc.2.1.xslice; obtain ⟨r4,t4,f4⟩ := hc.2.2.nslice; obtain ⟨r5,t5,f5⟩ := hc.2.2.xslice; unfold Cm.cells Val.cells at hW; unfold Cm.agg Cm.cells Val.cells; rw [e4,e5,f4,f5] at hW ⊢; have HW := gh hW; have HB := gh hb; have HWR := gh hwr; clear hW hb hC hwr e4 e5 f4 f5 hc; simp only [List.cons_append,List.nil_append] at HW ⊢
 go_enter Tryz.func42,Tryz.ntmps42
 go_wp2_with fail
 rw [<- HW.o]; refine HWR.o.mono ?_; rintro e w1 ⟨hb1,rfl⟩; have HF := gh (HB.o.trans (hb1.mono HB.o.size)); clear hb1
 go_wp2
 go_ret2
 exact ⟨HF.o,rfl⟩
end Go.Proofs.YtaamihdibpioaaaGreat.Pk
namespace Go.Proofs.YtaamihdibpioaaaGreat.Pk
open Go.RowKit
def PRd (w : World) (g : Nat) (s : ByteArray) (p : Nat) : Prop := Blk w g 132 #[.string s, .int .i64 p]
def PNum (r : Option (Nat × Nat)) (s : ByteArray) (g : Nat) (w : World) (e : Ending) (w' : World) : Prop :=
 Only w w' g /\ match r with
 | some (n,q) => e = .returned (.int .i64 n) /\ PRd w' g s q
 | none => e = pgave 5
theorem below_onlyD {w w1 w2 : World} {g : Nat} (h : Below w.drew.heap.size w.drew w1) : Only w w1 g := Only.of_below ((Below.refl w.heap.size w).drew.trans h) g
theorem prnum_any (s : ByteArray) (p g : Nat) (w : World) (hs : s.size <= 100000) (hp : p <= s.size) (h : PRd w g s p) :
  Calls Tryz.prog 70 #[.pointer (some ⟨g, 0,none⟩)] w fun e w' => PNum (rdN s p) s g w e w' := by
 have h0 := h.cell 0; have h1 := h.cell 1
 simp at h0 h1
 have hr := readuint_any s p w.drew hs hp; have hE : rdN s p = match readU s p 0 0 with | .ok (n,q) => if n <= 10000 then some (n,q) else none | .error _ => none := rfl
 obtain ⟨R,hR⟩ := gXe (rdN s p); rw [<- hR] at hE ⊢
 cases hu : readU s p 0 0 with
 | error k =>
  have hk : (k == 0) = false := by rcases readU_err2 s p 0 0 k hu with rfl | rfl <;> rfl
  rw [hu] at hr hE; have HR := gh hr; have HE := gh hE; clear hr hE hu hR h
  go_enter Tryz.func70,Tryz.ntmps70
  go_wp2_with fail
  go_region_law (first | (go_simp; go_at_call 104; refine HR.o.mono ?_; rintro e w1 ⟨hb1,rfl⟩; have HO := gh (below_onlyD (g := g) (w2 := w1) hb1); clear hb1) | fail)
  all_goals
   go_wp2_with fail
   refine (pmust_false _ _ _ rfl).mono ?_; rintro e w2 ⟨rfl,rfl⟩; unfold pgave
   go_wp2
   rw [HE.o]; exact ⟨rfl,HO.o,rfl⟩
 | ok x =>
  obtain ⟨n,q⟩ := x; rw [hu] at hr hE; simp only at hE
  by_cases hn : n <= 10000
  ·rw [if_pos hn] at hE
   have j1 : decide ((n : Int) <= 10000) = true := by simp; omega
   have hcv : IntKind.i64.wrap (n : Int) = n := IntWalk.i64_in _ (by omega)
   have HR := gh hr; have HE := gh hE; have HH := gh h; have hlt := h.lt; clear hr hE hu hR h hn
   go_enter Tryz.func70,Tryz.ntmps70
   go_wp2_with fail
   go_region_law (first
    | (go_simp; go_at_call 104; refine HR.o.mono ?_; rintro e w1 ⟨hb1, rfl⟩;
       have hb1' : Below w.heap.size w w1 := (Below.refl w.heap.size w).drew.trans hb1;
       have hrd := Blk.below HH.o hb1' hlt;
       have c1 := hrd.cell 1; have f1 := hrd.frozen 1;
       simp at c1;
       have hset := hrd.set_ 1 (.int .i64 q);
       have HF := gh (And.intro ((Only.of_below hb1' g).set_ (p := ⟨g, 1,none⟩) (.inl rfl) (.int .i64 q)) hset);
       clear hb1 hb1' hrd hset h0 h1)
    | fail)
   all_goals
    go_wp2_with fail
    refine (pmust_true _ _ _ rfl).mono ?_; rintro e w2 ⟨rfl,rfl⟩
    go_wp2
    go_ret
    rw [HE.o]; exact ⟨HF.o.1,rfl,HF.o.2⟩
  ·rw [if_neg hn] at hE
   have j1 : decide ((n : Int) <= 10000) = false := by simp; omega
   have HR := gh hr; have HE := gh hE; clear hr hE hu hR h hn
   go_enter Tryz.func70,Tryz.ntmps70
   go_wp2_with fail
   go_region_law (first | (go_simp; go_at_call 104; refine HR.o.mono ?_; rintro e w1 ⟨hb1,rfl⟩; have HO := gh (below_onlyD (g := g) (w2 := w1) hb1); clear hb1) | fail)
   all_goals
    go_wp2_with fail
    refine (pmust_false _ _ _ rfl).mono ?_; rintro e w2 ⟨rfl,rfl⟩; unfold pgave
    go_wp2
    rw [HE.o]; exact ⟨rfl,HO.o,rfl⟩
def PSome (r : Option (Val × Nat)) (s : ByteArray) (g : Nat) (w : World) (e : Ending) (w' : World) : Prop :=
 Only w w' g /\ match r with
 | some (v,q) => ∃ u : Val,e = .returned u.agg /\ u.erase = v /\ u.In w' /\ u.Sep (fun b => w.heap.size <= b) /\ PRd w' g s q
 | none => e = pgave 5
def optV : Except Int (Val × Nat) -> Option (Val × Nat)
 | .ok (v,q) => some (v,q)
 | .error _ => none
def rdVal (s : ByteArray) (p : Nat) : Option (Val × Nat) := optV (readVAt s (p : Int))
theorem readVAt_err {s : ByteArray} {a k : Int} (h : readVAt s a = .error k) : (k == 0) = false := by
 unfold readVAt at h
 split at h
 ·unfold readV at h
  cases hr : rdV s 12 a.toNat 0 with
  | error k' =>
   rw [hr] at h; injection h with h; subst h
   rcases rdV_err2 s 12 _ 0 _ hr with rfl | rfl <;> rfl
  | ok x =>
   obtain ⟨v,q,m⟩ := x; rw [hr] at h; simp only at h
   cases hv : v.RightB with
   | true => rw [hv] at h; cases h
   | false => rw [hv] at h; injection h with h; subst h; rfl
 ·injection h with h
  subst h
  rfl
def VOut (r : Except Int (Val × Nat)) (u : Val) (q k : Int) : Prop := match r with
 | .ok (v,q') => k = 0 /\ q = q' /\ u.erase = v
 | .error k' => k = k'
theorem zero_in (W : World) : Val.zero.In W := by
 rw [Val.in_iff]; exact ⟨⟨by unfold i64r; decide,by unfold i64r; decide,by decide,by unfold strok; decide,by decide,by decide,fun s hs => by cases hs⟩,rfl,rfl,fun x hx => by cases hx⟩
theorem zero_sep (S : Nat -> Prop) : Val.zero.Sep S := by
 rw [Val.sep_iff]; exact ⟨trivial,trivial,fun x hx => by cases hx⟩
theorem ReadVSep.any {r : Except Int (Val × Nat)} {w w' : World} {e : Ending} (h : ReadVSep r w e w') :
  Below w.heap.size w w' /\ ∃ (u : Val) (q k : Int),e = .returned (.tuple #[u.agg, .int .i64 q, .int .i64 k]) /\ u.In w' /\ u.Sep (fun b => w.heap.size <= b) /\ VOut r u q k := by
 refine ⟨h.1,?_⟩; have h2 := h.2
 cases r with
 | error k => exact ⟨Val.zero, 0,k,h2,zero_in _,zero_sep _,rfl⟩
 | ok x =>
  obtain ⟨v,q⟩ := x; obtain ⟨u,h3,h4,h5,h6⟩ := h2; exact ⟨u,q, 0,h3,h5,h6,rfl,rfl,h4⟩
theorem below6' {B V : Nat} {W w6 : World} (h : Below B W w6) (hV : B <= V) (u0 u1 u2 u3 u4 u5 : Value) :
  Below B W ((((((w6.setCell ⟨V, 0,none⟩ u0).setCell ⟨V, 1,none⟩ u1).setCell ⟨V, 2,none⟩ u2).setCell ⟨V, 3,none⟩ u3).setCell ⟨V, 4,none⟩ u4).setCell ⟨V, 5,none⟩ u5) :=
 (((((h.setCell (p := ⟨V, 0,none⟩) hV u0).setCell (p := ⟨V, 1,none⟩) hV u1).setCell (p := ⟨V, 2,none⟩) hV u2).setCell (p := ⟨V, 3,none⟩) hV u3).setCell (p := ⟨V, 4,none⟩) hV u4).setCell (p := ⟨V, 5,none⟩) hV u5
def VRel (r : Except Int (Val × Nat)) (W : World) (a3 a4 a5 : Value) (wx : World) : Prop :=
 ∃ (V : Nat) (u : Val) (q k : Int),a3 = .pointer (some ⟨V, 0,none⟩) /\ a4 = .int .i64 q /\ a5 = .int .i64 k /\ W.heap.size <= V /\ Below W.heap.size W wx /\ Blk wx V 37 u.cells.toArray /\ u.In wx /\ u.Sep (fun b => W.heap.size <= b) /\ VOut r u q k
def z6 : Array Value := #[.int .i64 0, .int .i64 0, .float .f64 0, .string ⟨#[]⟩, .slice none 0 0, .slice none 0 0]
theorem vrel_new {r : Except Int (Val × Nat)} {W w6 : World} {u : Val} {q k : Int} {a4 a5 : Option Addr} {b4 b5 : Nat} (hb : Below W.heap.size W w6) (k4 : u.na.val u.ns.length = .slice a4 u.ns.length b4) (k5 : u.xa.val u.xs.length = .slice a5 u.xs.length b5) (hi : u.In w6) (hs : u.Sep (fun b => W.heap.size <= b)) (ho : VOut r u q k) :
  VRel r W (.pointer (some ⟨w6.heap.size, 0,none⟩)) (.int .i64 q) (.int .i64 k) (w6.alloc (.cells #[.int .i64 u.k, .int .i64 u.n, .float .f64 u.f, .string u.s, .slice a4 u.ns.length b4, .slice a5 u.xs.length b5] 37)) := by
 have hal : Below w6.heap.size w6 (w6.alloc (.cells #[.int .i64 u.k, .int .i64 u.n, .float .f64 u.f, .string u.s, .slice a4 u.ns.length b4, .slice a5 u.xs.length b5] 37)) := (Below.refl _ _).alloc (Nat.le_refl _) _; refine ⟨_,u,q,k,rfl,rfl,rfl,hb.size,hb.trans (hal.mono hb.size),?_,hi.below hal,hs,ho⟩; unfold Val.cells; rw [k4,k5]; exact Blk.new _ _ _
theorem vrel_set {r : Except Int (Val × Nat)} {W w6 : World} {u : Val} {q k : Int} {X : Nat} {a4 a5 : Option Addr} {b4 b5 : Nat} (hb : Below W.heap.size W w6) (hX : X = W.heap.size) (hX6 : Blk w6 X 37 #[.int .i64 0, .int .i64 0, .float .f64 0, .string ⟨#[]⟩, .slice none 0 0, .slice none 0 0]) (k4 : u.na.val u.ns.length = .slice a4 u.ns.length b4) (k5 : u.xa.val u.xs.length = .slice a5 u.xs.length b5) (hi : u.In w6) (hs : u.Sep (fun b => X + 1 <= b)) (ho : VOut r u q k) :
  VRel r W (.pointer (some ⟨X, 0,none⟩)) (.int .i64 q) (.int .i64 k) ((((((w6.setCell ⟨X, 0,none⟩ (.int .i64 u.k)).setCell ⟨X, 1,none⟩ (.int .i64 u.n)).setCell ⟨X, 2,none⟩ (.float .f64 u.f)).setCell ⟨X, 3,none⟩ (.string u.s)).setCell ⟨X, 4,none⟩ (.slice a4 u.ns.length b4)).setCell ⟨X, 5,none⟩ (.slice a5 u.xs.length b5)) := by
 have b2 : Blk w6 X 37 [.int .i64 0, .int .i64 0, .float .f64 0, .string ⟨#[]⟩, .slice none 0 0, .slice none 0 0].toArray := hX6; have hst := stored6' b2 (.int .i64 u.k) (.int .i64 u.n) (.float .f64 u.f) (.string u.s) (.slice a4 u.ns.length b4) (.slice a5 u.xs.length b5); refine ⟨X,u,q,k,rfl,rfl,rfl,by omega,Go.Proofs.YtaamihdibpioaaaGreat.Below.only hb hst.2 (by omega) hb.size,?_,hi.carryS hs (fun b o hb' hlt => only_cell hst.2 (by have hb2 : X + 1 <= b := hb'; omega) hlt o) hst.2.size,hs.mono (fun b hb => by have hb2 : X + 1 <= b := hb; omega),ho⟩
 unfold Val.cells; rw [k4,k5]; exact hst.1
theorem prval_any (s : ByteArray) (p g : Nat) (w : World) (hs : s.size <= 100000) (h : PRd w g s p) :
  Calls Tryz.prog 105 #[.pointer (some ⟨g, 0,none⟩)] w fun e w' => PSome (rdVal s p) s g w e w' := by
 have hsf := run_store_flt; obtain ⟨R,hR⟩ := gXe (w.heap.size); obtain ⟨W,hW⟩ := gXe (w.alloc (.cells #[.int .i64 0, .int .i64 0, .float .f64 0, .string ⟨#[]⟩, .slice none 0 0, .slice none 0 0] 37)); have bm : Blk W R 37 [.int .i64 0, .int .i64 0, .float .f64 0, .string ⟨#[]⟩, .slice none 0 0, .slice none 0 0].toArray := by rw [hW,hR]; exact Blk.new w 37 _
 have hB : Below w.heap.size w W := by rw [hW]; exact (Below.refl _ _).alloc (Nat.le_refl _) _
 have hg : PRd W g s p := by rw [hW]; exact Blk.alloc h _
 have hglt := h.lt; have hgR : g ≠ R := by omega
 have hgR' : g < R := by omega
 have h0 := hg.cell 0; have h1 := hg.cell 1
 simp at h0 h1
 have hWR : R + 1 = W.heap.size := by rw [hW,hR]; simp
 have hgW : g < W.heap.size := by omega
 have hr := fun (W' : World) (hb : Below W.heap.size W W') => readval_sep s p W' hs
 obtain ⟨RV,hRV⟩ := gXe (readVAt s (p : Int)); have hE : rdVal s p = optV RV := by rw [hRV]; rfl
 have hne := fun k (hk : RV = .error k) => readVAt_err (s := s) (a := (p : Int)) (k := k) (by rw [<- hRV]; exact hk)
 rw [<- hRV] at hr; obtain ⟨RR,hRR⟩ := gXe (rdVal s p); rw [<- hRR] at hE ⊢; have HW := gh hW; have HB := gh hB; have HR := gh hR; have BM := gh bm; have HG := gh hg; have HRD := gh hr; have HE := gh hE; have HNE := gh hne; have HWR := gh hWR; clear hW hB bm hg hr hE hRR h hRV hne hWR hR
 go_enter Tryz.func105,Tryz.ntmps105
 go_wp2_with fail
 rw [<- HW.o, <- HR.o]
 go_cut [3, 4, 5] (fun a3 a4 a5 wx => VRel RV W a3 a4 a5 wx)
 case first =>
  refine wp_region_held_drew (S := (fun X => Below W.heap.size W X)) (by kernel_rfl) ((Below.refl W.heap.size W).drew) (fun hHeld => ?_)
  refine gT (i := 0) (d := some 7) (v := ?_) rfl rfl (by kernel_rfl) (fun _ _ _ h => h) (by rfl) ?_ hHeld ?_
  rotate_left
  ·(intro w yS; (try dsimp only at yS); have hS0 := (yS.cell (p := ⟨g, 0,none⟩) hgW).trans h0; have hS1 := (yS.cell (p := ⟨g, 1,none⟩) hgW).trans h1; go_simp; try with_reducible rfl)
  try simp only [Act.put,gX3,gX4,gX5]
  refine gT (i := 1) (d := some 8) (v := ?_) rfl rfl (by kernel_rfl) (fun _ _ _ h => h) (by rfl) ?_ hHeld ?_
  rotate_left
  ·(intro w yS; (try dsimp only at yS); have hS0 := (yS.cell (p := ⟨g, 0,none⟩) hgW).trans h0; have hS1 := (yS.cell (p := ⟨g, 1,none⟩) hgW).trans h1; go_simp; try with_reducible rfl)
  try simp only [Act.put,gX3,gX4,gX5]
  refine gT (i := 2) (d := some 9) (v := ?_) rfl rfl (by kernel_rfl) (fun _ _ _ h => h) (by rfl) ?_ hHeld ?_
  rotate_left
  ·(intro w yS; (try dsimp only at yS); have hS0 := (yS.cell (p := ⟨g, 0,none⟩) hgW).trans h0; have hS1 := (yS.cell (p := ⟨g, 1,none⟩) hgW).trans h1; go_simp; try with_reducible rfl)
  try simp only [Act.put,gX3,gX4,gX5]
  refine gT (i := 3) (d := some 10) (v := ?_) rfl rfl (by kernel_rfl) (fun _ _ _ h => h) (by rfl) ?_ hHeld ?_
  rotate_left
  ·(intro w yS; (try dsimp only at yS); have hS0 := (yS.cell (p := ⟨g, 0,none⟩) hgW).trans h0; have hS1 := (yS.cell (p := ⟨g, 1,none⟩) hgW).trans h1; go_simp; try with_reducible rfl)
  try simp only [Act.put,gX3,gX4,gX5]
  refine gT (i := 4) (d := some 11) (v := ?_) rfl rfl (by kernel_rfl) (fun _ _ _ h => h) (by rfl) ?_ hHeld ?_
  rotate_left
  ·(intro w yS; (try dsimp only at yS); have hS0 := (yS.cell (p := ⟨g, 0,none⟩) hgW).trans h0; have hS1 := (yS.cell (p := ⟨g, 1,none⟩) hgW).trans h1; go_simp; try with_reducible rfl)
  try simp only [Act.put,gX3,gX4,gX5]
  refine gT (i := 5) (d := some 12) (v := ?_) rfl rfl (by kernel_rfl) (fun _ _ _ h => h) (by rfl) ?_ hHeld ?_
  rotate_left
  ·(intro w yS; (try dsimp only at yS); have hS0 := (yS.cell (p := ⟨g, 0,none⟩) hgW).trans h0; have hS1 := (yS.cell (p := ⟨g, 1,none⟩) hgW).trans h1; go_simp; try with_reducible rfl)
  try simp only [Act.put,gX3,gX4,gX5]
  refine gT (i := 6) (d := some 13) (v := ?_) rfl rfl (by kernel_rfl) (fun _ _ _ h => h) (by rfl) ?_ hHeld ?_
  rotate_left
  ·(intro w yS; (try dsimp only at yS); have hS0 := (yS.cell (p := ⟨g, 0,none⟩) hgW).trans h0; have hS1 := (yS.cell (p := ⟨g, 1,none⟩) hgW).trans h1; go_simp; try with_reducible rfl)
  try simp only [Act.put,gX3,gX4,gX5]
  refine gT (i := 7) (d := some 14) (v := ?_) rfl rfl (by kernel_rfl) (fun _ _ _ h => h) (by rfl) ?_ hHeld ?_
  rotate_left
  ·(intro w yS; (try dsimp only at yS); have hS0 := (yS.cell (p := ⟨g, 0,none⟩) hgW).trans h0; have hS1 := (yS.cell (p := ⟨g, 1,none⟩) hgW).trans h1; go_simp; try with_reducible rfl)
  try simp only [Act.put,gX3,gX4,gX5]
  refine held_two (i := 8) (j := 13) (by kernel_rfl) rfl rfl (by rfl) (by rfl) (fun K hK => ?_) (fun K hK => ?_)
  ·go_simp
   go_at_call 127
   refine (HRD.o _ ((Below.refl W.heap.size W).drew)).mono ?_; rintro e w6 hrv; obtain ⟨hb6,u,q,k,rfl,hui,hus,hvo⟩ := ReadVSep.any hrv; obtain ⟨a4,b4,k4⟩ := hui.nslice; obtain ⟨a5,b5,k5⟩ := hui.xslice; unfold Val.agg; rw [k4,k5]; have hb6' : Below W.heap.size W w6 := (Below.refl W.heap.size W).drew.trans hb6; have HB6 := gh hb6'; have HFIN := gh (vrel_new (W := W) hb6' k4 k5 hui hus hvo); clear hb6 hb6' hui hus hvo k4 k5 hrv; refine hK.out _ _ (HB6.o) (fun hHeld => ?_)
   clear hK K; try simp only [Act.put,gX3,gX4,gX5]
   refine gT (i := 9) (d := some 6) (v := ?_) rfl rfl (by kernel_rfl) (fun _ _ _ h => h) (by rfl) ?_ hHeld ?_
   rotate_left
   ·(intro w yS; (try dsimp only at yS); go_simp; try with_reducible rfl)
   try simp only [Act.put,gX3,gX4,gX5]
   refine gT (i := 10) (d := some 16) (v := ?_) rfl rfl (by kernel_rfl) (fun _ _ _ h => h) (by rfl) ?_ hHeld ?_
   rotate_left
   ·(intro w yS; (try dsimp only at yS); go_simp; try with_reducible rfl)
   try simp only [Act.put,gX3,gX4,gX5]
   refine gT (i := 11) (d := some 17) (v := ?_) rfl rfl (by kernel_rfl) (fun _ _ _ h => h) (by rfl) ?_ hHeld ?_
   rotate_left
   ·(intro w yS; (try dsimp only at yS); go_simp; try with_reducible rfl)
   try simp only [Act.put,gX3,gX4,gX5]
   refine gT (i := 12) (d := some 18) (v := ?_) rfl rfl (by kernel_rfl) (fun _ _ _ h => h) (by rfl) ?_ hHeld ?_
   rotate_left
   ·(intro w yS; (try dsimp only at yS); go_simp; try with_reducible rfl)
   try simp only [Act.put,gX3,gX4,gX5]
   refine held_only (i := 13) (by kernel_rfl) rfl (by rfl) (fun K hK => ?_)
   go_simp
   refine hK.out _ _ (HB6.o.alloc HB6.o.size _) (fun hHeld => ?_)
   clear hK K; try simp only [Act.put,gX3,gX4,gX5]
   have hn6 := Blk.new w6 37 #[.int .i64 0, .int .i64 0, .float .f64 0, .string ⟨#[]⟩, .slice none 0 0, .slice none 0 0]; have z0 := hn6.cell 0; have z1 := hn6.cell 1; have z2 := hn6.cell 2; have z3 := hn6.cell 3; have z4 := hn6.cell 4; have z5 := hn6.cell 5; have y0 := hn6.frozen 0; have y1 := hn6.frozen 1; have y2 := hn6.frozen 2; have y3 := hn6.frozen 3; have y4 := hn6.frozen 4; have y5 := hn6.frozen 5
   simp at z0 z1 z2 z3 z4 z5
   clear hn6; refine held_only (i := 14) (by kernel_rfl) rfl (by rfl) (fun K hK => ?_)
   go_simp
   refine hK.out _ _ (HB6.o.alloc HB6.o.size _) (fun hHeld => ?_)
   clear hK K; try simp only [Act.put,gX3,gX4,gX5]
   clear z0 z1 z2 z3 z4 z5 y0 y1 y2 y3 y4 y5; refine gT (i := 15) (d := some 4) (v := ?_) rfl rfl (by kernel_rfl) (fun _ _ _ h => h) (by rfl) ?_ hHeld ?_
   rotate_left
   ·(intro w yS; (try dsimp only at yS); go_simp; try with_reducible rfl)
   try simp only [Act.put,gX3,gX4,gX5]
   refine gT (i := 16) (d := some 5) (v := ?_) rfl rfl (by kernel_rfl) (fun _ _ _ h => h) (by rfl) ?_ hHeld ?_
   rotate_left
   ·(intro w yS; (try dsimp only at yS); go_simp; try with_reducible rfl)
   try simp only [Act.put,gX3,gX4,gX5]
   refine wpAnyH_done (by kernel_rfl) ?_ _
   go_wp2
   go_meet
   exact HFIN.o
  ·go_simp
   refine hK.out _ _ ((Below.refl W.heap.size W).drew.alloc (Nat.le_refl _) _) (fun hHeld => ?_)
   clear hK K; try simp only [Act.put,gX3,gX4,gX5]
   refine held_only (i := 8) (by kernel_rfl) rfl (by rfl) (fun K hK => ?_)
   go_simp
   go_at_call 127
   refine (HRD.o _ ((Below.refl W.heap.size W).drew.alloc (Nat.le_refl _) _)).mono ?_; rintro e w6 hrv; obtain ⟨hb6,u,q,k,rfl,hui,hus,hvo⟩ := ReadVSep.any hrv; obtain ⟨a4,b4,k4⟩ := hui.nslice; obtain ⟨a5,b5,k5⟩ := hui.xslice; unfold Val.agg; rw [k4,k5]; have hb6' : Below W.heap.size W w6 := ((Below.refl W.heap.size W).drew.alloc (Nat.le_refl _) _).trans (hb6.mono (by simp))
   have hX6 : Blk w6 W.heap.size 37 #[.int .i64 0, .int .i64 0, .float .f64 0, .string ⟨#[]⟩, .slice none 0 0, .slice none 0 0] := (Blk.new W.drew 37 _).below hb6 (by simp)
   have HB6 := gh hb6'; have HX6 := gh hX6
   have HFIN := gh (vrel_set (W := W) hb6' rfl hX6 k4 k5 hui (hus.mono (fun b hb => by
    have hz' : (W.drew.alloc (.cells #[.int .i64 0, .int .i64 0, .float .f64 0, .string ⟨#[]⟩, .slice none 0 0, .slice none 0 0] 37)).heap.size = W.heap.size + 1 := by simp
    rw [hz'] at hb; exact hb)) hvo)
   clear hb6 hb6' hX6 hui hus hvo k4 k5 hrv; refine hK.out _ _ (HB6.o) (fun hHeld => ?_)
   clear hK K; try simp only [Act.put,gX3,gX4,gX5]
   refine gT (i := 9) (d := some 6) (v := ?_) rfl rfl (by kernel_rfl) (fun _ _ _ h => h) (by rfl) ?_ hHeld ?_
   rotate_left
   ·(intro w yS; (try dsimp only at yS); go_simp; try with_reducible rfl)
   try simp only [Act.put,gX3,gX4,gX5]
   refine gT (i := 10) (d := some 16) (v := ?_) rfl rfl (by kernel_rfl) (fun _ _ _ h => h) (by rfl) ?_ hHeld ?_
   rotate_left
   ·(intro w yS; (try dsimp only at yS); go_simp; try with_reducible rfl)
   try simp only [Act.put,gX3,gX4,gX5]
   refine gT (i := 11) (d := some 17) (v := ?_) rfl rfl (by kernel_rfl) (fun _ _ _ h => h) (by rfl) ?_ hHeld ?_
   rotate_left
   ·(intro w yS; (try dsimp only at yS); go_simp; try with_reducible rfl)
   try simp only [Act.put,gX3,gX4,gX5]
   refine gT (i := 12) (d := some 18) (v := ?_) rfl rfl (by kernel_rfl) (fun _ _ _ h => h) (by rfl) ?_ hHeld ?_
   rotate_left
   ·(intro w yS; (try dsimp only at yS); go_simp; try with_reducible rfl)
   try simp only [Act.put,gX3,gX4,gX5]
   have hn6 := HX6.o; have z0 := hn6.cell 0; have z1 := hn6.cell 1; have z2 := hn6.cell 2; have z3 := hn6.cell 3; have z4 := hn6.cell 4; have z5 := hn6.cell 5; have y0 := hn6.frozen 0; have y1 := hn6.frozen 1; have y2 := hn6.frozen 2; have y3 := hn6.frozen 3; have y4 := hn6.frozen 4; have y5 := hn6.frozen 5
   simp at z0 z1 z2 z3 z4 z5
   clear hn6; refine held_only (i := 14) (by kernel_rfl) rfl (by rfl) (fun K hK => ?_)
   go_simp
   refine hK.out _ _ (below6' HB6.o (Nat.le_refl _) _ _ _ _ _ _) (fun hHeld => ?_)
   clear hK K; try simp only [Act.put,gX3,gX4,gX5]
   clear z0 z1 z2 z3 z4 z5 y0 y1 y2 y3 y4 y5; refine gT (i := 15) (d := some 4) (v := ?_) rfl rfl (by kernel_rfl) (fun _ _ _ h => h) (by rfl) ?_ hHeld ?_
   rotate_left
   ·(intro w yS; (try dsimp only at yS); go_simp; try with_reducible rfl)
   try simp only [Act.put,gX3,gX4,gX5]
   refine gT (i := 16) (d := some 5) (v := ?_) rfl rfl (by kernel_rfl) (fun _ _ _ h => h) (by rfl) ?_ hHeld ?_
   rotate_left
   ·(intro w yS; (try dsimp only at yS); go_simp; try with_reducible rfl)
   try simp only [Act.put,gX3,gX4,gX5]
   refine wpAnyH_done (by kernel_rfl) ?_ _
   go_wp2
   go_meet
   exact HFIN.o
 case rest =>
 obtain ⟨V,u,q,k,rfl,rfl,rfl,hV,hbx,hbV,hui,hus,hvo⟩ := hcut; obtain ⟨W3,hW3⟩ : ∃ W3 : World,W3 = wc := ⟨_,rfl⟩; rw [<- hW3] at hbx hbV hui ⊢; clear hW3 h0 h1; obtain ⟨a4,b4,k4⟩ := hui.nslice; obtain ⟨a5,b5,k5⟩ := hui.xslice; have hag : u.agg = .agg #[.int .i64 u.k, .int .i64 u.n, .float .f64 u.f, .string u.s, .slice a4 u.ns.length b4, .slice a5 u.xs.length b5] := by unfold Val.agg; rw [k4,k5]
 have hRlt := BM.o.lt; have bR3 := BM.o.below hbx hRlt; have bG3 := Blk.below HG.o hbx hgW; have hbV' : Blk W3 V 37 [.int .i64 u.k, .int .i64 u.n, .float .f64 u.f, .string u.s, .slice a4 u.ns.length b4, .slice a5 u.xs.length b5].toArray := by unfold Val.cells at hbV; rw [k4,k5] at hbV; exact hbV
 have hO3 : Only w W3 g := Only.of_below (HB.o.trans (hbx.mono HB.o.size)) g; have HO3 := gh hO3; have HG3 := gh bG3; have HR3 := gh bR3; have HV3 := gh hbV'; have HUI := gh hui; have HUS := gh hus; have HAG := gh hag; have HVO := gh hvo; have HVV := gh hV; clear hO3 bG3 bR3 hbV hbV' hui hus hvo hag hbx k4 k5 hRlt hV
 cases RV with
 | error k' =>
  have e : k = k' := HVO.o; subst e; have hk := HNE.o k rfl; have HRN : Hid (RR = none) := gh (by rw [HE.o]; rfl)
  go_wp2_with fail
  refine (pmust_false _ _ _ rfl).mono ?_; rintro e w2 ⟨rfl,rfl⟩; unfold pgave
  go_wp2
  rw [HRN.o]; exact ⟨rfl,HO3.o,rfl⟩
 | ok x =>
  obtain ⟨v,q'⟩ := x; obtain ⟨rfl,rfl,hue⟩ := HVO.o; have HUE := gh hue; have HRN : Hid (RR = some (v,q')) := gh (by rw [HE.o]; rfl)
  clear hue; have c1 := HG3.o.cell 1; have f1 := HG3.o.frozen 1
  simp at c1
  obtain ⟨W4,hW4⟩ := gXe (W3.setCell ⟨g, 1,none⟩ (.int .i64 q')); have HW4 := gh hW4; clear hW4
  go_wp2_with fail
  refine (pmust_true _ _ _ rfl).mono ?_; rintro e w2 ⟨rfl,rfl⟩
  go_upto_region 4 with fail
  rw [<- HW4.o]; clear c1 f1; have bG4 : PRd W4 g s q' := by rw [HW4.o]; exact Blk.set_ HG3.o 1 _
  have bR4 : Blk W4 R 37 [.int .i64 0, .int .i64 0, .float .f64 0, .string ⟨#[]⟩, .slice none 0 0, .slice none 0 0].toArray := by rw [HW4.o]; exact HR3.o.far (p := ⟨g, 1,none⟩) (Ne.symm hgR) _
  have bV4 : Blk W4 V 37 [.int .i64 u.k, .int .i64 u.n, .float .f64 u.f, .string u.s, .slice a4 u.ns.length b4, .slice a5 u.xs.length b5].toArray := by
   rw [HW4.o]; exact Blk.far HV3.o (p := ⟨g, 1,none⟩) (by have := HVV.o; show V ≠ g; omega) _
  have hst5 := stored6' bR4 (.int .i64 u.k) (.int .i64 u.n) (.float .f64 u.f) (.string u.s) (.slice a4 u.ns.length b4) (.slice a5 u.xs.length b5); obtain ⟨W5,hW5⟩ := gXe (((((((W4.setCell ⟨R, 0,none⟩ (.int .i64 u.k)).setCell ⟨R, 1,none⟩ (.int .i64 u.n)).setCell ⟨R, 2,none⟩ (.float .f64 u.f)).setCell ⟨R, 3,none⟩ (.string u.s)).setCell ⟨R, 4,none⟩ (.slice a4 u.ns.length b4)).setCell ⟨R, 5,none⟩ (.slice a5 u.xs.length b5))); rw [<- hW5] at hst5; have bG5 : PRd W5 g s q' := Blk.grown bG4 hst5.2 (by simp; omega)
  have hO4 : Only w W4 g := by rw [HW4.o]; exact HO3.o.set_ (p := ⟨g, 1,none⟩) (.inl rfl) _
  have hO5 : Only w W5 g := by
   have e := HR.o; rw [hW5]; exact (((((hO4.set_ (p := ⟨R, 0,none⟩) (.inr (by simp; omega)) _).set_ (p := ⟨R, 1,none⟩) (.inr (by simp; omega)) _).set_ (p := ⟨R, 2,none⟩) (.inr (by simp; omega)) _).set_ (p := ⟨R, 3,none⟩) (.inr (by simp; omega)) _).set_ (p := ⟨R, 4,none⟩) (.inr (by simp; omega)) _).set_ (p := ⟨R, 5,none⟩) (.inr (by simp; omega)) _
  have husW : u.Sep (fun b => R + 1 <= b) := HUS.o.mono (fun b hb => by have hb' : W.heap.size <= b := hb; have := HWR.o; omega)
  have hui4 : u.In W4 := HUI.o.carryS husW (fun b o hb hlt => by rw [HW4.o]; exact World.cell?_setCell_other W3 ⟨g, 1,none⟩ ⟨b,o,none⟩ _ (fun e => by injection e with e _; have hb' : R + 1 <= b := hb; omega)) (by rw [HW4.o]; simp [World.setCell])
  have hui5 : u.In W5 := hui4.carryS husW (fun b o hb hlt => only_cell hst5.2 (by have hb' : R + 1 <= b := hb; omega) hlt o) hst5.2.size
  have HF := gh (show Only w W5 g /\ u.erase = v /\ u.In W5 /\ u.Sep (fun b => w.heap.size <= b) /\ PRd W5 g s q' from ⟨hO5,HUE.o,hui5,husW.mono (fun b hb => by have hb' : R + 1 <= b := hb; have := HR.o; omega),bG5⟩)
  have v0 := bV4.cell 0; have v1 := bV4.cell 1; have v2 := bV4.cell 2; have v3 := bV4.cell 3; have v4 := bV4.cell 4; have v5 := bV4.cell 5; simp only [gX0,gX1,gX2] at v0 v1 v2 v3 v4 v5; have r0 := bR4.cell 0; have r1 := bR4.cell 1; have r2 := bR4.cell 2; have r3 := bR4.cell 3; have r4 := bR4.cell 4; have r5 := bR4.cell 5; simp only [gX0,gX1,gX2] at r0 r1 r2 r3 r4 r5; have f0 := bR4.frozen 0; have f1 := bR4.frozen 1; have f2 := bR4.frozen 2; have f3 := bR4.frozen 3; have f4 := bR4.frozen 4; have f5 := bR4.frozen 5; have HW5 := gh hW5; have HR5 := gh hst5.1; clear bG4 bR4 bV4 hst5 hW5 bG5 hO4 hO5 husW hui4 hui5
  go_wp2_with fail
  rw [<- HW5.o]; clear v0 v1 v2 v3 v4 v5 r0 r1 r2 r3 r4 r5 f0 f1 f2 f3 f4 f5; have e0 := HR5.o.cell 0; have e1 := HR5.o.cell 1; have e2 := HR5.o.cell 2; have e3 := HR5.o.cell 3; have e4 := HR5.o.cell 4; have e5 := HR5.o.cell 5; simp only [gX0,gX1,gX2] at e0 e1 e2 e3 e4 e5; refine bodyPost_ret (v := .agg #[.int .i64 u.k, .int .i64 u.n, .float .f64 u.f, .string u.s, .slice a4 u.ns.length b4, .slice a5 u.xs.length b5]) (by simp [results,Tryz.results105,go_sem,e0,e1,e2,e3,e4,e5]) rfl ?_
  rw [HRN.o]; exact ⟨HF.o.1,u,by rw [HAG.o],HF.o.2⟩
end Go.Proofs.YtaamihdibpioaaaGreat.Pk
namespace Go.Proofs.YtaamihdibpioaaaGreat.Pk
open Go.RowKit
theorem rdSome_eq (s : ByteArray) (p : Nat) : rdSome s p = if p < s.size then (if (byteAt s p).toNat = 0 then some (Val.zero, p + 1) else if (byteAt s p).toNat = 1 then rdVal s (p + 1) else none) else none := by
 unfold rdSome rdVal
 by_cases h : p < s.size
 ·rw [if_pos h, if_pos h]
  by_cases h0 : (byteAt s p).toNat = 0
  ·rw [if_pos h0,if_pos h0]
  ·rw [if_neg h0, if_neg h0]
   by_cases h1 : (byteAt s p).toNat = 1
   ·rw [if_pos h1, if_pos h1]
    cases readVAt s ((p + 1 : Nat) : Int) with
    | error k => rfl
    | ok x => rfl
   ·rw [if_neg h1,if_neg h1]
 ·rw [if_neg h,if_neg h]
theorem prsome_any (s : ByteArray) (p g : Nat) (w : World) (hs : s.size <= 100000) (hp : p <= s.size) (h : PRd w g s p) :
  Calls Tryz.prog 71 #[.pointer (some ⟨g, 0,none⟩)] w fun e w' => PSome (rdSome s p) s g w e w' := by
 have hsf := run_store_flt; obtain ⟨R,hR⟩ := gXe (w.heap.size); obtain ⟨W,hW⟩ := gXe (w.alloc (.cells #[.int .i64 0, .int .i64 0, .float .f64 0, .string ⟨#[]⟩, .slice none 0 0, .slice none 0 0] 37)); have bm : Blk W R 37 [.int .i64 0, .int .i64 0, .float .f64 0, .string ⟨#[]⟩, .slice none 0 0, .slice none 0 0].toArray := by rw [hW,hR]; exact Blk.new w 37 _
 have hB : Below w.heap.size w W := by rw [hW]; exact (Below.refl _ _).alloc (Nat.le_refl _) _
 have hg : PRd W g s p := by rw [hW]; exact Blk.alloc h _
 have hglt := h.lt; have hgR : g ≠ R := by omega
 have hWR : R + 1 = W.heap.size := by rw [hW,hR]; simp
 have h0 := hg.cell 0; have h1 := hg.cell 1
 simp at h0 h1
 have hE := rdSome_eq s p; obtain ⟨RR,hRR⟩ := gXe (rdSome s p); rw [<- hRR] at hE ⊢; have HW := gh hW; have HB := gh hB; have HR := gh hR; have BM := gh bm; have HG := gh hg; have HE := gh hE; have HWR := gh hWR; clear hW hB bm hg hE hRR h hWR hR
 by_cases hlt : p < s.size
 case neg =>
  have hd : decide ((p : Int) < (s.size : Int)) = false := by simp; omega
  have hd2 : decide (p < s.size) = false := by simp; omega
  have HRN : Hid (RR = none) := gh (by rw [HE.o,if_neg hlt])
  clear hlt HE
  go_enter Tryz.func71,Tryz.ntmps71
  go_wp2_with fail
  rw [<- HW.o, <- HR.o]
  go_still_tail 10, (by kernel_rfl)
  change wpList _ _ _ _ _ W.drew
  go_wp2_with fail
  refine (pmust_false _ _ _ rfl).mono ?_; rintro e w2 ⟨rfl,rfl⟩; unfold pgave
  go_wp2
  rw [HRN.o]; exact ⟨rfl, (Only.of_below HB.o g).drew,rfl⟩
 case pos =>
  have hd : decide ((p : Int) < (s.size : Int)) = true := by simp; omega
  have hd2 : decide (p < s.size) = true := by simp; omega
  obtain ⟨b,hb⟩ := gXe (s[p]'hlt); have hbe : byteAt s p = b := by rw [byteAt_eq hlt,hb]
  have hE := HE.o; rw [if_pos hlt,hbe] at hE; have hi0 : (0 : Int) <= (p : Int) := by omega
  have hi1 : (p : Int) < (s.size : Int) := by omega
  have hw1 : IntKind.i64.wrap ((p : Int) + 1) = ((p + 1 : Nat) : Int) := by rw [IntWalk.i64_in _ (by omega)]; omega
  have hblt : b.toNat < 256 := b.toNat_lt; have HE2 := gh hE; have HBB := gh hb; have hg' : g < R := by have := HR.o; omega
  clear HE hE hbe hb; have HBS : Hid (s[p]'hlt = b) := gh HBB.o.symm
  go_enter Tryz.func71,Tryz.ntmps71
  go_wp2_with fail
  rw [<- HW.o, <- HR.o]
  go_still_tail 10, (by kernel_rfl)
  change wpList _ _ _ _ _ W.drew
  go_wp2_with fail
  refine (pmust_true _ _ _ rfl).mono ?_; rintro e w2 ⟨rfl,rfl⟩
  go_wp2_with fail
  go_quiet (fail)
  rw [HBS.o]; obtain ⟨W2,hW2⟩ := gXe (W.drew.drewN nq); rw [<- hW2]; have hB2 : Below W.heap.size W W2 := by rw [hW2]; exact below_drewN ((Below.refl _ _).drew) nq
  have hG2 := Blk.below HG.o hB2 (by have := HWR.o; omega)
  have hM2 := BM.o.below hB2 (by have := HWR.o; omega)
  obtain ⟨W3,hW3⟩ := gXe (W2.setCell ⟨g, 1,none⟩ (.int .i64 ((p + 1 : Nat) : Int))); have hG3 : PRd W3 g s (p + 1) := by rw [hW3]; exact Blk.set_ hG2 1 _
  have hM3 : Blk W3 R 37 [.int .i64 0, .int .i64 0, .float .f64 0, .string ⟨#[]⟩, .slice none 0 0, .slice none 0 0].toArray := by rw [hW3]; exact hM2.far (p := ⟨g, 1,none⟩) (Ne.symm hgR) _
  have hO3 : Only w W3 g := by rw [hW3]; exact (Only.of_below (HB.o.trans (hB2.mono HB.o.size)) g).set_ (p := ⟨g, 1,none⟩) (.inl rfl) _
  clear h0 h1; have h1 := hG2.cell 1; have f1 := hG2.frozen 1
  simp at h1
  have HW3 := gh hW3; have HG3 := gh hG3; have HM3 := gh hM3; have HO3 := gh hO3; have hRW3 : R < W3.heap.size := hM3.lt; clear hW2 hB2 hG2 hM2 hW3 hG3 hM3 hO3 HBS HBB
  go_upto_region 4 with fail
  have HP : Hid ((p : Int) + 1 = ((p + 1 : Nat) : Int)) := gh (by omega)
  rw [HP.o, <- HW3.o]; clear h1 f1 hw1
  by_cases hb1 : b.toNat <= 1
  case neg =>
   have j1 : decide ((b.toNat : Int) <= 1) = false := by simp; omega
   have HRN : Hid (RR = none) := gh (by rw [HE2.o,if_neg (by omega),if_neg (by omega)])
   go_wp2_with fail
   refine (pmust_false _ _ _ rfl).mono ?_; rintro e w2 ⟨rfl,rfl⟩; unfold pgave
   go_wp2
   rw [HRN.o]; exact ⟨rfl,HO3.o,rfl⟩
  case pos =>
   have j1 : decide ((b.toNat : Int) <= 1) = true := by simp; omega
   by_cases hb0 : b.toNat = 0
   case pos =>
    have j2 : ((b.toNat : Int) == 0) = true := by simp; omega
    have HRN : Hid (RR = some (Val.zero,p + 1)) := gh (by rw [HE2.o,if_pos hb0])
    have hst := stored6' HM3.o (.int .i64 0) (.int .i64 0) (.float .f64 0) (.string ⟨#[]⟩) (.slice none 0 0) (.slice none 0 0); obtain ⟨W5,hW5⟩ := gXe (((((((W3.setCell ⟨R, 0,none⟩ (.int .i64 0)).setCell ⟨R, 1,none⟩ (.int .i64 0)).setCell ⟨R, 2,none⟩ (.float .f64 0)).setCell ⟨R, 3,none⟩ (.string ⟨#[]⟩)).setCell ⟨R, 4,none⟩ (.slice none 0 0)).setCell ⟨R, 5,none⟩ (.slice none 0 0))); rw [<- hW5] at hst; have hG5 : PRd W5 g s (p + 1) := Blk.grown HG3.o hst.2 (by simp; omega)
    have hO5 : Only w W5 g := by
     have e := HR.o; rw [hW5]; exact (((((HO3.o.set_ (p := ⟨R, 0,none⟩) (.inr (by simp; omega)) _).set_ (p := ⟨R, 1,none⟩) (.inr (by simp; omega)) _).set_ (p := ⟨R, 2,none⟩) (.inr (by simp; omega)) _).set_ (p := ⟨R, 3,none⟩) (.inr (by simp; omega)) _).set_ (p := ⟨R, 4,none⟩) (.inr (by simp; omega)) _).set_ (p := ⟨R, 5,none⟩) (.inr (by simp; omega)) _
    have r0 := HM3.o.cell 0; have r1 := HM3.o.cell 1; have r2 := HM3.o.cell 2; have r3 := HM3.o.cell 3; have r4 := HM3.o.cell 4; have r5 := HM3.o.cell 5; simp only [gX0,gX1,gX2] at r0 r1 r2 r3 r4 r5; have f0 := HM3.o.frozen 0; have f1 := HM3.o.frozen 1; have f2 := HM3.o.frozen 2; have f3 := HM3.o.frozen 3; have f4 := HM3.o.frozen 4; have f5 := HM3.o.frozen 5; have HW5 := gh hW5; have HR5 := gh hst.1; have HF := gh (And.intro hO5 hG5); clear hst hW5 hG5 hO5
    go_wp2_with fail
    refine (pmust_true _ _ _ rfl).mono ?_; rintro e w2 ⟨rfl,rfl⟩
    go_wp2_with fail
    rw [<- HW5.o]; clear r0 r1 r2 r3 r4 r5 f0 f1 f2 f3 f4 f5; have e0 := HR5.o.cell 0; have e1 := HR5.o.cell 1; have e2 := HR5.o.cell 2; have e3 := HR5.o.cell 3; have e4 := HR5.o.cell 4; have e5 := HR5.o.cell 5; simp only [gX0,gX1,gX2] at e0 e1 e2 e3 e4 e5; refine bodyPost_ret (v := .agg #[.int .i64 0, .int .i64 0, .float .f64 0, .string ⟨#[]⟩, .slice none 0 0, .slice none 0 0]) (by simp [results,Tryz.results71,go_sem,e0,e1,e2,e3,e4,e5]) rfl ?_
    rw [HRN.o]; exact ⟨HF.o.1,Val.zero,rfl,rfl,zero_in _,zero_sep _,HF.o.2⟩
   case neg =>
    have j2 : ((b.toNat : Int) == 0) = false := by simp; omega
    have HRN : Hid (RR = rdVal s (p + 1)) := gh (by rw [HE2.o,if_neg hb0,if_pos (by omega)])
    have HV := gh (prval_any s (p + 1) g W3 hs HG3.o)
    go_wp2_with fail
    refine (pmust_true _ _ _ rfl).mono ?_; rintro e w2 ⟨rfl,rfl⟩
    go_wp2_with fail
    refine HV.o.mono ?_; clear HV HE2
    cases hq : rdVal s (p + 1) with
    | none =>
     rintro e w4 ⟨ho4,rfl⟩; have HRM : Hid (RR = none) := gh (by rw [HRN.o,hq])
     have HO4 := gh (HO3.o.trans ho4); clear ho4 hq HRN; unfold pgave
     go_wp2
     rw [HRM.o]; exact ⟨rfl,HO4.o,rfl⟩
    | some x =>
     obtain ⟨v,q⟩ := x; rintro e w4 ⟨ho4,u,rfl,hue,hui,hus,hg4⟩; have HRM : Hid (RR = some (v,q)) := gh (by rw [HRN.o,hq])
     obtain ⟨a4,b4,k4⟩ := hui.nslice; obtain ⟨a5,b5,k5⟩ := hui.xslice; have hag : u.agg = .agg #[.int .i64 u.k, .int .i64 u.n, .float .f64 u.f, .string u.s, .slice a4 u.ns.length b4, .slice a5 u.xs.length b5] := by unfold Val.agg; rw [k4,k5]
     have bR4 := HM3.o.grown ho4 (by simp; omega)
     have hst5 := stored6' bR4 (.int .i64 u.k) (.int .i64 u.n) (.float .f64 u.f) (.string u.s) (.slice a4 u.ns.length b4) (.slice a5 u.xs.length b5); obtain ⟨W5,hW5⟩ := gXe (((((((w4.setCell ⟨R, 0,none⟩ (.int .i64 u.k)).setCell ⟨R, 1,none⟩ (.int .i64 u.n)).setCell ⟨R, 2,none⟩ (.float .f64 u.f)).setCell ⟨R, 3,none⟩ (.string u.s)).setCell ⟨R, 4,none⟩ (.slice a4 u.ns.length b4)).setCell ⟨R, 5,none⟩ (.slice a5 u.xs.length b5))); rw [<- hW5] at hst5; have bG5 : PRd W5 g s q := Blk.grown hg4 hst5.2 (by simp; omega)
     have hO4 : Only w w4 g := HO3.o.trans ho4
     have hO5 : Only w W5 g := by
      have e := HR.o; rw [hW5]; exact (((((hO4.set_ (p := ⟨R, 0,none⟩) (.inr (by simp; omega)) _).set_ (p := ⟨R, 1,none⟩) (.inr (by simp; omega)) _).set_ (p := ⟨R, 2,none⟩) (.inr (by simp; omega)) _).set_ (p := ⟨R, 3,none⟩) (.inr (by simp; omega)) _).set_ (p := ⟨R, 4,none⟩) (.inr (by simp; omega)) _).set_ (p := ⟨R, 5,none⟩) (.inr (by simp; omega)) _
     have hui5 : u.In W5 := hui.carryS hus (fun b o hb hlt => only_cell hst5.2 (by have hb' : W3.heap.size <= b := hb; omega) hlt o) hst5.2.size
     have HF := gh (show Only w W5 g /\ u.erase = v /\ u.In W5 /\ u.Sep (fun b => w.heap.size <= b) /\ PRd W5 g s q from ⟨hO5,hue,hui5,hus.mono (fun b hb => by have hb' : W3.heap.size <= b := hb; have := HR.o; omega),bG5⟩)
     have r0 := bR4.cell 0; have r1 := bR4.cell 1; have r2 := bR4.cell 2; have r3 := bR4.cell 3; have r4 := bR4.cell 4; have r5 := bR4.cell 5; simp only [gX0,gX1,gX2] at r0 r1 r2 r3 r4 r5; have f0 := bR4.frozen 0; have f1 := bR4.frozen 1; have f2 := bR4.frozen 2; have f3 := bR4.frozen 3; have f4 := bR4.frozen 4; have f5 := bR4.frozen 5; have HW5 := gh hW5; have HR5 := gh hst5.1; have HAG := gh hag; rw [hag]; clear ho4 hue hui hus hg4 k4 k5 hag bR4 hst5 hW5 bG5 hO4 hO5 hui5 hq HRN
     go_wp2_with fail
     rw [<- HW5.o]; clear r0 r1 r2 r3 r4 r5 f0 f1 f2 f3 f4 f5; have e0 := HR5.o.cell 0; have e1 := HR5.o.cell 1; have e2 := HR5.o.cell 2; have e3 := HR5.o.cell 3; have e4 := HR5.o.cell 4; have e5 := HR5.o.cell 5; simp only [gX0,gX1,gX2] at e0 e1 e2 e3 e4 e5; refine bodyPost_ret (v := .agg #[.int .i64 u.k, .int .i64 u.n, .float .f64 u.f, .string u.s, .slice a4 u.ns.length b4, .slice a5 u.xs.length b5]) (by simp [results,Tryz.results71,go_sem,e0,e1,e2,e3,e4,e5]) rfl ?_
     rw [HRM.o]; exact ⟨HF.o.1,u,by rw [HAG.o],HF.o.2⟩
theorem rdN_le {s : ByteArray} {p n q : Nat} (h : rdN s p = some (n, q)) : q <= s.size := by
 unfold rdN at h
 cases hu : readU s p 0 0 with
 | error k => rw [hu] at h; cases h
 | ok x =>
  obtain ⟨m,q'⟩ := x; rw [hu] at h; simp only at h
  split at h
  ·injection h with h
   injection h with h1 h2; subst h2; exact (readU_lt s p 0 0 (by simp) (by omega) m q' hu).2.2
  ·cases h
theorem rdVal_le {s : ByteArray} {p q : Nat} {v : Val} (hp : p <= s.size) (h : rdVal s p = some (v, q)) : q <= s.size := by
 unfold rdVal at h
 cases hu : readVAt s (p : Int) with
 | error k => rw [hu] at h; cases h
 | ok x =>
  obtain ⟨m,q'⟩ := x; rw [hu] at h; simp only [optV] at h; injection h with h; injection h with h1 h2; subst h2; unfold readVAt at hu; rw [if_pos (by omega),Int.toNat_natCast] at hu
  exact (readV_lt hp hu).2.1
theorem rdSome_le {s : ByteArray} {p q : Nat} {v : Val} (h : rdSome s p = some (v, q)) : q <= s.size := by
 rw [rdSome_eq] at h
 split at h
 ·split at h
  ·injection h with h
   injection h with h1 h2
   omega
  ·split at h
   ·exact rdVal_le (by omega) h
   ·cases h
 ·cases h
end Go.Proofs.YtaamihdibpioaaaGreat.Pk
namespace Go.Proofs.YtaamihdibpioaaaGreat
open Go.RowKit
theorem rreadval_sep (s : ByteArray) (a : Int) (w : World) (hs : s.size <= 100000) : Calls Tryz.prog 116 #[.string s, .int .i64 a] w fun e w' => ReadVSep (readVAt s a) w e w' := by
 have hsf := run_store_flt; obtain ⟨R,hR⟩ := gXe (w.heap.size); obtain ⟨W,hW⟩ := gXe (w.alloc (.cells #[.int .i64 0, .int .i64 0, .float .f64 0, .string ⟨#[]⟩, .slice none 0 0, .slice none 0 0] 37)); have bm : Blk W R 37 [.int .i64 0, .int .i64 0, .float .f64 0, .string ⟨#[]⟩, .slice none 0 0, .slice none 0 0].toArray := by rw [hW,hR]; exact Blk.new w 37 _
 have hB : Below w.heap.size w W := by rw [hW]; exact (Below.refl _ _).alloc (Nat.le_refl _) _
 have HW := gh hW; have HB := gh hB; have HR := gh hR; have HBM := gh bm; clear hW bm hB hR
 by_cases hin : 0 <= a /\ a <= s.size
 case neg =>
  have HE : Hid (readVAt s a = .error 3) := gh (by unfold readVAt; rw [if_neg hin])
  have HBG := gh (begin_out s a W hs (by omega))
  clear hin
  go_enter Tryz.func116,Tryz.ntmps116
  go_wp2_with fail
  rw [<- HW.o, <- HR.o]; refine HBG.o.mono ?_; rintro e w1 ⟨g,hg,rfl,ha,hb⟩; have HA : Hid (Blk w1 g 116 #[.string s, .int .i64 a, .int .i64 3, .int .i64 0]) := gh ha; have hRlt := HBM.o.lt; have HRS := gh (HBM.o.below hb hRlt); have HB1 := gh (HB.o.trans (hb.mono HB.o.size)); have c2 := ha.cell 2; simp only [gX0,gX1,gX2] at c2; have hgR : g ≠ R := by omega
  clear ha hb HBG HW
  go_wp2_with fail
  clear c2; have hn0 := stored6' (HRS.o) (.int .i64 0) (.int .i64 0) (.float .f64 0) (.string ⟨#[]⟩) (.slice none 0 0) (.slice none 0 0); have ha := HA.o.drew.cell 2; simp only [gX0,gX1,gX2] at ha; have hb := (Blk.grown HA.o hn0.2 (by simp; omega)).drew.cell 2
  have hn := And.intro hn0.1.drew hn0.2.drew; simp only [gX0,gX1,gX2] at hb; have HA0 := gh ha; have HA1 := gh hb; have HN := gh hn; clear ha hb hn hn0; have r0 := HRS.o.cell 0; have f0 := HRS.o.frozen 0; have r1 := HRS.o.cell 1; have f1 := HRS.o.frozen 1; have r2 := HRS.o.cell 2; have f2 := HRS.o.frozen 2; have r3 := HRS.o.cell 3; have f3 := HRS.o.frozen 3; have r4 := HRS.o.cell 4; have f4 := HRS.o.frozen 4; have r5 := HRS.o.cell 5; have f5 := HRS.o.frozen 5; simp only [gX0,gX1,gX2] at r0 r1 r2 r3 r4 r5
  go_region_held3 (fun W => W.cell? ⟨g, 2,none⟩ = some (.int .i64 3)) (first | with_reducible exact HA0.o | with_reducible exact HA1.o | fail) (first | fail)
  all_goals
   go_wp2_with fail
   clear r0 f0 r1 f1 r2 f2 r3 f3 r4 f4 r5 f5; have e0 := HN.o.1.cell 0; have e1 := HN.o.1.cell 1; have e2 := HN.o.1.cell 2; have e3 := HN.o.1.cell 3; have e4 := HN.o.1.cell 4; have e5 := HN.o.1.cell 5; simp only [gX0,gX1,gX2] at e0 e1 e2 e3 e4 e5; refine bodyPost_ret (v := .tuple #[.agg #[.int .i64 0, .int .i64 0, .float .f64 0, .string ⟨#[]⟩, .slice none 0 0, .slice none 0 0], .int .i64 0, .int .i64 3]) (by simp [results,Tryz.results116,go_sem,e0,e1,e2,e3,e4,e5]) rfl ?_
   rw [HE.o]; exact ⟨Go.Proofs.YtaamihdibpioaaaGreat.Below.only HB1.o HN.o.2 (by rw [HR.o]; exact Nat.le_refl _) HB1.o.size,rfl⟩
 obtain ⟨p,rfl⟩ : ∃ p : Nat,a = (p : Int) := ⟨a.toNat,by omega⟩
 have hp : p <= s.size := by omega
 have hra : readVAt s (p : Int) = readV s p := by unfold readVAt; rw [if_pos hin,Int.toNat_natCast]
 rw [hra]; have HBG := gh (begin_in s p W hs hp); clear hin hra
 go_enter Tryz.func116,Tryz.ntmps116
 go_wp2_with fail
 rw [<- HW.o, <- HR.o]; refine HBG.o.mono ?_; rintro e w1 ⟨g,hg,rfl,ha,hb⟩; have hRlt := HBM.o.lt; have HRS := gh (HBM.o.below hb hRlt); have HB1 := gh (HB.o.trans (hb.mono HB.o.size)); have c2 := ha.cell 2; simp only [gX0,gX1,gX2] at c2; have hgR : g ≠ R := by omega
 have hgl := ha.lt; have HV := gh (fvalue_any s hs 12 1 0 p 0 g w1 (by omega) hp (by omega) ha)
 have hgw : w.heap.size <= g := by have := HB.o.size; omega
 have HGW := gh hgw; clear hb HBG HW ha HBM
 go_wp2_with fail
 refine HV.o.mono ?_; rintro e w2 ⟨ho2,u,q,m,k,rfl,hui,hus,ha2,hq,hm,hfin⟩; obtain ⟨a4,b4,k4⟩ := hui.nslice; obtain ⟨a5,b5,k5⟩ := hui.xslice
 have hfin' : (k = 0 /\ rdV s 12 p 0 = .ok (u.erase, q, m)) \/ (k ≠ 0 /\ rdV s 12 p 0 = .error k) := by
  rcases hfin with ⟨_,h1,_,h2⟩ | ⟨_,h1,h2⟩ | ⟨h,_⟩
  ·exact .inl ⟨h1,h2⟩
  ·exact .inr ⟨h1,h2⟩
  ·exact absurd rfl h
 obtain ⟨W2,hW2⟩ := gXe (w2.alloc (.cells u.cells.toArray 37)); obtain ⟨V,hV⟩ := gXe (w2.heap.size); have hbv : Blk W2 V 37 u.cells.toArray := by rw [hW2,hV]; exact Blk.new w2 37 _
 have hui2 := hui.below (w' := W2) (by rw [hW2]; exact (Below.refl _ _).alloc (Nat.le_refl _) _)
 have ha3 : RAt W2 g s q k m := by rw [hW2]; exact Blk.alloc ha2 _
 have hrs2 : Blk W2 R 37 [.int .i64 0, .int .i64 0, .float .f64 0, .string ⟨#[]⟩, .slice none 0 0, .slice none 0 0].toArray := by rw [hW2]; exact (HRS.o.grown ho2 (by simp; omega)).alloc _
 have hb2 : Below w.heap.size w W2 := by rw [hW2]; exact (Go.Proofs.YtaamihdibpioaaaGreat.Below.only HB1.o ho2 HGW.o HB1.o.size).alloc (Go.Proofs.YtaamihdibpioaaaGreat.Below.only HB1.o ho2 HGW.o HB1.o.size).size _
 have hrw : R < w2.heap.size := by have := ho2.size; have := HRS.o.lt; omega
 have hus2 : u.Sep (fun b => R + 1 <= b) := hus.mono (fun b hb => by have := HRS.o.lt; omega)
 unfold Val.cells at hW2 hbv; unfold Val.agg; rw [k4,k5] at hW2 hbv ⊢; have HW2 := gh hW2; have HV2 := gh hV; have HBV := gh hbv; have HUI := gh hui2; have HUS := gh hus2; have HA := gh ha3; have HB2 := gh hb2; have HFIN := gh hfin'; clear HRS; have HRS := gh hrs2; have HK4 := gh k4; have HK5 := gh k5; have hRV : R < V := by omega
 have hgV : g < V := by rw [hV]; exact Nat.lt_of_lt_of_le hgl ho2.size
 clear c2; clear ho2 hui hus ha2 hfin hfin' hW2 hV hbv hui2 ha3 hrs2 hb2 hrw hus2 k4 k5 HV
 go_upto_region 5 with fail
 rw [<- HW2.o, <- HV2.o]; have ce := HA.o.cell 2; have ca := HA.o.cell 1; simp only [gX0,gX1,gX2] at ce ca; have hvl := HBV.o.lt
 by_cases hk0 : k = 0
 case neg =>
  have HE : Hid (readV s p = .error k) := gh (by
   rcases HFIN.o with ⟨h,_⟩ | ⟨_,h⟩
   ·exact absurd h hk0
   ·unfold readV; rw [h])
  have j1 : (k == 0) = false := by simpa using hk0
  have j2 : (k != 0) = true := by simpa using hk0
  clear hk0 HFIN
  go_wp2_with fail
  clear ce ca; have hn0 := stored6' (HRS.o) (.int .i64 0) (.int .i64 0) (.float .f64 0) (.string ⟨#[]⟩) (.slice none 0 0) (.slice none 0 0); have ha := HA.o.drew.cell 2; simp only [gX0,gX1,gX2] at ha; have hb := (Blk.grown HA.o hn0.2 (by simp; omega)).drew.cell 2
  have hn := And.intro hn0.1.drew hn0.2.drew; simp only [gX0,gX1,gX2] at hb; have HA0 := gh ha; have HA1 := gh hb; have HN := gh hn; clear ha hb hn hn0; have r0 := HRS.o.cell 0; have f0 := HRS.o.frozen 0; have r1 := HRS.o.cell 1; have f1 := HRS.o.frozen 1; have r2 := HRS.o.cell 2; have f2 := HRS.o.frozen 2; have r3 := HRS.o.cell 3; have f3 := HRS.o.frozen 3; have r4 := HRS.o.cell 4; have f4 := HRS.o.frozen 4; have r5 := HRS.o.cell 5; have f5 := HRS.o.frozen 5; simp only [gX0,gX1,gX2] at r0 r1 r2 r3 r4 r5
  go_region_held3 (fun W => W.cell? ⟨g, 2,none⟩ = some (.int .i64 k)) (first | with_reducible exact HA0.o | with_reducible exact HA1.o | fail) (first | fail)
  all_goals
   go_wp2_with fail
   clear r0 f0 r1 f1 r2 f2 r3 f3 r4 f4 r5 f5; have e0 := HN.o.1.cell 0; have e1 := HN.o.1.cell 1; have e2 := HN.o.1.cell 2; have e3 := HN.o.1.cell 3; have e4 := HN.o.1.cell 4; have e5 := HN.o.1.cell 5; simp only [gX0,gX1,gX2] at e0 e1 e2 e3 e4 e5; refine bodyPost_ret (v := .tuple #[.agg #[.int .i64 0, .int .i64 0, .float .f64 0, .string ⟨#[]⟩, .slice none 0 0, .slice none 0 0], .int .i64 0, .int .i64 k]) (by simp [results,Tryz.results116,go_sem,e0,e1,e2,e3,e4,e5]) rfl ?_
   rw [HE.o]; exact ⟨Go.Proofs.YtaamihdibpioaaaGreat.Below.only HB2.o HN.o.2 (by rw [HR.o]; exact Nat.le_refl _) HB2.o.size,rfl⟩
 subst hk0
 have hrd : rdV s 12 p 0 = .ok (u.erase, q, m) := by
  rcases HFIN.o with ⟨_,h⟩ | ⟨h,_⟩
  ·exact h
  ·exact absurd rfl h
 have v0 := HBV.o.cell 0; have v1 := HBV.o.cell 1; have v2 := HBV.o.cell 2; have v3 := HBV.o.cell 3; have v4 := HBV.o.cell 4; have v5 := HBV.o.cell 5; simp only [gX0,gX1,gX2] at v0 v1 v2 v3 v4 v5; have hri := rrightf_any u W2 HUI.o; unfold Val.agg at hri; rw [HK4.o,HK5.o] at hri
 cases hR : u.RightB with
 | false =>
  rw [hR] at hri; have HRI := gh hri; have HE : Hid (readV s p = .error 5) := gh (by unfold readV; rw [hrd]; simp only; rw [Val.RightB_erase,hR]; rfl)
  clear hri hR hrd HFIN
  go_wp2_with fail
  refine HRI.o.mono ?_; rintro e w3 ⟨rfl,hb3⟩; have HA3 := gh (HA.o.below hb3 HA.o.lt); have HRS3 := gh (HRS.o.below hb3 HRS.o.lt); have HB3 := gh (HB2.o.trans (hb3.mono HB2.o.size)); clear hb3 HRI HA HRS HB2 ce ca; clear v0 v1 v2 v3 v4 v5
  go_wp2_with fail
  refine (ffail_any 5 s q m g _ HA3.o).mono ?_; rintro e w4 ⟨rfl,ha4,ho4⟩; have HA := gh ha4; have HRS := gh (HRS3.o.grown ho4 (by simp; omega))
  have HB2 := gh (Go.Proofs.YtaamihdibpioaaaGreat.Below.only HB3.o ho4 HGW.o HB3.o.size); clear ha4 ho4 HA3 HRS3 HB3; have ce := HA.o.cell 2; simp only [gX0,gX1,gX2] at ce
  go_wp2_with fail
  clear ce; have hn0 := stored6' (HRS.o) (.int .i64 0) (.int .i64 0) (.float .f64 0) (.string ⟨#[]⟩) (.slice none 0 0) (.slice none 0 0); have ha := HA.o.drew.cell 2; simp only [gX0,gX1,gX2] at ha; have hb := (Blk.grown HA.o hn0.2 (by simp; omega)).drew.cell 2
  have hn := And.intro hn0.1.drew hn0.2.drew; simp only [gX0,gX1,gX2] at hb; have HA0 := gh ha; have HA1 := gh hb; have HN := gh hn; clear ha hb hn hn0; have r0 := HRS.o.cell 0; have f0 := HRS.o.frozen 0; have r1 := HRS.o.cell 1; have f1 := HRS.o.frozen 1; have r2 := HRS.o.cell 2; have f2 := HRS.o.frozen 2; have r3 := HRS.o.cell 3; have f3 := HRS.o.frozen 3; have r4 := HRS.o.cell 4; have f4 := HRS.o.frozen 4; have r5 := HRS.o.cell 5; have f5 := HRS.o.frozen 5; simp only [gX0,gX1,gX2] at r0 r1 r2 r3 r4 r5
  go_region_held3 (fun W => W.cell? ⟨g, 2,none⟩ = some (.int .i64 5)) (first | with_reducible exact HA0.o | with_reducible exact HA1.o | fail) (first | fail)
  all_goals
   go_wp2_with fail
   clear r0 f0 r1 f1 r2 f2 r3 f3 r4 f4 r5 f5; have e0 := HN.o.1.cell 0; have e1 := HN.o.1.cell 1; have e2 := HN.o.1.cell 2; have e3 := HN.o.1.cell 3; have e4 := HN.o.1.cell 4; have e5 := HN.o.1.cell 5; simp only [gX0,gX1,gX2] at e0 e1 e2 e3 e4 e5; refine bodyPost_ret (v := .tuple #[.agg #[.int .i64 0, .int .i64 0, .float .f64 0, .string ⟨#[]⟩, .slice none 0 0, .slice none 0 0], .int .i64 0, .int .i64 5]) (by simp [results,Tryz.results116,go_sem,e0,e1,e2,e3,e4,e5]) rfl ?_
   rw [HE.o]; exact ⟨Go.Proofs.YtaamihdibpioaaaGreat.Below.only HB2.o HN.o.2 (by rw [HR.o]; exact Nat.le_refl _) HB2.o.size,rfl⟩
 | true =>
  rw [hR] at hri; have HRI := gh hri; have HE : Hid (readV s p = .ok (u.erase,q)) := gh (by unfold readV; rw [hrd]; simp only; rw [Val.RightB_erase,hR]; rfl)
  clear hri hR hrd HFIN
  go_wp2_with fail
  refine HRI.o.mono ?_; rintro e w3 ⟨rfl,hb3⟩; have HA3 := gh (HA.o.below hb3 HA.o.lt); have HRS3 := gh (HRS.o.below hb3 HRS.o.lt); have HBV3 := gh (HBV.o.below hb3 HBV.o.lt); have HUI3 := gh (HUI.o.below hb3); have HB3 := gh (HB2.o.trans (hb3.mono HB2.o.size)); clear hb3 HRI HA HRS HB2 HBV HUI ce ca; clear v0 v1 v2 v3 v4 v5; have ce := HA3.o.cell 2; simp only [gX0,gX1,gX2] at ce
  go_wp2_with fail
  clear ce; have hn0 := stored6' (HRS3.o) (.int .i64 u.k) (.int .i64 u.n) (.float .f64 u.f) (.string u.s) (.slice a4 u.ns.length b4) (.slice a5 u.xs.length b5); have hn := And.intro hn0.1.drew hn0.2.drew
  have s0 : w3.drew.cell? ⟨g, 1, none⟩ = some (.int .i64 q) /\ w3.drew.cell? ⟨V, 0, none⟩ = some (.int .i64 u.k) /\ w3.drew.cell? ⟨V, 1, none⟩ = some (.int .i64 u.n) /\ w3.drew.cell? ⟨V, 2, none⟩ = some (.float .f64 u.f) /\ w3.drew.cell? ⟨V, 3, none⟩ = some (.string u.s) /\ w3.drew.cell? ⟨V, 4, none⟩ = some (.slice a4 u.ns.length b4) /\ w3.drew.cell? ⟨V, 5, none⟩ = some (.slice a5 u.xs.length b5) := by
   have h1 := HA3.o.drew.cell 1; have hv := HBV3.o.drew; simp only [gX0,gX1,gX2] at h1; exact ⟨h1,hv.cell 0,hv.cell 1,hv.cell 2,hv.cell 3,hv.cell 4,hv.cell 5⟩
  have s1 : ((((((w3.setCell ⟨R, 0, none⟩ (.int .i64 u.k)).setCell ⟨R, 1, none⟩ (.int .i64 u.n)).setCell ⟨R, 2, none⟩ (.float .f64 u.f)).setCell ⟨R, 3, none⟩ (.string u.s)).setCell ⟨R, 4, none⟩ (.slice a4 u.ns.length b4)).setCell ⟨R, 5, none⟩ (.slice a5 u.xs.length b5)).drew.cell? ⟨g, 1, none⟩ = some (.int .i64 q) /\ ((((((w3.setCell ⟨R, 0, none⟩ (.int .i64 u.k)).setCell ⟨R, 1, none⟩ (.int .i64 u.n)).setCell ⟨R, 2, none⟩ (.float .f64 u.f)).setCell ⟨R, 3, none⟩ (.string u.s)).setCell ⟨R, 4, none⟩ (.slice a4 u.ns.length b4)).setCell ⟨R, 5, none⟩ (.slice a5 u.xs.length b5)).drew.cell? ⟨V, 0, none⟩ = some (.int .i64 u.k) /\ ((((((w3.setCell ⟨R, 0, none⟩ (.int .i64 u.k)).setCell ⟨R, 1, none⟩ (.int .i64 u.n)).setCell ⟨R, 2, none⟩ (.float .f64 u.f)).setCell ⟨R, 3, none⟩ (.string u.s)).setCell ⟨R, 4, none⟩ (.slice a4 u.ns.length b4)).setCell ⟨R, 5, none⟩ (.slice a5 u.xs.length b5)).drew.cell? ⟨V, 1, none⟩ = some (.int .i64 u.n) /\ ((((((w3.setCell ⟨R, 0, none⟩ (.int .i64 u.k)).setCell ⟨R, 1, none⟩ (.int .i64 u.n)).setCell ⟨R, 2, none⟩ (.float .f64 u.f)).setCell ⟨R, 3, none⟩ (.string u.s)).setCell ⟨R, 4, none⟩ (.slice a4 u.ns.length b4)).setCell ⟨R, 5, none⟩ (.slice a5 u.xs.length b5)).drew.cell? ⟨V, 2, none⟩ = some (.float .f64 u.f) /\ ((((((w3.setCell ⟨R, 0, none⟩ (.int .i64 u.k)).setCell ⟨R, 1, none⟩ (.int .i64 u.n)).setCell ⟨R, 2, none⟩ (.float .f64 u.f)).setCell ⟨R, 3, none⟩ (.string u.s)).setCell ⟨R, 4, none⟩ (.slice a4 u.ns.length b4)).setCell ⟨R, 5, none⟩ (.slice a5 u.xs.length b5)).drew.cell? ⟨V, 3, none⟩ = some (.string u.s) /\ ((((((w3.setCell ⟨R, 0, none⟩ (.int .i64 u.k)).setCell ⟨R, 1, none⟩ (.int .i64 u.n)).setCell ⟨R, 2, none⟩ (.float .f64 u.f)).setCell ⟨R, 3, none⟩ (.string u.s)).setCell ⟨R, 4, none⟩ (.slice a4 u.ns.length b4)).setCell ⟨R, 5, none⟩ (.slice a5 u.xs.length b5)).drew.cell? ⟨V, 4, none⟩ = some (.slice a4 u.ns.length b4) /\ ((((((w3.setCell ⟨R, 0, none⟩ (.int .i64 u.k)).setCell ⟨R, 1, none⟩ (.int .i64 u.n)).setCell ⟨R, 2, none⟩ (.float .f64 u.f)).setCell ⟨R, 3, none⟩ (.string u.s)).setCell ⟨R, 4, none⟩ (.slice a4 u.ns.length b4)).setCell ⟨R, 5, none⟩ (.slice a5 u.xs.length b5)).drew.cell? ⟨V, 5, none⟩ = some (.slice a5 u.xs.length b5) := by
   have h1 := (Blk.grown HA3.o hn0.2 (by simp; omega)).drew.cell 1
   have hv := (HBV3.o.grown hn0.2 (by simp; omega)).drew
   simp only [gX0,gX1,gX2] at h1; exact ⟨h1,hv.cell 0,hv.cell 1,hv.cell 2,hv.cell 3,hv.cell 4,hv.cell 5⟩
  have HS0 := gh s0; have HS1 := gh s1; have HN := gh hn; clear s0 s1 hn hn0; have r0 := HRS3.o.cell 0; have f0 := HRS3.o.frozen 0; have r1 := HRS3.o.cell 1; have f1 := HRS3.o.frozen 1; have r2 := HRS3.o.cell 2; have f2 := HRS3.o.frozen 2; have r3 := HRS3.o.cell 3; have f3 := HRS3.o.frozen 3; have r4 := HRS3.o.cell 4; have f4 := HRS3.o.frozen 4; have r5 := HRS3.o.cell 5; have f5 := HRS3.o.frozen 5; simp only [gX0,gX1,gX2] at r0 r1 r2 r3 r4 r5
  go_region_held3 (fun W => W.cell? ⟨g, 1,none⟩ = some (.int .i64 q) /\ W.cell? ⟨V, 0,none⟩ = some (.int .i64 u.k) /\ W.cell? ⟨V, 1,none⟩ = some (.int .i64 u.n) /\ W.cell? ⟨V, 2,none⟩ = some (.float .f64 u.f) /\ W.cell? ⟨V, 3,none⟩ = some (.string u.s) /\ W.cell? ⟨V, 4,none⟩ = some (.slice a4 u.ns.length b4) /\ W.cell? ⟨V, 5,none⟩ = some (.slice a5 u.xs.length b5)) (first | with_reducible exact HS0.o | with_reducible exact HS1.o | fail) (first | fail)
  all_goals
   go_wp2_with fail
   clear r0 f0 r1 f1 r2 f2 r3 f3 r4 f4 r5 f5; have e0 := HN.o.1.cell 0; have e1 := HN.o.1.cell 1; have e2 := HN.o.1.cell 2; have e3 := HN.o.1.cell 3; have e4 := HN.o.1.cell 4; have e5 := HN.o.1.cell 5; simp only [gX0,gX1,gX2] at e0 e1 e2 e3 e4 e5; refine bodyPost_ret (v := .tuple #[.agg #[.int .i64 u.k, .int .i64 u.n, .float .f64 u.f, .string u.s, .slice a4 u.ns.length b4, .slice a5 u.xs.length b5], .int .i64 q, .int .i64 0]) (by simp [results,Tryz.results116,go_sem,e0,e1,e2,e3,e4,e5]) rfl ?_
   rw [HE.o]; refine ⟨Go.Proofs.YtaamihdibpioaaaGreat.Below.only HB3.o HN.o.2 (by rw [HR.o]; exact Nat.le_refl _) HB3.o.size,u,?_,rfl,?_,HUS.o.mono (fun b hb => by have hb' : R + 1 <= b := hb; have := HR.o; omega)⟩
   ·unfold Val.agg; rw [HK4.o,HK5.o]
   ·exact HUI3.o.carryS HUS.o (fun b o hb hlt => only_cell HN.o.2 (by omega) hlt o) HN.o.2.size
end Go.Proofs.YtaamihdibpioaaaGreat
