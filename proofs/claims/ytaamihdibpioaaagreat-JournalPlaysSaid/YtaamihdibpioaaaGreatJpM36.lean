/- basculelaw18.long of any script; the laws by which a call of a script is copied as one. -/
import Derived.Test.YtaamihdibpioaaaGreatJpM32
import Derived.Test.YtaamihdibpioaaaGreatJpM35
import Derived.Deep.MidRow
import Derived.Deep.WholeRow
set_option maxRecDepth 100000
set_option maxHeartbeats 40000000
namespace Go.Proofs.YtaamihdibpioaaaGreat.Jr
open Go.RowKit Go.Proofs.YtaamihdibpioaaaGreat.Pk Go.Proofs.YtaamihdibpioaaaGreat.Rf
theorem wpList_store_new {P : Program} {ops : Array Oper} {rest : List Oper} {o : Oper} {a : Act} {w0 W : World} {Q : Exit -> Act -> World -> Prop} (ty : TypeId) (x y : Operand) (cells old : Array Value)
  (hgd : o.guard = none) (ho : o.op = .store ty x y) (hW : W = w0.alloc (.cells cells ty)) (hx : a.eval x = .pointer (some ⟨w0.heap.size, 0,none⟩)) (hy : a.eval y = .agg cells)
  (hi : (P.info? ty).map (·.size) = some cells.size) (hold : old.size = cells.size) (h1 : cells.all (·.oneCell') = true)
  (h : wpList P ops Q rest (a.put o.dst undef) W) : wpList P ops Q (o :: rest) a (w0.alloc (.cells old ty)) :=
 wpList_store_row hgd ty x y ho w0.heap.size cells hx hy ty old (heap_alloc_last w0 _) hi hold h1 (by rw [World.setRow_alloc_new, <- hW]; exact h)
theorem op_one (r : JOp) : r.cells.toArray.all (·.oneCell') = true := by
 rw [List.all_toArray,List.all_eq_true]; intro u hu; unfold JOp.cells at hu
 rcases List.mem_append.1 hu with hu | hu
 ·simp at hu
  rcases hu with rfl | rfl | rfl <;> rfl
 ·exact Cm.oneCell _ u hu
theorem op_range {w : World} {b o : Nat} {r : JOp} (h : ∀ j, j < 20 -> w.cell? ⟨b, o + j, none⟩ = r.cells[j]?) : w.rangeAt b o r.cells := fun j v hv => by
 have hj : j < 20 := by
  have := (List.getElem?_eq_some_iff.1 hv).1; rw [JOp.cells_len] at this; exact this
 rw [h j hj,hv]
theorem op_cmd {w : World} {b : Nat} {r : JOp} (h : Blk w b 41 r.cells.toArray) : w.rangeAt b 3 r.c.cells := fun j v hv => by
 have := h.cell (3 + j); rw [this]
 show r.cells.toArray[3 + j]? = _
 rw [List.getElem?_toArray]; unfold JOp.cells; rw [List.getElem?_append_right (by simp)]
 rw [<- hv]
 congr 1
 simp
theorem op_info : (Tryz.prog.info? 41).map (·.size) = some 20 := by kernel_rfl
theorem cmd_info : (Tryz.prog.info? 39).map (·.size) = some 17 := by kernel_rfl
def longB (us : List JOp) : Bool := !(us.all fun o => cmSmall o.c) || decide (300 < us.length)
theorem long_any (us : List JOp) (vp : Option Addr) (vc : Nat) (w : World) (hv : OpsIn w vp vc us) :
  Calls Tryz.prog 9 #[.slice vp us.length vc] w fun e w' => BoolBelow (longB us) w e w' := by
 obtain ⟨R,hR⟩ := gXe (longB us); rw [<- hR]; obtain ⟨N,hN⟩ := gXe (us.length); rw [<- hN]; have hNb : N <= 586406201480 := by rw [hN]; exact hv.len
 have hNc : N <= vc := by rw [hN]; exact hv.cap
 have HR := gh hR; have HN := gh hN; have HV := gh hv; clear hR hN hv
 go_enter Tryz.func9,Tryz.ntmps9
 go_wp2_with fail
 go_loopw [7] (fun iv wr => ∃ i : Nat,iv = .int .i64 (i : Int) /\ i <= N /\ Hid ((us.take i).all (fun o => cmSmall o.c) = true) /\ Hid (Below w.heap.size w wr)) (fun iv _ => N - (intOf iv).toNat)
 case atStart => exact ⟨0,rfl,by omega,gh rfl,gh (Below.refl _ _)⟩
 case round =>
  obtain ⟨i,rfl,hi,HAL,HBL⟩ := hrel
  by_cases hlt : i < N
  ·have hil : i < us.length := by rw [<- HN.o]; exact hlt
   obtain ⟨b,f,rfl,hpv0,hbl,hin0⟩ := HV.o.at_ i hil; obtain ⟨v,hvd⟩ := gXe (us[i]'hil); rw [<- hvd] at hpv0 hin0; have hin := hin0.below HBL.o; have hcc : ∀ j,j < 20 -> wr.cell? ⟨b,f + i * 20 + j,none⟩ = v.cells[j]? := fun j hj => (HBL.o.cell (p := ⟨b,f + i * 20 + j,none⟩) hbl).trans (hpv0 j hj)
   obtain ⟨W,hW⟩ := gXe (wr.alloc (.cells v.cells.toArray 41)); have hbW : Below wr.heap.size wr W := by rw [hW]; exact (Below.refl _ _).alloc (Nat.le_refl _) _
   have hbk : Blk W wr.heap.size 41 v.cells.toArray := by rw [hW]; exact Blk.new _ _ _
   have HP := gh (smallc_any v.c W (hin.2.2.2.below hbW)); have hk0 : (0 : Int) <= (i : Int) := by omega
   have hk1 : (i : Int) < (N : Int) := by omega
   have HW := gh hW; have HBW := gh (HBL.o.trans (hbW.mono HBL.o.size)); have HRA := gh (op_range hcc); have HRC := gh (op_cmd hbk); have HVD := gh hvd
   have HRF : Hid (cmSmall v.c = false -> R = true) := gh (fun h => by
    rw [HR.o]; unfold longB
    have : (us.all fun o => cmSmall o.c) = false := by
     rw [Bool.eq_false_iff]; intro hall; have := List.all_eq_true.1 hall v (by rw [HVD.o]; simp)
     rw [this] at h
     cases h
    rw [this]
    rfl)
   clear hpv0 hcc hin hin0 hvd hW hbW hbk
   go_wp2_with (first
    | (refine wpList_load_mid rfl 41 _ rfl b (f + i * 20) rfl v.cells _ HRA.o Tryz.underlying41 rfl op_info ?_)
    | (refine wpList_store_new 41 _ _ v.cells.toArray _ rfl rfl HW.o rfl rfl op_info rfl (op_one v) ?_)
    | (refine wpList_load_mid rfl 39 _ rfl wr.heap.size 3 rfl v.c.cells _ HRC.o Tryz.underlying39 rfl cmd_info ?_)
    | (refine HP.o.mono ?_))
   rintro e w1 ⟨rfl,hb1⟩; have B1 := gh (HBW.o.trans (hb1.mono HBW.o.size)); clear hb1
   cases hs : cmSmall v.c with
   | false =>
    have HRN := gh (HRF.o hs); clear hs
    go_wp2_with fail
    go_ret
    exact ⟨by rw [HRN.o]; rfl,B1.o⟩
   | true =>
    have HAL2 : Hid ((us.take (i + 1)).all (fun o => cmSmall o.c) = true) := gh (by
     rw [List.take_succ_eq_append_getElem hil,List.all_append,HAL.o, <- HVD.o]
     simp [hs])
    clear hs
    go_wp2_with fail
    go_roundw
    case rel => exact ⟨i + 1,by go_num,by omega,HAL2,B1⟩
    case measure => simp [intOf]; omega
  ·obtain rfl : i = N := by omega
   have t1 : decide ((i : Int) < (i : Int)) = false := by simp
   have HRE : Hid (R = decide (300 < i)) := gh (by
    have := HAL.o; rw [HN.o,List.take_length] at this; rw [HR.o]; unfold longB; rw [this,HN.o]
    rfl)
   clear hlt
   by_cases h40 : 300 < i
   ·have t2 : decide ((300 : Int) < (i : Int)) = true := by simp; omega
    have HRN : Hid (R = true) := gh (by rw [HRE.o]; simp [h40])
    clear h40
    go_wp2_with fail
    go_ret
    exact ⟨by rw [HRN.o]; rfl,HBL.o⟩
   ·have t2 : decide ((300 : Int) < (i : Int)) = false := by simp; omega
    have HRN : Hid (R = false) := gh (by rw [HRE.o]; simp [h40])
    clear h40
    go_wp2_with fail
    go_ret
    exact ⟨by rw [HRN.o]; rfl,HBL.o⟩
end Go.Proofs.YtaamihdibpioaaaGreat.Jr
