/- The document's answers: how two values stand. -/
import Derived.Test.YtaamihdibpioaaaGreatJpM19
import Derived.Test.YtaamihdibpioaaaGreatJpM20
import Derived.Deep.CutBlock
import Derived.StillTailTactics
set_option maxRecDepth 100000
set_option maxHeartbeats 40000000
namespace Go.Proofs.YtaamihdibpioaaaGreat
open Go.RowKit
def Val.rh1 (v u : Val) : Int := if v.k = 5 \/ v.k = 6 then 0 else if sgnI v.n u.n ≠ 0 then sgnI v.n u.n else scmp v.s u.s
def Val.rhead (v u : Val) : Int := if v.rh1 u = 0 /\ v.k ≠ 5 then ncmp v.ns u.ns else v.rh1 u
mutual
def Val.rord : Val -> Val -> Int
 | .mk k n f s na ns xa xs, u =>
  if k ≠ u.k then sgnI k u.k
  else if k = 1 \/ k = 2 then sgnI n u.n
  else if k = 3 then ford f u.f
  else if k = 4 then scmp s u.s
  else if Val.rhead (.mk k n f s na ns xa xs) u ≠ 0 then Val.rhead (.mk k n f s na ns xa xs) u
  else Val.rordAll xs u.xs
def Val.rordAll : List Val -> List Val -> Int
 | [],ys => if 0 < ys.length then -1 else 0
 | x :: xs, ys => match ys with
  | [] => 1
  | y :: ys => if x.rord y ≠ 0 then x.rord y else Val.rordAll xs ys
end
theorem Val.rord_eq (v u : Val) : v.rord u = if v.k ≠ u.k then sgnI v.k u.k else if v.k = 1 \/ v.k = 2 then sgnI v.n u.n else if v.k = 3 then ford v.f u.f else if v.k = 4 then scmp v.s u.s
  else if v.rhead u ≠ 0 then v.rhead u else Val.rordAll v.xs u.xs := by
 cases v
 simp only [Val.rord,Val.k,Val.n,Val.f,Val.s,Val.xs]
 rfl
theorem rordAll_end {xs ys : List Val} {i : Nat} (h : i <= xs.length) (h' : i <= ys.length) (hx : i = xs.length \/ i = ys.length) : Val.rordAll (xs.drop i) (ys.drop i) = sgnI (xs.length : Int) (ys.length : Int) := by
 unfold sgnI
 rcases hx with hx | hx
 ·rw [show xs.drop i = [] from List.drop_eq_nil_of_le (Nat.le_of_eq hx.symm)]
  simp only [Val.rordAll,List.length_drop]
  by_cases hm : xs.length < ys.length
  ·rw [if_pos (by omega),if_pos (by omega)]
  ·rw [if_neg (by omega),if_neg (by omega),if_neg (by omega)]
 ·rw [show ys.drop i = [] from List.drop_eq_nil_of_le (Nat.le_of_eq hx.symm)]
  by_cases hm : ys.length < xs.length
  ·rw [drop_cons (show i < xs.length by omega), if_neg (by omega), if_pos (by omega)]
   rfl
  ·rw [show xs.drop i = [] from List.drop_eq_nil_of_le (by omega), if_neg (by omega), if_neg (by omega)]
   rfl
theorem rordAll_step {xs ys : List Val} {i : Nat} (h : i < xs.length) (h' : i < ys.length) : Val.rordAll (xs.drop i) (ys.drop i) = if (xs[i]'h).rord (ys[i]'h') ≠ 0 then (xs[i]'h).rord (ys[i]'h') else Val.rordAll (xs.drop (i + 1)) (ys.drop (i + 1)) := by
 rw [drop_cons h,drop_cons h']; simp only [Val.rordAll]
theorem in_drew {w : World} {v : Val} (h : v.In w) : v.In w.drew := Val.in_carry (w := w) (w' := w.drew) (fun _ _ _ => rfl) (Nat.le_refl _) _ v (Nat.le_refl _) h
theorem rord_any (d : Nat) : ∀ (v u : Val) (w : World), v.sz <= d -> v.In w -> u.In w -> Calls Tryz.prog 49 #[v.agg, u.agg] w fun e w' => IntBelow (v.rord u) w e w' := by
 induction d with
 | zero => intro v u w hd; rw [Val.sz_eq] at hd; omega
 | succ d ih =>
  intro v u w hd hv hu; have HIH := gh ih; clear ih; obtain ⟨W,hW⟩ := gXe ((w.alloc (.cells v.cells.toArray 37)).alloc (.cells u.cells.toArray 37)); have hbW : Below w.heap.size w W := by rw [hW]; exact ((Below.refl _ _).alloc (Nat.le_refl _) _).alloc (by simp) _
  have hpv : Blk W w.heap.size 37 v.cells.toArray := by rw [hW]; exact (Blk.new w 37 _).alloc _
  have hpu : Blk W (w.heap.size + 1) 37 u.cells.toArray := by
   rw [hW]; have := Blk.new (w.alloc (.cells v.cells.toArray 37)) 37 u.cells.toArray; rw [show (w.alloc (.cells v.cells.toArray 37)).heap.size = w.heap.size + 1 from by simp] at this
   exact this
  have hoe := Val.rord_eq v u; obtain ⟨R,hR⟩ := gXe (v.rord u); rw [<- hR] at hoe ⊢; obtain ⟨p4,q4,e4,n4⟩ := names_in (NamesAt.of (hv.below hbW)); obtain ⟨r4,t4,f4,m4⟩ := names_in (NamesAt.of (hu.below hbW)); obtain ⟨p5,q5,e5,x5⟩ := items_at (hv.below hbW); obtain ⟨r5,t5,f5,y5⟩ := items_at (hu.below hbW); have hrows := fun (k : Nat) => rows_any (v.na.val v.ns.length) (u.na.val u.ns.length) v.ns u.ns (W.drewN k) ((NamesAt.of (hv.below hbW)).drewN k) ((NamesAt.of (hu.below hbW)).drewN k) hv.ok.2.2.2.2.1 hu.ok.2.2.2.2.1
  have hfo := fun (W : World) => rorder_any v.f u.f W hv.ok.2.2.1 hu.ok.2.2.1
  have hxl := hv.ok.2.2.2.2.2.1; have hyl := hu.ok.2.2.2.2.2.1; unfold Val.cells at hW hpv hpu; unfold Val.agg; rw [e4,e5,f4,f5] at hW; rw [e4,e5] at hpv ⊢; rw [f4,f5] at hpu ⊢; simp only [e4,f4] at hrows; obtain ⟨K,hK⟩ := gXe (v.k); obtain ⟨J,hJ⟩ := gXe (u.k); obtain ⟨L,hL⟩ := gXe (v.xs.length); obtain ⟨M,hM⟩ := gXe (u.xs.length); rw [<- hK, <- hL] at hW hpv ⊢; rw [<- hJ, <- hM] at hW hpu ⊢; rw [<- hK, <- hJ] at hoe; rw [<- hL] at hxl; rw [<- hM] at hyl; have HOE := gh hoe; have HROWS := gh hrows; have HFO := gh hfo; have HW := gh hW; have HBW := gh hbW; have HPV := gh hpv; have HPU := gh hpu; have HX5 := gh x5; have HY5 := gh y5; have HL := gh hL; have HM := gh hM; have HK := gh hK; have HSZ := gh (show ∀ x,x ∈ v.xs -> x.sz <= d from fun x hx => by have := Val.size_mem hx; omega)
  have a0 := hpv.cell 0; have a1 := hpv.cell 1; have a2 := hpv.cell 2; have a3 := hpv.cell 3; have a4 := hpv.cell 4; have a5 := hpv.cell 5; have b0 := hpu.cell 0; have b1 := hpu.cell 1; have b2 := hpu.cell 2; have b3 := hpu.cell 3; have b4 := hpu.cell 4; have b5 := hpu.cell 5; simp only [gX0,gX1,gX2] at a0 a1 a2 a3 a4 a5 b0 b1 b2 b3 b4 b5; clear hoe hrows hfo hW hbW hpv hpu e4 e5 f4 f5 n4 m4 x5 y5 hK hJ hL hM hv hu hd hR
  by_cases hkj : K = J
  ·subst hkj
   have t0 : (K != K) = false := by simp
   by_cases k1 : K = 1 \/ K = 2
   ·have HE : Hid (R = sgnI v.n u.n) := gh (by rw [HOE.o, if_neg (by simp), if_pos k1])
    rcases k1 with rfl | rfl
    all_goals
     go_enter Tryz.func49,Tryz.ntmps49
     go_wp2_with fail
     rw [<- HW.o]
     go_wp2_with fail
     refine (sign_any v.n u.n _).mono ?_; rintro e w' ⟨rfl,rfl⟩
     go_wp2
     go_ret
     exact ⟨by rw [HE.o]; rfl,HBW.o⟩
   ·by_cases k3 : K = 3
    ·have HE : Hid (R = ford v.f u.f) := gh (by rw [HOE.o, if_neg (by simp), if_neg k1, if_pos k3])
     subst k3; clear k1
     go_enter Tryz.func49,Tryz.ntmps49
     go_wp2_with fail
     rw [<- HW.o]
     go_wp2_with fail
     refine (HFO.o _).mono ?_; rintro e w' ⟨rfl,rfl⟩
     go_wp2
     go_ret
     exact ⟨by rw [HE.o]; rfl,HBW.o⟩
    by_cases k4 : K = 4
    ·have HE : Hid (R = scmp v.s u.s) := gh (by rw [HOE.o, if_neg (by simp), if_neg k1, if_neg k3, if_pos k4])
     subst k4; clear k1 k3
     go_enter Tryz.func49,Tryz.ntmps49
     go_wp2_with fail
     rw [<- HW.o]
     go_wp2_with fail
     refine (text_any v.s u.s _).mono ?_; rintro e w' ⟨rfl,rfl⟩
     go_wp2
     go_ret
     exact ⟨by rw [HE.o]; rfl,HBW.o⟩
    have HE : Hid (R = if v.rhead u ≠ 0 then v.rhead u else Val.rordAll v.xs u.xs) := gh (by rw [HOE.o,if_neg (by simp),if_neg k1,if_neg k3,if_neg k4])
    have i1 : (K == 1) = false := by simp; omega
    have i2 : (K == 2) = false := by simp; omega
    have i3 : (K == 3) = false := by simp; omega
    have i4 : (K == 4) = false := by simp; omega
    -- LEAVES
    have HH : Hid (v.rhead u = if (if K = 5 \/ K = 6 then 0 else if sgnI v.n u.n ≠ 0 then sgnI v.n u.n else scmp v.s u.s) = 0 /\ K ≠ 5 then ncmp v.ns u.ns else (if K = 5 \/ K = 6 then 0 else if sgnI v.n u.n ≠ 0 then sgnI v.n u.n else scmp v.s u.s)) := gh (by unfold Val.rhead Val.rh1; rw [<- HK.o])
    clear HOE
    by_cases k5 : K = 5
    ·have HS : Hid (R = Val.rordAll v.xs u.xs) := gh (by rw [HE.o, HH.o]; simp [k5])
     subst k5; clear k1 k3 k4
     go_enter Tryz.func49,Tryz.ntmps49
     go_wp2_with fail
     rw [<- HW.o]
     go_wp2_with fail
     go_loopw [5, 6] (fun cv iv wr => ∃ (i : Nat) (c : Int),cv = .int .i64 c /\ iv = .int .i64 (i : Int) /\ i <= L /\ i <= M /\ Hid ((if c ≠ 0 then c else Val.rordAll (v.xs.drop i) (u.xs.drop i)) = R) /\ Hid (Below W.heap.size W wr)) (fun _ iv _ => L - (intOf iv).toNat)
     case atStart => exact ⟨0,_,rfl,rfl,by omega,by omega,gh (by rw [if_neg (by simp),HS.o]; rfl),gh (Below.refl _ _)⟩
     case round =>
      obtain ⟨i,c,rfl,rfl,hi,hi2,HR,HB⟩ := hrel; clear a0 a1 a2 a3 a4 a5 b0 b1 b2 b3 b4 b5; have a5 := (HPV.o.below HB.o HPV.o.lt).cell 5; have b5 := (HPU.o.below HB.o HPU.o.lt).cell 5; simp only [gX0,gX1,gX2] at a5 b5
      by_cases hc : c = 0
      ·subst hc
       by_cases hlt : i < L /\ i < M
       ·obtain ⟨hlt1, hlt2⟩ := hlt
        have hil1 : i < v.xs.length := by rw [<- HL.o]; exact hlt1
        have hil2 : i < u.xs.length := by rw [<- HM.o]; exact hlt2
        obtain ⟨xb,xo,rfl,hpx,hlc⟩ := HX5.o i hil1; obtain ⟨yb,yo,rfl,hpy,hlc2⟩ := HY5.o i hil2; rw [<- HL.o] at hlc; rw [<- HM.o] at hlc2; have hst := rordAll_step hil1 hil2; have hsz := HSZ.o (v.xs[i]'hil1) (by simp)
        have hHR := HR.o; rw [if_neg (by simp),hst] at hHR
        obtain ⟨x,hxx⟩ := gXe (v.xs[i]'hil1); obtain ⟨y,hyy⟩ := gXe (u.xs[i]'hil2); rw [<- hxx] at hpx hHR hsz; rw [<- hyy] at hpy hHR; have hk0 : (0 : Int) <= (i : Int) := by omega
        have hk1 : (i : Int) < (L : Int) := by omega
        have hk2 : (i : Int) < (M : Int) := by omega
        have HPX := gh hpx; have HPY := gh hpy; have HHR := gh hHR; have HSZ2 := gh hsz; clear hpx hpy hHR hsz hst HR hxx hyy hil1 hil2
        go_wp2_with fail
        have hpx := HPX.o; have hpy := HPY.o; have hHR := HHR.o; have hsz := HSZ2.o; have hpx := hpx.below HB.o; have hpy := hpy.below HB.o; have x0 := hpx.c0; have x1 := hpx.c1; have x2 := hpx.c2; have x3 := hpx.c3; have x4 := hpx.c4; have x5 := hpx.c5; have y0 := hpy.c0; have y1 := hpy.c1; have y2 := hpy.c2; have y3 := hpy.c3; have y4 := hpy.c4; have y5 := hpy.c5; obtain ⟨s4,z4,g4⟩ := hpx.in.nslice; obtain ⟨s5,z5,g5⟩ := hpx.in.xslice; obtain ⟨s6,z6,g6⟩ := hpy.in.nslice; obtain ⟨s7,z7,g7⟩ := hpy.in.xslice; rw [g4] at x4; rw [g5] at x5; rw [g6] at y4; rw [g7] at y5; have hcc := HIH.o x y wr.drew hsz (in_drew hpx.in) (in_drew hpy.in); unfold Val.agg at hcc; rw [g4,g5,g6,g7] at hcc; obtain ⟨q,hq⟩ := gXe (x.rord y); rw [<- hq] at hcc hHR; have HC2 := gh hcc; have HR2 := gh hHR; clear hpx hpy hcc hq g4 g5 g6 g7 hsz hHR HPX HPY HHR HSZ2
        go_still_tail 10, (by kernel_rfl)
        change wpList _ _ _ _ _ wr.drew
        go_wp2_with fail
        refine HC2.o.mono ?_; rintro e w1 ⟨rfl,hb1⟩; have HB1 := gh (HB.o.trans (((Below.refl _ _).drew.trans hb1).mono HB.o.size)); clear hb1 x0 x1 x2 x3 x4 x5 y0 y1 y2 y3 y4 y5 a5 b5 HC2
        go_wp2
        go_roundw
        case rel => exact ⟨i + 1,q,rfl,by go_num,by omega,by omega,HR2,HB1⟩
        case measure => simp [intOf]; omega
       ·have hse := sign_any (L : Int) (M : Int) wr
        have hHR := HR.o; rw [if_neg (by simp),rordAll_end (by rw [<- HL.o]; exact hi) (by rw [<- HM.o]; exact hi2) (by rw [<- HL.o, <- HM.o]; omega), <- HL.o, <- HM.o] at hHR
        rw [hHR] at hse; have HS := gh hse; clear hse HR hHR
        by_cases h1 : i < L
        ·have h2 : ¬ i < M := by omega
         have t1 : decide ((i : Int) < (M : Int)) = false := by simp; omega
         have t1' : decide (i < M) = false := by simp; omega
         clear hlt
         go_wp2_with fail
         refine HS.o.mono ?_; rintro e w' ⟨rfl,rfl⟩
         go_wp2
         go_ret
         exact ⟨rfl,HBW.o.trans (HB.o.mono HBW.o.size)⟩
        ·have t1 : decide ((i : Int) < (L : Int)) = false := by simp; omega
         have t1' : decide (i < L) = false := by simp; omega
         clear hlt
         go_wp2_with fail
         refine HS.o.mono ?_; rintro e w' ⟨rfl,rfl⟩
         go_wp2
         go_ret
         exact ⟨rfl,HBW.o.trans (HB.o.mono HBW.o.size)⟩
      ·have HRC : Hid (R = c) := gh (by rw [<- HR.o, if_pos hc])
       have j1 : (c == 0) = false := by simpa using hc
       clear hc HR
       by_cases h1 : i < L
       ·by_cases h2 : i < M
        ·go_wp2
         go_ret
         exact ⟨by rw [HRC.o]; rfl,HBW.o.trans (HB.o.mono HBW.o.size)⟩
        ·have t1 : decide ((i : Int) < (M : Int)) = false := by simp; omega
         have t1' : decide (i < M) = false := by simp; omega
         go_wp2
         go_ret
         exact ⟨by rw [HRC.o]; rfl,HBW.o.trans (HB.o.mono HBW.o.size)⟩
       ·have t1 : decide ((i : Int) < (L : Int)) = false := by simp; omega
        have t1' : decide (i < L) = false := by simp; omega
        go_wp2
        go_ret
        exact ⟨by rw [HRC.o]; rfl,HBW.o.trans (HB.o.mono HBW.o.size)⟩
    by_cases k6 : K = 6
    ·obtain ⟨N, hN⟩ := gXe (ncmp v.ns u.ns)
     have HS : Hid (R = if N ≠ 0 then N else Val.rordAll v.xs u.xs) := gh (by rw [HE.o,HH.o,hN]; simp [k6])
     simp only [<- hN] at HROWS; clear hN; subst k6; clear k1 k3 k4
     go_enter Tryz.func49,Tryz.ntmps49
     go_wp2_with fail
     rw [<- HW.o]
     go_wp2_with fail
     refine (HROWS.o 0).mono ?_; rintro e w2 ⟨rfl,kd,hkd⟩; have HB2 := gh (show Below W.heap.size W w2 by rw [hkd]; exact below_drewN (Below.refl _ _) _)
     clear hkd
     go_wp2_with fail
     go_loopw [5, 6] (fun cv iv wr => ∃ (i : Nat) (c : Int),cv = .int .i64 c /\ iv = .int .i64 (i : Int) /\ i <= L /\ i <= M /\ Hid ((if c ≠ 0 then c else Val.rordAll (v.xs.drop i) (u.xs.drop i)) = R) /\ Hid (Below W.heap.size W wr)) (fun _ iv _ => L - (intOf iv).toNat)
     case atStart => exact ⟨0,_,rfl,rfl,by omega,by omega,gh (by rw [HS.o]; rfl),HB2⟩
     case round =>
      obtain ⟨i,c,rfl,rfl,hi,hi2,HR,HB⟩ := hrel; clear a0 a1 a2 a3 a4 a5 b0 b1 b2 b3 b4 b5; have a5 := (HPV.o.below HB.o HPV.o.lt).cell 5; have b5 := (HPU.o.below HB.o HPU.o.lt).cell 5; simp only [gX0,gX1,gX2] at a5 b5
      by_cases hc : c = 0
      ·subst hc
       by_cases hlt : i < L /\ i < M
       ·obtain ⟨hlt1, hlt2⟩ := hlt
        have hil1 : i < v.xs.length := by rw [<- HL.o]; exact hlt1
        have hil2 : i < u.xs.length := by rw [<- HM.o]; exact hlt2
        obtain ⟨xb,xo,rfl,hpx,hlc⟩ := HX5.o i hil1; obtain ⟨yb,yo,rfl,hpy,hlc2⟩ := HY5.o i hil2; rw [<- HL.o] at hlc; rw [<- HM.o] at hlc2; have hst := rordAll_step hil1 hil2; have hsz := HSZ.o (v.xs[i]'hil1) (by simp)
        have hHR := HR.o; rw [if_neg (by simp),hst] at hHR
        obtain ⟨x,hxx⟩ := gXe (v.xs[i]'hil1); obtain ⟨y,hyy⟩ := gXe (u.xs[i]'hil2); rw [<- hxx] at hpx hHR hsz; rw [<- hyy] at hpy hHR; have hk0 : (0 : Int) <= (i : Int) := by omega
        have hk1 : (i : Int) < (L : Int) := by omega
        have hk2 : (i : Int) < (M : Int) := by omega
        have HPX := gh hpx; have HPY := gh hpy; have HHR := gh hHR; have HSZ2 := gh hsz; clear hpx hpy hHR hsz hst HR hxx hyy hil1 hil2
        go_wp2_with fail
        have hpx := HPX.o; have hpy := HPY.o; have hHR := HHR.o; have hsz := HSZ2.o; have hpx := hpx.below HB.o; have hpy := hpy.below HB.o; have x0 := hpx.c0; have x1 := hpx.c1; have x2 := hpx.c2; have x3 := hpx.c3; have x4 := hpx.c4; have x5 := hpx.c5; have y0 := hpy.c0; have y1 := hpy.c1; have y2 := hpy.c2; have y3 := hpy.c3; have y4 := hpy.c4; have y5 := hpy.c5; obtain ⟨s4,z4,g4⟩ := hpx.in.nslice; obtain ⟨s5,z5,g5⟩ := hpx.in.xslice; obtain ⟨s6,z6,g6⟩ := hpy.in.nslice; obtain ⟨s7,z7,g7⟩ := hpy.in.xslice; rw [g4] at x4; rw [g5] at x5; rw [g6] at y4; rw [g7] at y5; have hcc := HIH.o x y wr.drew hsz (in_drew hpx.in) (in_drew hpy.in); unfold Val.agg at hcc; rw [g4,g5,g6,g7] at hcc; obtain ⟨q,hq⟩ := gXe (x.rord y); rw [<- hq] at hcc hHR; have HC2 := gh hcc; have HR2 := gh hHR; clear hpx hpy hcc hq g4 g5 g6 g7 hsz hHR HPX HPY HHR HSZ2
        go_still_tail 10, (by kernel_rfl)
        change wpList _ _ _ _ _ wr.drew
        go_wp2_with fail
        refine HC2.o.mono ?_; rintro e w1 ⟨rfl,hb1⟩; have HB1 := gh (HB.o.trans (((Below.refl _ _).drew.trans hb1).mono HB.o.size)); clear hb1 x0 x1 x2 x3 x4 x5 y0 y1 y2 y3 y4 y5 a5 b5 HC2
        go_wp2
        go_roundw
        case rel => exact ⟨i + 1,q,rfl,by go_num,by omega,by omega,HR2,HB1⟩
        case measure => simp [intOf]; omega
       ·have hse := sign_any (L : Int) (M : Int) wr
        have hHR := HR.o; rw [if_neg (by simp),rordAll_end (by rw [<- HL.o]; exact hi) (by rw [<- HM.o]; exact hi2) (by rw [<- HL.o, <- HM.o]; omega), <- HL.o, <- HM.o] at hHR
        rw [hHR] at hse; have HS := gh hse; clear hse HR hHR
        by_cases h1 : i < L
        ·have h2 : ¬ i < M := by omega
         have t1 : decide ((i : Int) < (M : Int)) = false := by simp; omega
         have t1' : decide (i < M) = false := by simp; omega
         clear hlt
         go_wp2_with fail
         refine HS.o.mono ?_; rintro e w' ⟨rfl,rfl⟩
         go_wp2
         go_ret
         exact ⟨rfl,HBW.o.trans (HB.o.mono HBW.o.size)⟩
        ·have t1 : decide ((i : Int) < (L : Int)) = false := by simp; omega
         have t1' : decide (i < L) = false := by simp; omega
         clear hlt
         go_wp2_with fail
         refine HS.o.mono ?_; rintro e w' ⟨rfl,rfl⟩
         go_wp2
         go_ret
         exact ⟨rfl,HBW.o.trans (HB.o.mono HBW.o.size)⟩
      ·have HRC : Hid (R = c) := gh (by rw [<- HR.o, if_pos hc])
       have j1 : (c == 0) = false := by simpa using hc
       clear hc HR
       by_cases h1 : i < L
       ·by_cases h2 : i < M
        ·go_wp2
         go_ret
         exact ⟨by rw [HRC.o]; rfl,HBW.o.trans (HB.o.mono HBW.o.size)⟩
        ·have t1 : decide ((i : Int) < (M : Int)) = false := by simp; omega
         have t1' : decide (i < M) = false := by simp; omega
         go_wp2
         go_ret
         exact ⟨by rw [HRC.o]; rfl,HBW.o.trans (HB.o.mono HBW.o.size)⟩
       ·have t1 : decide ((i : Int) < (L : Int)) = false := by simp; omega
        have t1' : decide (i < L) = false := by simp; omega
        go_wp2
        go_ret
        exact ⟨by rw [HRC.o]; rfl,HBW.o.trans (HB.o.mono HBW.o.size)⟩
    have i5 : (K == 5) = false := by simpa using k5
    have i6 : (K == 6) = false := by simpa using k6
    have i5' : (K != 5) = true := by simpa using k5
    have i6' : (K != 6) = true := by simpa using k6
    have HSG := gh (fun W : World => sign_any v.n u.n W)
    have HTX := gh (fun W : World => text_any v.s u.s W)
    by_cases h1 : sgnI v.n u.n = 0
    ·by_cases h2 : scmp v.s u.s = 0
     ·obtain ⟨N, hN⟩ := gXe (ncmp v.ns u.ns)
      have HS : Hid (R = if N ≠ 0 then N else Val.rordAll v.xs u.xs) := gh (by rw [HE.o,HH.o,hN]; simp [k5,k6,h1,h2])
      simp only [<- hN] at HROWS; clear hN; simp only [h1] at HSG; simp only [h2] at HTX; clear h1 h2 k5 k6 k1 k3 k4
      go_enter Tryz.func49,Tryz.ntmps49
      go_wp2_with fail
      rw [<- HW.o]
      go_wp2_with fail
      refine (HSG.o _).mono ?_; rintro e w' ⟨rfl,rfl⟩
      go_wp2_with fail
      refine (HTX.o _).mono ?_; rintro e w' ⟨rfl,rfl⟩
      go_wp2_with fail
      refine (HROWS.o 0).mono ?_; rintro e w2 ⟨rfl,kd,hkd⟩; have HB2 := gh (show Below W.heap.size W w2 by rw [hkd]; exact below_drewN (Below.refl _ _) _)
      clear hkd
      go_wp2_with fail
      go_loopw [5, 6] (fun cv iv wr => ∃ (i : Nat) (c : Int),cv = .int .i64 c /\ iv = .int .i64 (i : Int) /\ i <= L /\ i <= M /\ Hid ((if c ≠ 0 then c else Val.rordAll (v.xs.drop i) (u.xs.drop i)) = R) /\ Hid (Below W.heap.size W wr)) (fun _ iv _ => L - (intOf iv).toNat)
      case atStart => exact ⟨0,_,rfl,rfl,by omega,by omega,gh (by rw [HS.o]; rfl),HB2⟩
      case round =>
       obtain ⟨i,c,rfl,rfl,hi,hi2,HR,HB⟩ := hrel; clear a0 a1 a2 a3 a4 a5 b0 b1 b2 b3 b4 b5; have a5 := (HPV.o.below HB.o HPV.o.lt).cell 5; have b5 := (HPU.o.below HB.o HPU.o.lt).cell 5; simp only [gX0,gX1,gX2] at a5 b5
       by_cases hc : c = 0
       ·subst hc
        by_cases hlt : i < L /\ i < M
        ·obtain ⟨hlt1, hlt2⟩ := hlt
         have hil1 : i < v.xs.length := by rw [<- HL.o]; exact hlt1
         have hil2 : i < u.xs.length := by rw [<- HM.o]; exact hlt2
         obtain ⟨xb,xo,rfl,hpx,hlc⟩ := HX5.o i hil1; obtain ⟨yb,yo,rfl,hpy,hlc2⟩ := HY5.o i hil2; rw [<- HL.o] at hlc; rw [<- HM.o] at hlc2; have hst := rordAll_step hil1 hil2; have hsz := HSZ.o (v.xs[i]'hil1) (by simp)
         have hHR := HR.o; rw [if_neg (by simp),hst] at hHR
         obtain ⟨x,hxx⟩ := gXe (v.xs[i]'hil1); obtain ⟨y,hyy⟩ := gXe (u.xs[i]'hil2); rw [<- hxx] at hpx hHR hsz; rw [<- hyy] at hpy hHR; have hk0 : (0 : Int) <= (i : Int) := by omega
         have hk1 : (i : Int) < (L : Int) := by omega
         have hk2 : (i : Int) < (M : Int) := by omega
         have HPX := gh hpx; have HPY := gh hpy; have HHR := gh hHR; have HSZ2 := gh hsz; clear hpx hpy hHR hsz hst HR hxx hyy hil1 hil2
         go_wp2_with fail
         have hpx := HPX.o; have hpy := HPY.o; have hHR := HHR.o; have hsz := HSZ2.o; have hpx := hpx.below HB.o; have hpy := hpy.below HB.o; have x0 := hpx.c0; have x1 := hpx.c1; have x2 := hpx.c2; have x3 := hpx.c3; have x4 := hpx.c4; have x5 := hpx.c5; have y0 := hpy.c0; have y1 := hpy.c1; have y2 := hpy.c2; have y3 := hpy.c3; have y4 := hpy.c4; have y5 := hpy.c5; obtain ⟨s4,z4,g4⟩ := hpx.in.nslice; obtain ⟨s5,z5,g5⟩ := hpx.in.xslice; obtain ⟨s6,z6,g6⟩ := hpy.in.nslice; obtain ⟨s7,z7,g7⟩ := hpy.in.xslice; rw [g4] at x4; rw [g5] at x5; rw [g6] at y4; rw [g7] at y5; have hcc := HIH.o x y wr.drew hsz (in_drew hpx.in) (in_drew hpy.in); unfold Val.agg at hcc; rw [g4,g5,g6,g7] at hcc; obtain ⟨q,hq⟩ := gXe (x.rord y); rw [<- hq] at hcc hHR; have HC2 := gh hcc; have HR2 := gh hHR; clear hpx hpy hcc hq g4 g5 g6 g7 hsz hHR HPX HPY HHR HSZ2
         go_still_tail 10, (by kernel_rfl)
         change wpList _ _ _ _ _ wr.drew
         go_wp2_with fail
         refine HC2.o.mono ?_; rintro e w1 ⟨rfl,hb1⟩; have HB1 := gh (HB.o.trans (((Below.refl _ _).drew.trans hb1).mono HB.o.size)); clear hb1 x0 x1 x2 x3 x4 x5 y0 y1 y2 y3 y4 y5 a5 b5 HC2
         go_wp2
         go_roundw
         case rel => exact ⟨i + 1,q,rfl,by go_num,by omega,by omega,HR2,HB1⟩
         case measure => simp [intOf]; omega
        ·have hse := sign_any (L : Int) (M : Int) wr
         have hHR := HR.o; rw [if_neg (by simp),rordAll_end (by rw [<- HL.o]; exact hi) (by rw [<- HM.o]; exact hi2) (by rw [<- HL.o, <- HM.o]; omega), <- HL.o, <- HM.o] at hHR
         rw [hHR] at hse; have HS := gh hse; clear hse HR hHR
         by_cases h1 : i < L
         ·have h2 : ¬ i < M := by omega
          have t1 : decide ((i : Int) < (M : Int)) = false := by simp; omega
          have t1' : decide (i < M) = false := by simp; omega
          clear hlt
          go_wp2_with fail
          refine HS.o.mono ?_; rintro e w' ⟨rfl,rfl⟩
          go_wp2
          go_ret
          exact ⟨rfl,HBW.o.trans (HB.o.mono HBW.o.size)⟩
         ·have t1 : decide ((i : Int) < (L : Int)) = false := by simp; omega
          have t1' : decide (i < L) = false := by simp; omega
          clear hlt
          go_wp2_with fail
          refine HS.o.mono ?_; rintro e w' ⟨rfl,rfl⟩
          go_wp2
          go_ret
          exact ⟨rfl,HBW.o.trans (HB.o.mono HBW.o.size)⟩
       ·have HRC : Hid (R = c) := gh (by rw [<- HR.o, if_pos hc])
        have j1 : (c == 0) = false := by simpa using hc
        clear hc HR
        by_cases h1 : i < L
        ·by_cases h2 : i < M
         ·go_wp2
          go_ret
          exact ⟨by rw [HRC.o]; rfl,HBW.o.trans (HB.o.mono HBW.o.size)⟩
         ·have t1 : decide ((i : Int) < (M : Int)) = false := by simp; omega
          have t1' : decide (i < M) = false := by simp; omega
          go_wp2
          go_ret
          exact ⟨by rw [HRC.o]; rfl,HBW.o.trans (HB.o.mono HBW.o.size)⟩
        ·have t1 : decide ((i : Int) < (L : Int)) = false := by simp; omega
         have t1' : decide (i < L) = false := by simp; omega
         go_wp2
         go_ret
         exact ⟨by rw [HRC.o]; rfl,HBW.o.trans (HB.o.mono HBW.o.size)⟩
     ·have HS : Hid (R = scmp v.s u.s) := gh (by rw [HE.o, HH.o]; simp [k5, k6, h1, h2])
      obtain ⟨N,hN⟩ := gXe (scmp v.s u.s); simp only [h1] at HSG; simp only [<- hN] at HTX HS h2; have j2 : (N == 0) = false := by simpa using h2
      have H2 := gh h2; clear hN h1 h2 k5 k6 k1 k3 k4
      go_enter Tryz.func49,Tryz.ntmps49
      go_wp2_with fail
      rw [<- HW.o]
      go_wp2_with fail
      refine (HSG.o _).mono ?_; rintro e w' ⟨rfl,rfl⟩
      go_wp2_with fail
      refine (HTX.o _).mono ?_; rintro e w' ⟨rfl,rfl⟩
      go_wp2_with fail
      go_loopw [5, 6] (fun cv iv wr => ∃ (i : Nat) (c : Int),cv = .int .i64 c /\ iv = .int .i64 (i : Int) /\ i <= L /\ i <= M /\ Hid ((if c ≠ 0 then c else Val.rordAll (v.xs.drop i) (u.xs.drop i)) = R) /\ Hid (Below W.heap.size W wr)) (fun _ iv _ => L - (intOf iv).toNat)
      case atStart => exact ⟨0,_,rfl,rfl,by omega,by omega,gh (by rw [if_pos H2.o,HS.o]),gh (Below.refl _ _)⟩
      case round =>
       obtain ⟨i,c,rfl,rfl,hi,hi2,HR,HB⟩ := hrel; clear a0 a1 a2 a3 a4 a5 b0 b1 b2 b3 b4 b5; have a5 := (HPV.o.below HB.o HPV.o.lt).cell 5; have b5 := (HPU.o.below HB.o HPU.o.lt).cell 5; simp only [gX0,gX1,gX2] at a5 b5
       by_cases hc : c = 0
       ·subst hc
        by_cases hlt : i < L /\ i < M
        ·obtain ⟨hlt1, hlt2⟩ := hlt
         have hil1 : i < v.xs.length := by rw [<- HL.o]; exact hlt1
         have hil2 : i < u.xs.length := by rw [<- HM.o]; exact hlt2
         obtain ⟨xb,xo,rfl,hpx,hlc⟩ := HX5.o i hil1; obtain ⟨yb,yo,rfl,hpy,hlc2⟩ := HY5.o i hil2; rw [<- HL.o] at hlc; rw [<- HM.o] at hlc2; have hst := rordAll_step hil1 hil2; have hsz := HSZ.o (v.xs[i]'hil1) (by simp)
         have hHR := HR.o; rw [if_neg (by simp),hst] at hHR
         obtain ⟨x,hxx⟩ := gXe (v.xs[i]'hil1); obtain ⟨y,hyy⟩ := gXe (u.xs[i]'hil2); rw [<- hxx] at hpx hHR hsz; rw [<- hyy] at hpy hHR; have hk0 : (0 : Int) <= (i : Int) := by omega
         have hk1 : (i : Int) < (L : Int) := by omega
         have hk2 : (i : Int) < (M : Int) := by omega
         have HPX := gh hpx; have HPY := gh hpy; have HHR := gh hHR; have HSZ2 := gh hsz; clear hpx hpy hHR hsz hst HR hxx hyy hil1 hil2
         go_wp2_with fail
         have hpx := HPX.o; have hpy := HPY.o; have hHR := HHR.o; have hsz := HSZ2.o; have hpx := hpx.below HB.o; have hpy := hpy.below HB.o; have x0 := hpx.c0; have x1 := hpx.c1; have x2 := hpx.c2; have x3 := hpx.c3; have x4 := hpx.c4; have x5 := hpx.c5; have y0 := hpy.c0; have y1 := hpy.c1; have y2 := hpy.c2; have y3 := hpy.c3; have y4 := hpy.c4; have y5 := hpy.c5; obtain ⟨s4,z4,g4⟩ := hpx.in.nslice; obtain ⟨s5,z5,g5⟩ := hpx.in.xslice; obtain ⟨s6,z6,g6⟩ := hpy.in.nslice; obtain ⟨s7,z7,g7⟩ := hpy.in.xslice; rw [g4] at x4; rw [g5] at x5; rw [g6] at y4; rw [g7] at y5; have hcc := HIH.o x y wr.drew hsz (in_drew hpx.in) (in_drew hpy.in); unfold Val.agg at hcc; rw [g4,g5,g6,g7] at hcc; obtain ⟨q,hq⟩ := gXe (x.rord y); rw [<- hq] at hcc hHR; have HC2 := gh hcc; have HR2 := gh hHR; clear hpx hpy hcc hq g4 g5 g6 g7 hsz hHR HPX HPY HHR HSZ2
         go_still_tail 10, (by kernel_rfl)
         change wpList _ _ _ _ _ wr.drew
         go_wp2_with fail
         refine HC2.o.mono ?_; rintro e w1 ⟨rfl,hb1⟩; have HB1 := gh (HB.o.trans (((Below.refl _ _).drew.trans hb1).mono HB.o.size)); clear hb1 x0 x1 x2 x3 x4 x5 y0 y1 y2 y3 y4 y5 a5 b5 HC2
         go_wp2
         go_roundw
         case rel => exact ⟨i + 1,q,rfl,by go_num,by omega,by omega,HR2,HB1⟩
         case measure => simp [intOf]; omega
        ·have hse := sign_any (L : Int) (M : Int) wr
         have hHR := HR.o; rw [if_neg (by simp),rordAll_end (by rw [<- HL.o]; exact hi) (by rw [<- HM.o]; exact hi2) (by rw [<- HL.o, <- HM.o]; omega), <- HL.o, <- HM.o] at hHR
         rw [hHR] at hse; have HS := gh hse; clear hse HR hHR
         by_cases h1 : i < L
         ·have h2 : ¬ i < M := by omega
          have t1 : decide ((i : Int) < (M : Int)) = false := by simp; omega
          have t1' : decide (i < M) = false := by simp; omega
          clear hlt
          go_wp2_with fail
          refine HS.o.mono ?_; rintro e w' ⟨rfl,rfl⟩
          go_wp2
          go_ret
          exact ⟨rfl,HBW.o.trans (HB.o.mono HBW.o.size)⟩
         ·have t1 : decide ((i : Int) < (L : Int)) = false := by simp; omega
          have t1' : decide (i < L) = false := by simp; omega
          clear hlt
          go_wp2_with fail
          refine HS.o.mono ?_; rintro e w' ⟨rfl,rfl⟩
          go_wp2
          go_ret
          exact ⟨rfl,HBW.o.trans (HB.o.mono HBW.o.size)⟩
       ·have HRC : Hid (R = c) := gh (by rw [<- HR.o, if_pos hc])
        have j1 : (c == 0) = false := by simpa using hc
        clear hc HR
        by_cases h1 : i < L
        ·by_cases h2 : i < M
         ·go_wp2
          go_ret
          exact ⟨by rw [HRC.o]; rfl,HBW.o.trans (HB.o.mono HBW.o.size)⟩
         ·have t1 : decide ((i : Int) < (M : Int)) = false := by simp; omega
          have t1' : decide (i < M) = false := by simp; omega
          go_wp2
          go_ret
          exact ⟨by rw [HRC.o]; rfl,HBW.o.trans (HB.o.mono HBW.o.size)⟩
        ·have t1 : decide ((i : Int) < (L : Int)) = false := by simp; omega
         have t1' : decide (i < L) = false := by simp; omega
         go_wp2
         go_ret
         exact ⟨by rw [HRC.o]; rfl,HBW.o.trans (HB.o.mono HBW.o.size)⟩
    ·have HS : Hid (R = sgnI v.n u.n) := gh (by rw [HE.o, HH.o]; simp [k5, k6, h1])
     obtain ⟨N,hN⟩ := gXe (sgnI v.n u.n); simp only [<- hN] at HSG HS h1; have j2 : (N == 0) = false := by simpa using h1
     have H2 := gh h1; clear hN h1 k5 k6 k1 k3 k4
     go_enter Tryz.func49,Tryz.ntmps49
     go_wp2_with fail
     rw [<- HW.o]
     go_wp2_with fail
     refine (HSG.o _).mono ?_; rintro e w' ⟨rfl,rfl⟩
     go_wp2_with fail
     go_loopw [5, 6] (fun cv iv wr => ∃ (i : Nat) (c : Int),cv = .int .i64 c /\ iv = .int .i64 (i : Int) /\ i <= L /\ i <= M /\ Hid ((if c ≠ 0 then c else Val.rordAll (v.xs.drop i) (u.xs.drop i)) = R) /\ Hid (Below W.heap.size W wr)) (fun _ iv _ => L - (intOf iv).toNat)
     case atStart => exact ⟨0,_,rfl,rfl,by omega,by omega,gh (by rw [if_pos H2.o,HS.o]),gh (Below.refl _ _)⟩
     case round =>
      obtain ⟨i,c,rfl,rfl,hi,hi2,HR,HB⟩ := hrel; clear a0 a1 a2 a3 a4 a5 b0 b1 b2 b3 b4 b5; have a5 := (HPV.o.below HB.o HPV.o.lt).cell 5; have b5 := (HPU.o.below HB.o HPU.o.lt).cell 5; simp only [gX0,gX1,gX2] at a5 b5
      by_cases hc : c = 0
      ·subst hc
       by_cases hlt : i < L /\ i < M
       ·obtain ⟨hlt1, hlt2⟩ := hlt
        have hil1 : i < v.xs.length := by rw [<- HL.o]; exact hlt1
        have hil2 : i < u.xs.length := by rw [<- HM.o]; exact hlt2
        obtain ⟨xb,xo,rfl,hpx,hlc⟩ := HX5.o i hil1; obtain ⟨yb,yo,rfl,hpy,hlc2⟩ := HY5.o i hil2; rw [<- HL.o] at hlc; rw [<- HM.o] at hlc2; have hst := rordAll_step hil1 hil2; have hsz := HSZ.o (v.xs[i]'hil1) (by simp)
        have hHR := HR.o; rw [if_neg (by simp),hst] at hHR
        obtain ⟨x,hxx⟩ := gXe (v.xs[i]'hil1); obtain ⟨y,hyy⟩ := gXe (u.xs[i]'hil2); rw [<- hxx] at hpx hHR hsz; rw [<- hyy] at hpy hHR; have hk0 : (0 : Int) <= (i : Int) := by omega
        have hk1 : (i : Int) < (L : Int) := by omega
        have hk2 : (i : Int) < (M : Int) := by omega
        have HPX := gh hpx; have HPY := gh hpy; have HHR := gh hHR; have HSZ2 := gh hsz; clear hpx hpy hHR hsz hst HR hxx hyy hil1 hil2
        go_wp2_with fail
        have hpx := HPX.o; have hpy := HPY.o; have hHR := HHR.o; have hsz := HSZ2.o; have hpx := hpx.below HB.o; have hpy := hpy.below HB.o; have x0 := hpx.c0; have x1 := hpx.c1; have x2 := hpx.c2; have x3 := hpx.c3; have x4 := hpx.c4; have x5 := hpx.c5; have y0 := hpy.c0; have y1 := hpy.c1; have y2 := hpy.c2; have y3 := hpy.c3; have y4 := hpy.c4; have y5 := hpy.c5; obtain ⟨s4,z4,g4⟩ := hpx.in.nslice; obtain ⟨s5,z5,g5⟩ := hpx.in.xslice; obtain ⟨s6,z6,g6⟩ := hpy.in.nslice; obtain ⟨s7,z7,g7⟩ := hpy.in.xslice; rw [g4] at x4; rw [g5] at x5; rw [g6] at y4; rw [g7] at y5; have hcc := HIH.o x y wr.drew hsz (in_drew hpx.in) (in_drew hpy.in); unfold Val.agg at hcc; rw [g4,g5,g6,g7] at hcc; obtain ⟨q,hq⟩ := gXe (x.rord y); rw [<- hq] at hcc hHR; have HC2 := gh hcc; have HR2 := gh hHR; clear hpx hpy hcc hq g4 g5 g6 g7 hsz hHR HPX HPY HHR HSZ2
        go_still_tail 10, (by kernel_rfl)
        change wpList _ _ _ _ _ wr.drew
        go_wp2_with fail
        refine HC2.o.mono ?_; rintro e w1 ⟨rfl,hb1⟩; have HB1 := gh (HB.o.trans (((Below.refl _ _).drew.trans hb1).mono HB.o.size)); clear hb1 x0 x1 x2 x3 x4 x5 y0 y1 y2 y3 y4 y5 a5 b5 HC2
        go_wp2
        go_roundw
        case rel => exact ⟨i + 1,q,rfl,by go_num,by omega,by omega,HR2,HB1⟩
        case measure => simp [intOf]; omega
       ·have hse := sign_any (L : Int) (M : Int) wr
        have hHR := HR.o; rw [if_neg (by simp),rordAll_end (by rw [<- HL.o]; exact hi) (by rw [<- HM.o]; exact hi2) (by rw [<- HL.o, <- HM.o]; omega), <- HL.o, <- HM.o] at hHR
        rw [hHR] at hse; have HS := gh hse; clear hse HR hHR
        by_cases h1 : i < L
        ·have h2 : ¬ i < M := by omega
         have t1 : decide ((i : Int) < (M : Int)) = false := by simp; omega
         have t1' : decide (i < M) = false := by simp; omega
         clear hlt
         go_wp2_with fail
         refine HS.o.mono ?_; rintro e w' ⟨rfl,rfl⟩
         go_wp2
         go_ret
         exact ⟨rfl,HBW.o.trans (HB.o.mono HBW.o.size)⟩
        ·have t1 : decide ((i : Int) < (L : Int)) = false := by simp; omega
         have t1' : decide (i < L) = false := by simp; omega
         clear hlt
         go_wp2_with fail
         refine HS.o.mono ?_; rintro e w' ⟨rfl,rfl⟩
         go_wp2
         go_ret
         exact ⟨rfl,HBW.o.trans (HB.o.mono HBW.o.size)⟩
      ·have HRC : Hid (R = c) := gh (by rw [<- HR.o, if_pos hc])
       have j1 : (c == 0) = false := by simpa using hc
       clear hc HR
       by_cases h1 : i < L
       ·by_cases h2 : i < M
        ·go_wp2
         go_ret
         exact ⟨by rw [HRC.o]; rfl,HBW.o.trans (HB.o.mono HBW.o.size)⟩
        ·have t1 : decide ((i : Int) < (M : Int)) = false := by simp; omega
         have t1' : decide (i < M) = false := by simp; omega
         go_wp2
         go_ret
         exact ⟨by rw [HRC.o]; rfl,HBW.o.trans (HB.o.mono HBW.o.size)⟩
       ·have t1 : decide ((i : Int) < (L : Int)) = false := by simp; omega
        have t1' : decide (i < L) = false := by simp; omega
        go_wp2
        go_ret
        exact ⟨by rw [HRC.o]; rfl,HBW.o.trans (HB.o.mono HBW.o.size)⟩
  ·have HE : Hid (R = sgnI K J) := gh (by rw [HOE.o, if_pos hkj])
   have t0 : (K != J) = true := by simpa using hkj
   clear hkj
   go_enter Tryz.func49,Tryz.ntmps49
   go_wp2_with fail
   rw [<- HW.o]
   go_wp2_with fail
   refine (sign_any K J _).mono ?_; rintro e w' ⟨rfl,rfl⟩
   go_wp2
   go_ret
   exact ⟨by rw [HE.o]; rfl,HBW.o⟩
end Go.Proofs.YtaamihdibpioaaaGreat
namespace Go.Proofs.YtaamihdibpioaaaGreat
open Go.RowKit
theorem sgnI_zero {a b : Int} : sgnI a b = 0 ↔ a = b := by
 unfold sgnI
 by_cases h : a < b
 ·rw [if_pos h]; omega
 ·rw [if_neg h]
  by_cases h' : b < a
  ·rw [if_pos h']; omega
  ·rw [if_neg h']; omega
theorem ford_zero_key {a b : Nat} : ford a b = 0 ↔ fkey a = fkey b := by
 unfold ford
 by_cases h : fkey a < fkey b
 ·rw [if_pos h]; omega
 ·rw [if_neg h]
  by_cases h' : fkey b < fkey a
  ·rw [if_pos h']; omega
  ·rw [if_neg h']; omega
theorem bytesLess_irrefl : ∀ l : List UInt8, Op.bytesLess l l = false
 | [] => rfl
 | a :: l => by simp [Op.bytesLess,bytesLess_irrefl l]
theorem scmp_zero {a b : ByteArray} : scmp a b = 0 ↔ a = b := by
 unfold scmp
 cases h1 : Op.bytesLess a.toList b.toList with
 | true =>
  rw [if_pos rfl]; refine ⟨fun h => absurd h (by decide),fun h => ?_⟩
  subst h; rw [bytesLess_irrefl] at h1
  cases h1
 | false =>
  rw [if_neg (by simp)]
  cases h2 : (a.toList == b.toList) with
  | true =>
   rw [if_pos rfl]; refine ⟨fun _ => ?_,fun _ => rfl⟩
   have e : a.toList = b.toList := by simpa using h2
   rw [Lib.toList_data,Lib.toList_data] at e; exact ByteArray.ext (Array.ext' e)
  | false =>
   rw [if_neg (by simp)]
   refine ⟨fun h => absurd h (by decide),fun h => ?_⟩
   subst h
   simp at h2
theorem ncmp_zero : ∀ {l m : List ByteArray}, ncmp l m = 0 ↔ l = m
 | [], [] => by simp [ncmp]
 | [],_ :: _ => by simp [ncmp]
 | _ :: _, [] => by simp [ncmp]
 | a :: l, b :: m => by
  simp only [ncmp]
  by_cases h : scmp a b = 0
  ·rw [if_neg (by simpa using h), ncmp_zero, scmp_zero.1 h]
   simp
  ·rw [if_pos h]
   refine ⟨fun h' => absurd h' h,fun e => ?_⟩
   injection e with e _; exact absurd (scmp_zero.2 e) h
mutual
def Val.nf : Val -> Val
 | .mk k n f s na ns xa xs => .mk k (if k = 1 \/ k = 2 then n else 0) (if k = 3 then (fkey f + 9223372036854775808).toNat else 0) (if k = 4 then s else ByteArray.empty) .no (if k = 6 then ns else []) .no (if k = 5 \/ k = 6 then Val.nfAll xs else [])
def Val.nfAll : List Val -> List Val
 | [] => []
 | x :: xs => x.nf :: Val.nfAll xs
end
theorem Val.nfAll_map : ∀ xs : List Val, Val.nfAll xs = xs.map Val.nf
 | [] => rfl
 | x :: xs => by rw [Val.nfAll,Val.nfAll_map xs]; rfl
theorem Val.nf_eq (v : Val) : v.nf = .mk v.k (if v.k = 1 \/ v.k = 2 then v.n else 0) (if v.k = 3 then (fkey v.f + 9223372036854775808).toNat else 0) (if v.k = 4 then v.s else ByteArray.empty) .no (if v.k = 6 then v.ns else []) .no (if v.k = 5 \/ v.k = 6 then v.xs.map Val.nf else []) := by
 cases v
 simp only [Val.nf,Val.nfAll_map,Val.k,Val.n,Val.f,Val.s,Val.ns,Val.xs]
 rfl
theorem fkey_nat {a b : Nat} : (fkey a + 9223372036854775808).toNat = (fkey b + 9223372036854775808).toNat ↔ fkey a = fkey b := by
 have := fkey_i64 a; have := fkey_i64 b; omega
theorem Val.nf_iff (v u : Val) : v.nf = u.nf ↔ v.k = u.k /\ ((v.k = 1 \/ v.k = 2) -> v.n = u.n) /\ (v.k = 3 -> fkey v.f = fkey u.f) /\ (v.k = 4 -> v.s = u.s) /\ (v.k = 6 -> v.ns = u.ns) /\ ((v.k = 5 \/ v.k = 6) -> v.xs.map Val.nf = u.xs.map Val.nf) := by
 rw [Val.nf_eq v,Val.nf_eq u]; simp only [Val.mk.injEq,true_and,and_true]
 constructor
 ·rintro ⟨hk, hn, hf, hs, hns, hxs⟩
  rw [<- hk] at hn hf hs hns hxs; refine ⟨hk,fun h => by simpa [h] using hn,fun h => ?_,fun h => by simpa [h] using hs,fun h => by simpa [h] using hns,fun h => by simpa [h] using hxs⟩
  rw [if_pos h,if_pos h] at hf; exact fkey_nat.1 hf
 ·rintro ⟨hk, hn, hf, hs, hns, hxs⟩
  rw [<- hk]; refine ⟨rfl,?_,?_,?_,?_,?_⟩
  ·split
   ·rename_i h; exact hn h
   ·rfl
  ·split
   ·rename_i h; rw [hf h]
   ·rfl
  ·split
   ·rename_i h; exact hs h
   ·rfl
  ·split
   ·rename_i h; exact hns h
   ·rfl
  ·split
   ·rename_i h; exact hxs h
   ·rfl
theorem rordAll_zero : ∀ {xs ys : List Val}, (∀ x, x ∈ xs -> ∀ y, (x.rord y = 0 ↔ x.nf = y.nf)) -> (Val.rordAll xs ys = 0 ↔ xs.map Val.nf = ys.map Val.nf)
 | [], [],_ => by simp [Val.rordAll]
 | [],_ :: _,_ => by simp [Val.rordAll]
 | _ :: _, [],_ => by simp [Val.rordAll]
 | x :: xs, y :: ys, h => by
  simp only [Val.rordAll,List.map_cons,List.cons.injEq]
  by_cases h0 : x.rord y = 0
  ·rw [if_neg (by simpa using h0), rordAll_zero (fun z hz => h z (List.mem_cons_of_mem _ hz))]
   simp [(h x (by simp) y).1 h0]
  ·rw [if_pos h0]
   exact ⟨fun h' => absurd h' h0,fun h' => absurd ((h x (by simp) y).2 h'.1) h0⟩
theorem Val.rord_nf (d : Nat) : ∀ (v u : Val), v.sz <= d -> v.Kinds -> (v.rord u = 0 ↔ v.nf = u.nf) := by
 induction d with
 | zero => intro v u hd; rw [Val.sz_eq] at hd; omega
 | succ d ih =>
  intro v u hd hk; have hk2 := (Val.kinds_iff v).1 hk; have hi : ∀ x,x ∈ v.xs -> ∀ y, (x.rord y = 0 ↔ x.nf = y.nf) := fun x hx y => ih x y (by have := Val.size_mem hx; omega) (hk2.2 x hx)
  have hall := rordAll_zero (ys := u.xs) hi; rw [Val.nf_iff,Val.rord_eq]
  by_cases h0 : v.k = u.k
  ·rw [if_neg (by simpa using h0)]
   obtain ⟨hk1,hk6⟩ := hk2.1
   rcases (by omega : v.k = 1 \/ v.k = 2 \/ v.k = 3 \/ v.k = 4 \/ v.k = 5 \/ v.k = 6) with h | h | h | h | h | h
   ·simp [h, <- h0,sgnI_zero]
   ·simp [h, <- h0,sgnI_zero]
   ·simp [h, <- h0,ford_zero_key]
   ·simp [h, <- h0,scmp_zero]
   ·have hr : v.rhead u = 0 := by simp [Val.rhead, Val.rh1, h]
    rw [if_neg (by omega),if_neg (by omega),if_neg (by omega),hr,if_neg (by simp),hall]
    simp [h, <- h0]
   ·have hr : v.rhead u = ncmp v.ns u.ns := by simp [Val.rhead, Val.rh1, h]
    rw [if_neg (by omega),if_neg (by omega),if_neg (by omega),hr]
    by_cases hn : ncmp v.ns u.ns = 0
    ·rw [if_neg (by simp [hn]), hall]
     simp [h, <- h0,ncmp_zero.1 hn]
    ·rw [if_pos hn]
     have hne : v.ns ≠ u.ns := fun e => hn (ncmp_zero.2 e)
     simp [h, <- h0,hn,hne]
  ·rw [if_pos h0]
   exact ⟨fun h => absurd (sgnI_zero.1 h) h0,fun h => absurd h.1 h0⟩
theorem Val.rord_erase (d : Nat) : ∀ (v u : Val), v.sz <= d -> v.erase = u.erase -> v.rord u = 0 := by
 induction d with
 | zero => intro v u hd; rw [Val.sz_eq] at hd; omega
 | succ d ih =>
  intro v u hd he; rw [Val.erase_eq,Val.erase_eq u] at he; injection he with e1 e2 e3 e4 _ e5 _ e6; rw [Val.rord_eq,e1,e2,e3,e4]
  have hall : ∀ (xs ys : List Val), (∀ x, x ∈ xs -> x ∈ v.xs) -> xs.map Val.erase = ys.map Val.erase -> Val.rordAll xs ys = 0 := fun xs => by
   induction xs with
   | nil => intro ys _ h; cases ys with
    | nil => rfl
    | cons y ys => simp at h
   | cons x xs ihx =>
    intro ys hm h
    cases ys with
    | nil => simp at h
    | cons y ys =>
     simp only [List.map_cons,List.cons.injEq] at h; simp only [Val.rordAll]; have hx := hm x (by simp)
     rw [ih x y (by have := Val.size_mem hx; omega) h.1,if_neg (by simp)]
     exact ihx ys (fun z hz => hm z (List.mem_cons_of_mem _ hz)) h.2
  have hr : v.rhead u = 0 := by
   have h1 : v.rh1 u = 0 := by
    unfold Val.rh1; rw [e2,e4,sgnI_refl]
    simp [scmp_zero]
   unfold Val.rhead; rw [h1,e5]
   split
   ·exact ncmp_zero.2 rfl
   ·rfl
  rw [if_neg (by simp)]
  split
  ·exact sgnI_refl _
  ·split
   ·exact ford_eq rfl
   ·split
    ·exact scmp_zero.2 rfl
    ·rw [hr, if_neg (by simp)]
     exact hall v.xs u.xs (fun x hx => hx) e6
theorem rightAll_mem : ∀ {xs : List Val} {d : Nat}, Val.rightAll xs d = true -> ∀ x, x ∈ xs -> x.rightB d = true
 | [],_,_,x,hx => by simp at hx
 | y :: xs, d, h, x, hx => by
  simp only [Val.rightAll,Bool.and_eq_true] at h
  rcases List.mem_cons.1 hx with rfl | hx
  ·exact h.1
  ·exact rightAll_mem h.2 x hx
theorem bare_xs {v : Val} {n f s : Bool} (h : bareB v n f s false = true) : v.xs = [] := by
 unfold bareB at h; simp only [Bool.and_eq_true,Bool.false_or,decide_eq_true_eq] at h; exact List.length_eq_zero_iff.1 h.2.2
theorem Val.kinds_of_right (d : Nat) : ∀ (v : Val) (deep : Nat), v.sz <= d -> v.rightB deep = true -> v.Kinds := by
 induction d with
 | zero => intro v deep hd; rw [Val.sz_eq] at hd; omega
 | succ d ih =>
  intro v deep hd h; rw [Val.rightB_eq] at h; rw [Val.kinds_iff]
  by_cases h12 : 12 < deep
  ·rw [if_pos h12] at h; cases h
  rw [if_neg h12] at h; have nil : v.xs = [] -> ∀ x,x ∈ v.xs -> x.Kinds := fun e x hx => by rw [e] at hx; simp at hx
  by_cases h1 : v.k = 1
  ·rw [if_pos h1,Bool.and_eq_true] at h; exact ⟨by omega,nil (bare_xs h.1)⟩
  rw [if_neg h1] at h
  by_cases h2 : v.k = 2
  ·rw [if_pos h2] at h; exact ⟨by omega,nil (bare_xs h)⟩
  rw [if_neg h2] at h
  by_cases h3 : v.k = 3
  ·rw [if_pos h3] at h; exact ⟨by omega,nil (bare_xs h)⟩
  rw [if_neg h3] at h
  by_cases h4 : v.k = 4
  ·rw [if_pos h4,Bool.and_eq_true] at h; exact ⟨by omega,nil (bare_xs h.1)⟩
  rw [if_neg h4] at h
  by_cases h5 : v.k = 5
  ·rw [if_pos h5, Bool.and_eq_true] at h
   exact ⟨by omega,fun x hx => ih x (deep + 1) (by have := Val.size_mem hx; omega) (rightAll_mem h.2 x hx)⟩
  rw [if_neg h5] at h
  by_cases h6 : v.k = 6
  ·rw [if_pos h6, Bool.and_eq_true] at h
   exact ⟨by omega,fun x hx => ih x (deep + 1) (by have := Val.size_mem hx; omega) (rightAll_mem h.2 x hx)⟩
  rw [if_neg h6] at h
  cases h
theorem Val.RightB.kinds {v : Val} (h : v.RightB = true) : v.Kinds := by
 unfold Val.RightB at h; rw [Bool.and_eq_true] at h; exact Val.kinds_of_right v.sz v 1 (Nat.le_refl _) h.2
end Go.Proofs.YtaamihdibpioaaaGreat
namespace Go.Proofs.YtaamihdibpioaaaGreat
open Go.RowKit
mutual
def Ty.rightB : Ty -> Nat -> Bool
 | .mk k na ns xa xs, deep =>
  if 12 < deep then false
  else if k = 5 then decide (ns.length = 0) && decide (xs.length = 1) && Ty.rightAll xs (deep + 1)
  else if k = 6 then decide (ns.length = xs.length) && risingB ns && Ty.rightAll xs (deep + 1)
  else if 1 <= k /\ k <= 7 then decide (ns.length = 0) && decide (xs.length = 0)
  else false
def Ty.rightAll : List Ty -> Nat -> Bool
 | [],_ => true
 | x :: xs,deep => x.rightB deep && Ty.rightAll xs deep
end
theorem Ty.rightB_eq (v : Ty) (deep : Nat) : v.rightB deep =
  if 12 < deep then false
  else if v.k = 5 then decide (v.ns.length = 0) && decide (v.xs.length = 1) && Ty.rightAll v.xs (deep + 1)
  else if v.k = 6 then decide (v.ns.length = v.xs.length) && risingB v.ns && Ty.rightAll v.xs (deep + 1)
  else if 1 <= v.k /\ v.k <= 7 then decide (v.ns.length = 0) && decide (v.xs.length = 0)
  else false := by
 cases v
 simp only [Ty.rightB,Ty.k,Ty.ns,Ty.xs]
 rfl
theorem trightAll_mem {xs : List Ty} {deep : Nat} (h : Ty.rightAll xs deep = true) : ∀ x, x ∈ xs -> x.rightB deep = true := by
 induction xs with
 | nil => intro x hx; simp at hx
 | cons y ys ih =>
  simp only [Ty.rightAll,Bool.and_eq_true] at h; intro x hx
  rcases List.mem_cons.1 hx with rfl | hx
  ·exact h.1
  ·exact ih h.2 x hx
def Ty.RightB (v : Ty) : Bool := decide (v.count 0 <= 200) && v.rightB 1
end Go.Proofs.YtaamihdibpioaaaGreat
namespace Go.Proofs.YtaamihdibpioaaaGreat
open Go.RowKit
end Go.Proofs.YtaamihdibpioaaaGreat
namespace Go.Proofs.YtaamihdibpioaaaGreat
open Go.RowKit
end Go.Proofs.YtaamihdibpioaaaGreat
namespace Go.Proofs.YtaamihdibpioaaaGreat
open Go.RowKit
end Go.Proofs.YtaamihdibpioaaaGreat
namespace Go.Proofs.YtaamihdibpioaaaGreat
open Go.RowKit
def Val.rsame (v u : Val) : Bool := v.rord u == 0
theorem rsamev_any (v u : Val) (w : World) (hv : v.In w) (hu : u.In w) : Calls Tryz.prog 30 #[v.agg, u.agg] w fun e w' => BoolBelow (v.rsame u) w e w' := by
 obtain ⟨W,hW⟩ := gXe ((w.alloc (.cells v.cells.toArray 37)).alloc (.cells u.cells.toArray 37)); have hbW : Below w.heap.size w W := by rw [hW]; exact ((Below.refl _ _).alloc (Nat.le_refl _) _).alloc (by simp) _
 have hc := rord_any v.sz v u W (Nat.le_refl _) (hv.below hbW) (hu.below hbW); obtain ⟨p4,q4,e4⟩ := hv.nslice; obtain ⟨p5,q5,e5⟩ := hv.xslice; obtain ⟨r4,t4,f4⟩ := hu.nslice; obtain ⟨r5,t5,f5⟩ := hu.xslice; unfold Val.rsame; unfold Val.cells at hW; unfold Val.agg at hc ⊢; rw [e4,e5,f4,f5] at hW hc ⊢; obtain ⟨R,hR⟩ := gXe (v.rord u); rw [<- hR] at hc ⊢; have HW := gh hW; have HBW := gh hbW; have HC := gh hc; clear hW hbW hc e4 e5 f4 f5 hR hv hu
 go_enter Tryz.func30,Tryz.ntmps30
 go_wp2_with fail
 rw [<- HW.o]; refine HC.o.mono ?_; rintro e w1 ⟨rfl,hb1⟩; have HB1 := gh (HBW.o.trans (hb1.mono HBW.o.size)); clear hb1
 go_wp2
 go_ret
 exact ⟨rfl,HB1.o⟩
end Go.Proofs.YtaamihdibpioaaaGreat
namespace Go.Proofs.YtaamihdibpioaaaGreat
open Go.RowKit
mutual
def Ty.sameB : Ty -> Ty -> Bool
 | .mk k _ ns _ xs, .mk k' _ ns' _ xs' => decide (k = k') && decide (ns = ns') && Ty.sameAll xs xs'
def Ty.sameAll : List Ty -> List Ty -> Bool
 | [], [] => true
 | [],_ :: _ => false
 | _ :: _, [] => false
 | x :: xs,y :: ys => x.sameB y && Ty.sameAll xs ys
end
end Go.Proofs.YtaamihdibpioaaaGreat
namespace Go.Proofs.YtaamihdibpioaaaGreat
open Go.RowKit
end Go.Proofs.YtaamihdibpioaaaGreat
namespace Go.Proofs.YtaamihdibpioaaaGreat
open Go.RowKit
def wordB (s : ByteArray) : Bool := (s.toList == [116, 114, 117, 101]) || (s.toList == [102, 97, 108, 115, 101]) || (s.toList == [110, 97, 110]) || (s.toList == [105, 110, 102]) || (s.toList == [108, 101, 110]) || (s.toList == [102, 108, 111, 97, 116]) || (s.toList == [105, 110, 116]) || (s.toList == [115, 116, 114])
def fieldB (s : ByteArray) : Bool := nameB s && !(s.toList == [110, 97, 110]) && !(s.toList == [105, 110, 102])
def wantsP (k : Int) : Int := if k = 1 \/ k = 2 then 0 else if k = 3 \/ k = 4 \/ k = 18 \/ (20 <= k /\ k <= 23) then 1 else if (5 <= k /\ k <= 14) \/ k = 19 then 2 else if k = 15 then 3 else if k = 16 \/ k = 17 then -1 else -2
def Val.noneB (v : Val) : Bool := decide (v.k = 0) && decide (v.n = 0) && decide (v.f = 0) && decide (v.s.toList = []) && decide (v.ns.length = 0) && decide (v.xs.length = 0)
theorem rword_any (s : ByteArray) (w : World) : Calls Tryz.prog 185 #[.string s] w fun e w' => e = .returned (.bool (wordB s)) /\ w = w' := by
 unfold wordB
 cases h0 : (s.toList == [116, 114, 117, 101]) with
 | true =>
  go_enter Tryz.func185,Tryz.ntmps185
  go_wp2
  go_ret
  exact ⟨by simp,rfl⟩
 | false =>
  cases h1 : (s.toList == [102, 97, 108, 115, 101]) with
  | true =>
   go_enter Tryz.func185,Tryz.ntmps185
   go_wp2
   go_ret
   exact ⟨by simp,rfl⟩
  | false =>
   cases h2 : (s.toList == [110, 97, 110]) with
   | true =>
    go_enter Tryz.func185,Tryz.ntmps185
    go_wp2
    go_ret
    exact ⟨by simp,rfl⟩
   | false =>
    cases h3 : (s.toList == [105, 110, 102]) with
    | true =>
     go_enter Tryz.func185,Tryz.ntmps185
     go_wp2
     go_ret
     exact ⟨by simp,rfl⟩
    | false =>
     cases h4 : (s.toList == [108, 101, 110]) with
     | true =>
      go_enter Tryz.func185,Tryz.ntmps185
      go_wp2
      go_ret
      exact ⟨by simp,rfl⟩
     | false =>
      cases h5 : (s.toList == [102, 108, 111, 97, 116]) with
      | true =>
       go_enter Tryz.func185,Tryz.ntmps185
       go_wp2
       go_ret
       exact ⟨by simp,rfl⟩
      | false =>
       cases h6 : (s.toList == [105, 110, 116]) with
       | true =>
        go_enter Tryz.func185,Tryz.ntmps185
        go_wp2
        go_ret
        exact ⟨by simp,rfl⟩
       | false =>
        cases h7 : (s.toList == [115, 116, 114]) with
        | true =>
         go_enter Tryz.func185,Tryz.ntmps185
         go_wp2
         go_ret
         exact ⟨by simp,rfl⟩
        | false =>
         go_enter Tryz.func185,Tryz.ntmps185
         go_wp2
         go_ret
         exact ⟨by simp,rfl⟩
theorem word_any (s : ByteArray) (w : World) : Calls Tryz.prog 170 #[.string s] w fun e w' => e = .returned (.bool (wordB s)) /\ w = w' := by
 unfold wordB
 cases h0 : (s.toList == [116, 114, 117, 101]) with
 | true =>
  go_enter Tryz.func170,Tryz.ntmps170
  go_wp2
  go_ret
  exact ⟨by simp,rfl⟩
 | false =>
  cases h1 : (s.toList == [102, 97, 108, 115, 101]) with
  | true =>
   go_enter Tryz.func170,Tryz.ntmps170
   go_wp2
   go_ret
   exact ⟨by simp,rfl⟩
  | false =>
   cases h2 : (s.toList == [110, 97, 110]) with
   | true =>
    go_enter Tryz.func170,Tryz.ntmps170
    go_wp2
    go_ret
    exact ⟨by simp,rfl⟩
   | false =>
    cases h3 : (s.toList == [105, 110, 102]) with
    | true =>
     go_enter Tryz.func170,Tryz.ntmps170
     go_wp2
     go_ret
     exact ⟨by simp,rfl⟩
    | false =>
     cases h4 : (s.toList == [108, 101, 110]) with
     | true =>
      go_enter Tryz.func170,Tryz.ntmps170
      go_wp2
      go_ret
      exact ⟨by simp,rfl⟩
     | false =>
      cases h5 : (s.toList == [102, 108, 111, 97, 116]) with
      | true =>
       go_enter Tryz.func170,Tryz.ntmps170
       go_wp2
       go_ret
       exact ⟨by simp,rfl⟩
      | false =>
       cases h6 : (s.toList == [105, 110, 116]) with
       | true =>
        go_enter Tryz.func170,Tryz.ntmps170
        go_wp2
        go_ret
        exact ⟨by simp,rfl⟩
       | false =>
        cases h7 : (s.toList == [115, 116, 114]) with
        | true =>
         go_enter Tryz.func170,Tryz.ntmps170
         go_wp2
         go_ret
         exact ⟨by simp,rfl⟩
        | false =>
         go_enter Tryz.func170,Tryz.ntmps170
         go_wp2
         go_ret
         exact ⟨by simp,rfl⟩
theorem field_any (s : ByteArray) (w : World) (hs : strok s) : Calls Tryz.prog 171 #[.string s] w fun e w' => BoolBelow (fieldB s) w e w' := by
 have hn := name_any s w hs; unfold fieldB
 cases h0 : nameB s with
 | false =>
  rw [h0] at hn; have HN := gh hn; clear hn h0
  go_enter Tryz.func171,Tryz.ntmps171
  go_wp2_with fail
  refine HN.o.mono ?_; rintro e w' ⟨rfl,hb⟩
  go_wp2
  go_ret
  exact ⟨rfl,hb⟩
 | true =>
  rw [h0] at hn; have HN := gh hn; clear hn h0
  cases h1 : (s.toList == [110, 97, 110]) <;> cases h2 : (s.toList == [105, 110, 102])
  all_goals
   have h1' := h1; have h2' := h2
   simp at h1' h2'
   go_enter Tryz.func171,Tryz.ntmps171
   go_wp2_with fail
   refine HN.o.mono ?_; rintro e w' ⟨rfl,hb⟩
   go_wp2
   go_ret
   exact ⟨by simp,hb⟩
theorem wants_any (k : Int) (w : World) : Calls Tryz.prog 181 #[.int .i64 k] w fun e w' => e = .returned (.int .i64 (wantsP k)) /\ w = w' := by
 by_cases hk : 1 <= k /\ k <= 23
 ·have : k = 1 \/ k = 2 \/ k = 3 \/ k = 4 \/ k = 5 \/ k = 6 \/ k = 7 \/ k = 8 \/ k = 9 \/ k = 10 \/ k = 11 \/ k = 12 \/ k = 13 \/ k = 14 \/ k = 15 \/ k = 16 \/ k = 17 \/ k = 18 \/ k = 19 \/ k = 20 \/ k = 21 \/ k = 22 \/ k = 23 := by omega
  rcases this with rfl | rfl | rfl | rfl | rfl | rfl | rfl | rfl | rfl | rfl | rfl | rfl | rfl | rfl | rfl | rfl | rfl | rfl | rfl | rfl | rfl | rfl | rfl
  all_goals
   clear hk
   go_enter Tryz.func181,Tryz.ntmps181
   go_wp2
   go_ret
   exact ⟨rfl,rfl⟩
 ·have he : wantsP k = -2 := by
   unfold wantsP; rw [if_neg (by omega),if_neg (by omega),if_neg (by omega),if_neg (by omega),if_neg (by omega)]
  rw [he]; clear he; have j1 : (k == 1) = false := by simp; omega
  have j2 : (k == 2) = false := by simp; omega
  have j3 : (k == 3) = false := by simp; omega
  have j4 : (k == 4) = false := by simp; omega
  have j15 : (k == 15) = false := by simp; omega
  have j16 : (k == 16) = false := by simp; omega
  have j17 : (k == 17) = false := by simp; omega
  have j18 : (k == 18) = false := by simp; omega
  have j19 : (k == 19) = false := by simp; omega
  by_cases h1 : k < 1
  ·have i1 : decide ((20 : Int) <= k) = false := by simp; omega
   have i2 : decide ((5 : Int) <= k) = false := by simp; omega
   clear hk h1
   go_enter Tryz.func181,Tryz.ntmps181
   go_wp2
   go_ret
   exact ⟨rfl,rfl⟩
  ·have i1 : decide ((20 : Int) <= k) = true := by simp; omega
   have i2 : decide ((5 : Int) <= k) = true := by simp; omega
   have i3 : decide (k <= 23) = false := by simp; omega
   have i4 : decide (k <= 14) = false := by simp; omega
   clear hk h1
   go_enter Tryz.func181,Tryz.ntmps181
   go_wp2
   go_ret
   exact ⟨rfl,rfl⟩
theorem kids_any (k : Int) (w : World) : Calls Tryz.prog 140 #[.int .i64 k] w fun e w' => e = .returned (.int .i64 (wantsP k)) /\ w = w' := by
 by_cases hk : 1 <= k /\ k <= 23
 ·have : k = 1 \/ k = 2 \/ k = 3 \/ k = 4 \/ k = 5 \/ k = 6 \/ k = 7 \/ k = 8 \/ k = 9 \/ k = 10 \/ k = 11 \/ k = 12 \/ k = 13 \/ k = 14 \/ k = 15 \/ k = 16 \/ k = 17 \/ k = 18 \/ k = 19 \/ k = 20 \/ k = 21 \/ k = 22 \/ k = 23 := by omega
  rcases this with rfl | rfl | rfl | rfl | rfl | rfl | rfl | rfl | rfl | rfl | rfl | rfl | rfl | rfl | rfl | rfl | rfl | rfl | rfl | rfl | rfl | rfl | rfl
  all_goals
   clear hk
   go_enter Tryz.func140,Tryz.ntmps140
   go_wp2
   go_ret
   exact ⟨rfl,rfl⟩
 ·have he : wantsP k = -2 := by
   unfold wantsP; rw [if_neg (by omega),if_neg (by omega),if_neg (by omega),if_neg (by omega),if_neg (by omega)]
  rw [he]; clear he; have j1 : (k == 1) = false := by simp; omega
  have j2 : (k == 2) = false := by simp; omega
  have j3 : (k == 3) = false := by simp; omega
  have j4 : (k == 4) = false := by simp; omega
  have j15 : (k == 15) = false := by simp; omega
  have j16 : (k == 16) = false := by simp; omega
  have j17 : (k == 17) = false := by simp; omega
  have j18 : (k == 18) = false := by simp; omega
  have j19 : (k == 19) = false := by simp; omega
  by_cases h1 : k < 1
  ·have i1 : decide ((20 : Int) <= k) = false := by simp; omega
   have i2 : decide ((5 : Int) <= k) = false := by simp; omega
   clear hk h1
   go_enter Tryz.func140,Tryz.ntmps140
   go_wp2
   go_ret
   exact ⟨rfl,rfl⟩
  ·have i1 : decide ((20 : Int) <= k) = true := by simp; omega
   have i2 : decide ((5 : Int) <= k) = true := by simp; omega
   have i3 : decide (k <= 23) = false := by simp; omega
   have i4 : decide (k <= 14) = false := by simp; omega
   clear hk h1
   go_enter Tryz.func140,Tryz.ntmps140
   go_wp2
   go_ret
   exact ⟨rfl,rfl⟩
theorem ford_none' {f : Nat} (hf : f < 18446744073709551616) : (ford f 0 == 0) = decide (f = 0) := by
 have h := ford_zero (a := f) (b := 0) hf (by omega)
 have h0 : fcan 0 = 0 := by decide
 rw [h0] at h
 by_cases hz : f = 0
 ·subst hz; decide
 ·have : ¬ ford f 0 = 0 := fun e => by
   have := h.1 e; unfold fcan at this
   split at this <;> omega
  rw [decide_eq_false hz]
  simpa using this
theorem fsame_zero {f : Nat} (hf : f < 18446744073709551616) : fsame f 0 = decide (f = 0) := by
 have h0 : fcan 0 = 0 := by decide
 unfold fsame; rw [h0]
 by_cases hz : f = 0
 ·subst hz; decide
 ·have hc : fcan f ≠ 0 := by unfold fcan; split <;> omega
  rw [decide_eq_false hz]
  simpa using hc
theorem rnone_any (v : Val) (w : World) (h : v.In w) : Calls Tryz.prog 183 #[v.agg] w fun e w' => BoolBelow v.noneB w e w' := by
 obtain ⟨W,hW⟩ := gXe (w.alloc (.cells v.cells.toArray 37)); have hBW : Below w.heap.size w W := by rw [hW]; exact (Below.refl _ w).alloc (Nat.le_refl _) _
 have hb0 : Blk W w.heap.size 37 v.cells.toArray := by rw [hW]; exact Blk.new w 37 _
 obtain ⟨p4,q4,e4⟩ := h.nslice; obtain ⟨p5,q5,e5⟩ := h.xslice; have hf := h.ok.2.2.1; unfold Val.cells at hW hb0; rw [e4,e5] at hW hb0; unfold Val.agg; rw [e4,e5]; have c0 := hb0.cell 0; have c1 := hb0.cell 1; have c2 := hb0.cell 2; have c3 := hb0.cell 3; have c4 := hb0.cell 4; have c5 := hb0.cell 5; simp only [gX0,gX1,gX2] at c0 c1 c2 c3 c4 c5; have hfz := fsame_zero hf; obtain ⟨k,hk⟩ := gXe (v.k); obtain ⟨n,hn⟩ := gXe (v.n); obtain ⟨f,hf'⟩ : ∃ f,f = v.f := ⟨_,rfl⟩; obtain ⟨s,hs⟩ := gXe (v.s); obtain ⟨L,hL⟩ := gXe (v.ns.length); obtain ⟨M,hM⟩ := gXe (v.xs.length); have hE : v.noneB = (decide (k = 0) && decide (n = 0) && decide (f = 0) && decide (s.toList = []) && decide (L = 0) && decide (M = 0)) := by rw [hk,hn,hf',hs,hL,hM]; rfl
 obtain ⟨R,hR⟩ := gXe (v.noneB); rw [<- hR] at hE ⊢; rw [<- hk] at c0 hW ⊢; rw [<- hn] at c1 hW ⊢; rw [<- hf'] at c2 hfz hW ⊢; rw [<- hs] at c3 hW ⊢; rw [<- hL] at c4 hW ⊢; rw [<- hM] at c5 hW ⊢; have HE := gh hE; have HW := gh hW; have HBW := gh hBW; have hs0 := (fun W : World => rsame_any f 0 W )
 obtain ⟨r,hr⟩ := gXe (fsame f 0); rw [<- hr] at hs0 hfz; have HS := gh hs0; clear hs0 hr; clear hE hR hk hn hs hL hM e4 e5 h hW hBW hb0; clear hf hf'
 by_cases zk : k = 0
 case neg =>
  have HR : Hid (R = false) := gh (by rw [HE.o,decide_eq_false zk]; simp)
  have jk : (k == 0) = false := by simpa using zk
  clear zk; clear hfz
  go_enter Tryz.func183,Tryz.ntmps183
  go_wp2_with fail
  rw [<- HW.o]
  go_wp2
  go_ret
  exact ⟨by rw [HR.o]; rfl,HBW.o⟩
 subst zk
 by_cases zn : n = 0
 case neg =>
  have HR : Hid (R = false) := gh (by rw [HE.o,decide_eq_false zn]; simp)
  have jn : (n == 0) = false := by simpa using zn
  clear zn; clear hfz
  go_enter Tryz.func183,Tryz.ntmps183
  go_wp2_with fail
  rw [<- HW.o]
  go_wp2_with fail
  go_wp2
  go_ret
  exact ⟨by rw [HR.o]; rfl,HBW.o⟩
 subst zn
 by_cases zf : f = 0
 case neg =>
  have HR : Hid (R = false) := gh (by rw [HE.o,decide_eq_false zf]; simp)
  rw [decide_eq_false zf] at hfz; subst hfz; clear zf
  go_enter Tryz.func183,Tryz.ntmps183
  go_wp2_with fail
  rw [<- HW.o]
  go_wp2_with fail
  refine (HS.o _).mono ?_; rintro e w1 ⟨rfl,rfl⟩
  go_wp2
  go_ret
  exact ⟨by rw [HR.o]; rfl,HBW.o⟩
 rw [decide_eq_true zf] at hfz; subst zf; subst hfz
 by_cases zs : s.toList = []
 case neg =>
  have HR : Hid (R = false) := gh (by rw [HE.o,decide_eq_false zs]; simp)
  have js : (s.toList == []) = false := by simpa using zs
  clear zs
  go_enter Tryz.func183,Tryz.ntmps183
  go_wp2_with fail
  rw [<- HW.o]
  go_wp2_with fail
  refine (HS.o _).mono ?_; rintro e w1 ⟨rfl,rfl⟩
  go_wp2
  go_ret
  exact ⟨by rw [HR.o]; rfl,HBW.o⟩
 have js : (s.toList == []) = true := by simpa using zs
 by_cases zL : L = 0
 case neg =>
  have HR : Hid (R = false) := gh (by rw [HE.o,decide_eq_false zL]; simp)
  have jL : ((L : Int) == 0) = false := by simp; omega
  clear zL
  go_enter Tryz.func183,Tryz.ntmps183
  go_wp2_with fail
  rw [<- HW.o]
  go_wp2_with fail
  refine (HS.o _).mono ?_; rintro e w1 ⟨rfl,rfl⟩
  go_wp2
  go_ret
  exact ⟨by rw [HR.o]; rfl,HBW.o⟩
 subst zL
 by_cases zM : M = 0
 case neg =>
  have HR : Hid (R = false) := gh (by rw [HE.o,decide_eq_false zM]; simp)
  have jM : ((M : Int) == 0) = false := by simp; omega
  clear zM
  go_enter Tryz.func183,Tryz.ntmps183
  go_wp2_with fail
  rw [<- HW.o]
  go_wp2_with fail
  refine (HS.o _).mono ?_; rintro e w1 ⟨rfl,rfl⟩
  go_wp2
  go_ret
  exact ⟨by rw [HR.o]; rfl,HBW.o⟩
 subst zM; have HR : Hid (R = true) := gh (by rw [HE.o,decide_eq_true zs]; rfl)
 clear zs
 go_enter Tryz.func183,Tryz.ntmps183
 go_wp2_with fail
 rw [<- HW.o]
 go_wp2_with fail
 refine (HS.o _).mono ?_; rintro e w1 ⟨rfl,rfl⟩
 go_wp2
 go_ret
 exact ⟨by rw [HR.o]; rfl,HBW.o⟩
theorem nothing_any (v : Val) (b o : Nat) (w : World) (h : PVal w b o v) : Calls Tryz.prog 143 #[.pointer (some ⟨b, o, none⟩)] w fun e w' => e = .returned (.bool v.noneB) /\ w = w' := by
 obtain ⟨p4,q4,e4⟩ := h.in.nslice; obtain ⟨p5,q5,e5⟩ := h.in.xslice; have hf := h.in.ok.2.2.1; have c0 := h.c0; have c1 := h.c1; have c2 := h.c2; have c3 := h.c3; have c4 := h.c4; have c5 := h.c5; rw [e4] at c4; rw [e5] at c5; have hfz := ford_none' hf; obtain ⟨k,hk⟩ := gXe (v.k); obtain ⟨n,hn⟩ := gXe (v.n); obtain ⟨f,hf'⟩ : ∃ f,f = v.f := ⟨_,rfl⟩; obtain ⟨s,hs⟩ := gXe (v.s); obtain ⟨L,hL⟩ := gXe (v.ns.length); obtain ⟨M,hM⟩ := gXe (v.xs.length); have hE : v.noneB = (decide (k = 0) && decide (n = 0) && decide (f = 0) && decide (s.toList = []) && decide (L = 0) && decide (M = 0)) := by rw [hk,hn,hf',hs,hL,hM]; rfl
 obtain ⟨R,hR⟩ := gXe (v.noneB); rw [<- hR] at hE ⊢; rw [<- hk] at c0; rw [<- hn] at c1; rw [<- hf'] at c2 hfz; rw [<- hs] at c3; rw [<- hL] at c4; rw [<- hM] at c5; have HE := gh hE; have hs0 := (fun W : World => forder_any f 0 W (by rw [hf']; exact hf) (by omega))
 obtain ⟨r,hr⟩ := gXe (ford f 0); rw [<- hr] at hs0 hfz; have HS := gh hs0; clear hs0 hr; clear hE hR hk hn hs hL hM e4 e5 h; clear hf hf'
 by_cases zk : k = 0
 case neg =>
  have HR : Hid (R = false) := gh (by rw [HE.o,decide_eq_false zk]; simp)
  have jk : (k == 0) = false := by simpa using zk
  clear zk; clear hfz
  go_enter Tryz.func143,Tryz.ntmps143
  go_wp2_with fail
  go_wp2
  go_ret
  exact ⟨by rw [HR.o]; rfl,rfl⟩
 subst zk
 by_cases zn : n = 0
 case neg =>
  have HR : Hid (R = false) := gh (by rw [HE.o,decide_eq_false zn]; simp)
  have jn : (n == 0) = false := by simpa using zn
  clear zn; clear hfz
  go_enter Tryz.func143,Tryz.ntmps143
  go_wp2_with fail
  go_wp2
  go_ret
  exact ⟨by rw [HR.o]; rfl,rfl⟩
 subst zn
 by_cases zf : f = 0
 case neg =>
  have HR : Hid (R = false) := gh (by rw [HE.o,decide_eq_false zf]; simp)
  rw [decide_eq_false zf] at hfz; clear zf
  go_enter Tryz.func143,Tryz.ntmps143
  go_wp2_with fail
  refine (HS.o _).mono ?_; rintro e w1 ⟨rfl,rfl⟩
  go_wp2
  go_ret
  exact ⟨by rw [HR.o]; rfl,rfl⟩
 rw [decide_eq_true zf] at hfz; subst zf
 by_cases zs : s.toList = []
 case neg =>
  have HR : Hid (R = false) := gh (by rw [HE.o,decide_eq_false zs]; simp)
  have js : (s.toList == []) = false := by simpa using zs
  clear zs
  go_enter Tryz.func143,Tryz.ntmps143
  go_wp2_with fail
  refine (HS.o _).mono ?_; rintro e w1 ⟨rfl,rfl⟩
  go_wp2
  go_ret
  exact ⟨by rw [HR.o]; rfl,rfl⟩
 have js : (s.toList == []) = true := by simpa using zs
 by_cases zL : L = 0
 case neg =>
  have HR : Hid (R = false) := gh (by rw [HE.o,decide_eq_false zL]; simp)
  have jL : ((L : Int) == 0) = false := by simp; omega
  clear zL
  go_enter Tryz.func143,Tryz.ntmps143
  go_wp2_with fail
  refine (HS.o _).mono ?_; rintro e w1 ⟨rfl,rfl⟩
  go_wp2
  go_ret
  exact ⟨by rw [HR.o]; rfl,rfl⟩
 subst zL
 by_cases zM : M = 0
 case neg =>
  have HR : Hid (R = false) := gh (by rw [HE.o,decide_eq_false zM]; simp)
  have jM : ((M : Int) == 0) = false := by simp; omega
  clear zM
  go_enter Tryz.func143,Tryz.ntmps143
  go_wp2_with fail
  refine (HS.o _).mono ?_; rintro e w1 ⟨rfl,rfl⟩
  go_wp2
  go_ret
  exact ⟨by rw [HR.o]; rfl,rfl⟩
 subst zM; have HR : Hid (R = true) := gh (by rw [HE.o,decide_eq_true zs]; rfl)
 clear zs
 go_enter Tryz.func143,Tryz.ntmps143
 go_wp2_with fail
 refine (HS.o _).mono ?_; rintro e w1 ⟨rfl,rfl⟩
 go_wp2
 go_ret
 exact ⟨by rw [HR.o]; rfl,rfl⟩
end Go.Proofs.YtaamihdibpioaaaGreat
namespace Go.Proofs.YtaamihdibpioaaaGreat
open Go.RowKit
def or3 (x y z : Int) : Int := if x ≠ 0 then x else if y ≠ 0 then y else z
theorem ret_i {k : IntKind} {a b : Int} (h : a = b) : Ending.returned (.int k a) = .returned (.int k b) := by rw [h]
theorem or3_any (b : Nat) (x y z : Int) (w : World) (h : Blk w b 3 #[.int .i64 x, .int .i64 y, .int .i64 z]) :
  Calls Tryz.prog 169 #[.slice (some ⟨b, 0,none⟩) 3 3] w fun e w' => e = .returned (.int .i64 (or3 x y z)) /\ w = w' := by
 have h0 := h.cell 0; have h1 := h.cell 1; have h2 := h.cell 2
 simp at h0 h1 h2
 clear h; obtain ⟨r,hr⟩ := gXe (or3 x y z); rw [<- hr]; have HR := gh hr; clear hr
 go_enter Tryz.func169,Tryz.ntmps169
 go_wp2
 go_loop [8] (fun iv => ∃ k : Nat,k <= 3 /\ iv = .int .i64 k /\ Hid ((1 <= k -> x = 0) /\ (2 <= k -> y = 0) /\ (3 <= k -> z = 0))) (fun iv => 3 - (intOf iv).toNat)
 case atStart => exact ⟨0,by omega,rfl,gh ⟨fun h => absurd h (by omega),fun h => absurd h (by omega),fun h => absurd h (by omega)⟩⟩
 case round =>
  obtain ⟨k,hk,rfl,HP⟩ := hrel
  rcases (by omega : k = 0 \/ k = 1 \/ k = 2 \/ k = 3) with rfl | rfl | rfl | rfl
  ·by_cases hz : x = 0
   ·have HZ := gh hz
    have i2 : (x != 0) = false := by simpa using hz
    clear hz
    go_wp2
    go_round
    case rel => exact ⟨1,by omega,rfl,gh ⟨fun _ => HZ.o,fun h => absurd h (by omega),fun h => absurd h (by omega)⟩⟩
    case measure => simp [intOf]
   ·have HZ := gh hz
    have i2 : (x != 0) = true := by simpa using hz
    clear hz
    go_wp2
    go_ret
    exact ⟨ret_i (by rw [HR.o]; unfold or3; rw [if_pos HZ.o]),rfl⟩
  ·have HX := gh (HP.o.1 (by omega))
   by_cases hz : y = 0
   ·have HZ := gh hz
    have i2 : (y != 0) = false := by simpa using hz
    clear hz
    go_wp2
    go_round
    case rel => exact ⟨2,by omega,rfl,gh ⟨fun _ => HX.o,fun _ => HZ.o,fun h => absurd h (by omega)⟩⟩
    case measure => simp [intOf]
   ·have HZ := gh hz
    have i2 : (y != 0) = true := by simpa using hz
    clear hz
    go_wp2
    go_ret
    exact ⟨ret_i (by rw [HR.o]; unfold or3; rw [if_neg (by simp [HX.o]),if_pos HZ.o]),rfl⟩
  ·have HX := gh (HP.o.1 (by omega))
   have HY := gh (HP.o.2.1 (by omega))
   by_cases hz : z = 0
   ·have HZ := gh hz
    have i2 : (z != 0) = false := by simpa using hz
    clear hz
    go_wp2
    go_round
    case rel => exact ⟨3,by omega,rfl,gh ⟨fun _ => HX.o,fun _ => HY.o,fun _ => HZ.o⟩⟩
    case measure => simp [intOf]
   ·have HZ := gh hz
    have i2 : (z != 0) = true := by simpa using hz
    clear hz
    go_wp2
    go_ret
    exact ⟨ret_i (by rw [HR.o]; unfold or3; rw [if_neg (by simp [HX.o]),if_neg (by simp [HY.o])]),rfl⟩
  ·go_wp2
   go_ret
   exact ⟨ret_i (by rw [HR.o]; unfold or3; rw [if_neg (by simp [HP.o.1 (by omega)]),if_neg (by simp [HP.o.2.1 (by omega)]),HP.o.2.2 (by omega)]),rfl⟩
def Val.row0 (v u : Val) : Int := or3 (sgnI v.n u.n) (Lib.compareBytes v.s.data.toList u.s.data.toList) (ncmp v.ns u.ns)
theorem six_all {W : World} {b o b' o' : Nat} {x0 x1 x2 y0 y1 y2 : Value} (h : W.cell? ⟨b, o + 1, none⟩ = some x0 /\ W.cell? ⟨b, o + 3, none⟩ = some x1 /\ W.cell? ⟨b, o + 4, none⟩ = some x2 /\ W.cell? ⟨b', o' + 1, none⟩ = some y0 /\ W.cell? ⟨b', o' + 3, none⟩ = some y1 /\ W.cell? ⟨b', o' + 4, none⟩ = some y2) (h1 : b < W.heap.size) (h2 : b' < W.heap.size) (x : Obj) :
  (W.alloc x).cell? ⟨b,o + 1,none⟩ = some x0 /\ (W.alloc x).cell? ⟨b,o + 3,none⟩ = some x1 /\ (W.alloc x).cell? ⟨b,o + 4,none⟩ = some x2 /\ (W.alloc x).cell? ⟨b',o' + 1,none⟩ = some y0 /\ (W.alloc x).cell? ⟨b',o' + 3,none⟩ = some y1 /\ (W.alloc x).cell? ⟨b',o' + 4,none⟩ = some y2 := by
 obtain ⟨g0,g1,g2,g3,g4,g5⟩ := h; refine ⟨?_,?_,?_,?_,?_,?_⟩
 ·rw [World.cell?_alloc_lt W x _ h1]; exact g0
 ·rw [World.cell?_alloc_lt W x _ h1]; exact g1
 ·rw [World.cell?_alloc_lt W x _ h1]; exact g2
 ·rw [World.cell?_alloc_lt W x _ h2]; exact g3
 ·rw [World.cell?_alloc_lt W x _ h2]; exact g4
 ·rw [World.cell?_alloc_lt W x _ h2]; exact g5
theorem row0_any (v u : Val) (b o b' o' : Nat) (w : World) (hv : PVal w b o v) (hu : PVal w b' o' u) (hk : v.k = 0) :
  Calls Tryz.prog 136 #[.pointer (some ⟨b,o,none⟩), .pointer (some ⟨b',o',none⟩)] w fun e w' => IntBelow (v.row0 u) w e w' := by
 have c0 := hv.c0; have c1 := hv.c1; have c3 := hv.c3; have c4 := hv.c4; have d1 := hu.c1; have d3 := hu.c3; have d4 := hu.c4; rw [hk] at c0; obtain ⟨p,q,e4⟩ := hv.in.nslice; obtain ⟨p',q',f4⟩ := hu.in.nslice; have hna := fun n => NamesAt.of (hv.in.drewN n)
 have hnb := fun n => NamesAt.of (hu.in.drewN n)
 rw [e4] at c4; rw [f4] at d4; simp only [e4] at hna; simp only [f4] at hnb; have hl1 := hv.in.ok.2.2.2.2.1; have hl2 := hu.in.ok.2.2.2.2.1; have hbl := hv.2.1; have hbl' := hu.2.1; obtain ⟨a0,ha0⟩ := gXe (v.n); obtain ⟨a1,ha1⟩ := gXe (u.n); obtain ⟨s0,hs0⟩ := gXe (v.s); obtain ⟨s1,hs1⟩ := gXe (u.s); obtain ⟨m0,hm0⟩ := gXe (v.ns); obtain ⟨m1,hm1⟩ := gXe (u.ns); obtain ⟨r,hr⟩ := gXe (v.row0 u); have hr2 : r = or3 (sgnI a0 a1) (Lib.compareBytes s0.data.toList s1.data.toList) (ncmp m0 m1) := by rw [hr,ha0,ha1,hs0,hs1,hm0,hm1]; rfl
 rw [<- hr]; rw [<- ha0] at c1; rw [<- ha1] at d1; rw [<- hs0] at c3; rw [<- hs1] at d3; rw [<- hm0] at c4 hl1; rw [<- hm1] at d4 hl2; simp only [<- hm0] at hna; simp only [<- hm1] at hnb; have HNA := gh hna; have HNB := gh hnb; have HL1 := gh hl1; have HL2 := gh hl2; have HR := gh hr2; clear hv hu hk e4 f4 hna hnb hl1 hl2 ha0 ha1 hs0 hs1 hm0 hm1 hr hr2; have HS := gh (show w.drew.cell? ⟨b,o + 1,none⟩ = some (.int .i64 a0) /\ w.drew.cell? ⟨b,o + 3,none⟩ = some (.string s0) /\ w.drew.cell? ⟨b,o + 4,none⟩ = some (.slice p m0.length q) /\ w.drew.cell? ⟨b',o' + 1,none⟩ = some (.int .i64 a1) /\ w.drew.cell? ⟨b',o' + 3,none⟩ = some (.string s1) /\ w.drew.cell? ⟨b',o' + 4,none⟩ = some (.slice p' m1.length q') from ⟨c1,c3,c4,d1,d3,d4⟩)
 have HSN := gh (fun n => (show (w.drewN n).cell? ⟨b,o + 1,none⟩ = some (.int .i64 a0) /\ (w.drewN n).cell? ⟨b,o + 3,none⟩ = some (.string s0) /\ (w.drewN n).cell? ⟨b,o + 4,none⟩ = some (.slice p m0.length q) /\ (w.drewN n).cell? ⟨b',o' + 1,none⟩ = some (.int .i64 a1) /\ (w.drewN n).cell? ⟨b',o' + 3,none⟩ = some (.string s1) /\ (w.drewN n).cell? ⟨b',o' + 4,none⟩ = some (.slice p' m1.length q') from ⟨c1,c3,c4,d1,d3,d4⟩))
 have HA := gh (fun (W : World) (x : Obj) (h : W.cell? ⟨b,o + 1,none⟩ = some (.int .i64 a0) /\ W.cell? ⟨b,o + 3,none⟩ = some (.string s0) /\ W.cell? ⟨b,o + 4,none⟩ = some (.slice p m0.length q) /\ W.cell? ⟨b',o' + 1,none⟩ = some (.int .i64 a1) /\ W.cell? ⟨b',o' + 3,none⟩ = some (.string s1) /\ W.cell? ⟨b',o' + 4,none⟩ = some (.slice p' m1.length q')) (h1 : b < W.heap.size) (h2 : b' < W.heap.size) => six_all h h1 h2 x)
 have HAN := gh (fun (n : Nat) (x : Obj) => HA.o (w.drewN n) x (HSN.o n) hbl hbl')
 go_enter Tryz.func136,Tryz.ntmps136
 go_wp2_with fail
 go_region_held3 (fun W => W.cell? ⟨b, o + 1, none⟩ = some (.int .i64 a0) /\ W.cell? ⟨b, o + 3, none⟩ = some (.string s0) /\ W.cell? ⟨b, o + 4, none⟩ = some (.slice p m0.length q) /\ W.cell? ⟨b', o' + 1, none⟩ = some (.int .i64 a1) /\ W.cell? ⟨b', o' + 3, none⟩ = some (.string s1) /\ W.cell? ⟨b', o' + 4, none⟩ = some (.slice p' m1.length q'))
  (first | with_reducible exact HS.o | with_reducible exact HSN.o _ | with_reducible assumption | with_reducible exact HA.o _ _ HS.o hbl hbl' | with_reducible exact HAN.o _ _ | fail)
  (first
   | (go_at_call 165; refine (cmp_int64 _ _ _).mono ?_; rintro e w' ⟨rfl,rfl⟩)
   | (go_at_call 167; refine (strcmp_any _ _ _).mono ?_; rintro e w' ⟨rfl,rfl⟩)
   | (go_at_call 168; refine (ncmp_any _ _ m0 m1 _ (HNA.o _) (HNB.o _) HL1.o HL2.o).mono ?_; rintro e w' ⟨rfl,rfl⟩)
   | (go_at_call 169; refine (or3_any _ _ _ _ _ (Blk.new (w.drewN _) _ _)).mono ?_; rintro e w' ⟨rfl,rfl⟩)
   | fail)
 all_goals
  go_wp2
  go_ret
  exact ⟨ret_i HR.o.symm, ((Below.refl _ _).alloc (Nat.le_refl _) _).drew⟩
def cfun0 (L : Nat) : Int := if L = 0 then 0 else 1
theorem cfun0_any (v : Val) (w : World) (hv : v.In w) :
  Calls Tryz.prog 138 #[v.xa.val v.xs.length, .slice none 0 0, .func (Fn.func 119) #[] #[]] w fun e w' => IntBelow (cfun0 v.xs.length) w e w' := by
 have hsf := run_store_flt; have hl1 := hv.ok.2.2.2.2.2.1; obtain ⟨p,c,e1,A4⟩ := items_at hv; rw [e1]; obtain ⟨L,hL⟩ := gXe (v.xs.length); rw [<- hL] at hl1 ⊢; have HL := gh hL; have HA := gh A4; clear e1 A4 hL hv
 by_cases h0 : L = 0
 ·subst h0
  have HE : Hid (cfun0 0 = 0) := gh rfl; clear HL HA
  go_enter Tryz.func138,Tryz.ntmps138
  go_wp2_with fail
  go_loopw [13] (fun iv wr => iv = .int .i64 0 /\ Hid (Below w.heap.size w wr)) (fun iv _ => 0)
  case atStart => exact ⟨rfl,gh (Below.refl _ _)⟩
  case round =>
   obtain ⟨rfl,HBL⟩ := hrel
   go_wp2
   go_ret
   exact ⟨by rw [HE.o]; rfl,HBL.o⟩
 ·have HE : Hid (cfun0 L = 1) := gh (by unfold cfun0; rw [if_neg h0])
  have hil : 0 < v.xs.length := by rw [<- HL.o]; omega
  obtain ⟨b,o,rfl,hp,hLc⟩ := HA.o 0 hil; rw [<- HL.o] at hLc; obtain ⟨x,hx⟩ := gXe (v.xs[0]'hil); rw [<- hx] at hp; have hL0 : (0 : Int) < (L : Int) := by omega
  go_enter Tryz.func138,Tryz.ntmps138
  go_wp2_with fail
  go_loopw [13] (fun iv wr => iv = .int .i64 0 /\ Hid (Below w.heap.size w wr)) (fun iv _ => 0)
  case atStart => exact ⟨rfl,gh (Below.refl _ _)⟩
  case round =>
   obtain ⟨rfl,HBL⟩ := hrel; have hpr := hp.below HBL.o; have d0 := hpr.c0; have d1 := hpr.c1; have d2 := hpr.c2; have d3 := hpr.c3; have d4 := hpr.c4; have d5 := hpr.c5; obtain ⟨r4,t4,g4⟩ := hpr.in.nslice; obtain ⟨r5,t5,g5⟩ := hpr.in.xslice; rw [g4] at d4; rw [g5] at d5; simp only [Nat.zero_mul,Nat.add_zero] at d0 d1 d2 d3 d4 d5; have HF := gh (HBL.o.trans (((Below.refl wr.heap.size wr).alloc (Nat.le_refl _) (.cells #[.int .i64 x.k, .int .i64 x.n, .float .f64 x.f, .string x.s, .slice r4 x.ns.length t4, .slice r5 x.xs.length t5] 37)).mono HBL.o.size)); clear hpr hp hx g4 g5 HL HA hil h0
   go_wp2
   go_ret
   exact ⟨by rw [HE.o]; rfl,HF.o⟩
def Val.ord0 (v u : Val) : Int := if v.row0 u ≠ 0 then v.row0 u else cfun0 v.xs.length
theorem ord0_any (v : Val) (w : World) (hv : v.In w) (hk : v.k = 0) : Calls Tryz.prog 119 #[v.agg, Val.zero.agg] w fun e w' => IntBelow (v.ord0 Val.zero) w e w' := by
 obtain ⟨W,hW⟩ := gXe ((w.alloc (.cells #[.int .i64 v.k, .int .i64 v.n, .float .f64 v.f, .string v.s,v.na.val v.ns.length,v.xa.val v.xs.length] 37)).alloc (.cells #[.int .i64 0, .int .i64 0, .float .f64 0, .string ByteArray.empty, .slice none 0 0, .slice none 0 0] 37)); have hbW : Below w.heap.size w W := by rw [hW]; exact ((Below.refl _ _).alloc (Nat.le_refl _) _).alloc (by simp) _
 have hz : ∀ W : World, Val.zero.In W := fun W => by
  rw [Val.in_iff]; exact ⟨⟨by unfold i64r; decide,by unfold i64r; decide,by decide,by unfold strok; decide,by decide,by decide,fun s hs => by cases hs⟩,rfl,rfl,fun x hx => by cases hx⟩
 have hpv : PVal W w.heap.size 0 v := by
  rw [hW]; exact (PVal.new w v 37 hv).below ((Below.refl _ _).alloc (Nat.le_refl _) _)
 have hpu : PVal W (w.heap.size + 1) 0 Val.zero := by
  rw [hW]; have := PVal.new (w.alloc (.cells #[.int .i64 v.k, .int .i64 v.n, .float .f64 v.f, .string v.s,v.na.val v.ns.length,v.xa.val v.xs.length] 37)) Val.zero 37 (hz _); rw [show (w.alloc (.cells #[.int .i64 v.k, .int .i64 v.n, .float .f64 v.f, .string v.s,v.na.val v.ns.length,v.xa.val v.xs.length] 37)).heap.size = w.heap.size + 1 from by simp] at this
  exact this
 have hrow := row0_any v Val.zero w.heap.size 0 (w.heap.size + 1) 0 W hpv hpu hk; have hcf := fun (W' : World) (hb : Below W.heap.size W W') => cfun0_any v W' (hpv.in.below hb)
 have hoe : v.ord0 Val.zero = if v.row0 Val.zero ≠ 0 then v.row0 Val.zero else cfun0 v.xs.length := rfl; have c0 := hpv.c0; have c5 := hpv.c5; have d0 := hpu.c0; have d5 := hpu.c5; rw [hk] at c0 hW; simp only [Nat.zero_add] at c5 d5; have hag : v.agg = .agg #[.int .i64 0, .int .i64 v.n, .float .f64 v.f, .string v.s,v.na.val v.ns.length,v.xa.val v.xs.length] := by unfold Val.agg; rw [hk]
 rw [hag]; obtain ⟨p4,q4,e4⟩ := hv.nslice; obtain ⟨p5,q5,e5⟩ := hv.xslice; rw [e4,e5] at hW ⊢; rw [e5] at c5; simp only [e5] at hcf; have d0' : W.cell? ⟨w.heap.size + 1, 0,none⟩ = some (.int .i64 0) := d0; have d5' : W.cell? ⟨w.heap.size + 1, 5,none⟩ = some (.slice none 0 0) := d5; have hzag : Val.zero.agg = .agg #[.int .i64 0, .int .i64 0, .float .f64 0, .string ByteArray.empty, .slice none 0 0, .slice none 0 0] := rfl; rw [hzag]; obtain ⟨r,hr⟩ := gXe (v.row0 Val.zero); obtain ⟨q,hq⟩ := gXe (cfun0 v.xs.length); obtain ⟨O,hO⟩ := gXe (v.ord0 Val.zero); have hcf' := fun (W' : World) (hb : Below W.heap.size W W') => hcf W' hb
 rw [<- hO, <- hr, <- hq] at hoe; rw [<- hO]; rw [<- hr] at hrow; have hcm := fun (W : World) => cmp_int 0 0 W
 have hlf := fun (W : World) => leaf_any 0 W
 have hcf3 : ∀ W' : World, Below W.heap.size W W' -> Calls Tryz.prog 138 #[.slice p5 v.xs.length q5, .slice none 0 0, .func (Fn.func 119) #[] #[]] W' fun e w' => IntBelow q W' e w' := fun W' hb => by
  have := hcf W' hb; rw [hq]; exact this
 have hlt := hpv.2.1; have hlt2 := hpu.2.1; have HOE := gh hoe; have HROW := gh hrow; have HCF := gh hcf3; have HCM := gh hcm; have HLF := gh hlf; have HW := gh hW; have HBW := gh hbW; have C0 := gh c0; have C5 := gh c5; have D5 := gh d5'; have HLT := gh hlt; have HLT2 := gh hlt2; clear hoe hrow hcf hcf' hcf3 hcm hlf hW hbW hr hq hO hpv hpu hv hk hag hzag hz e4 e5 d0 d5 hlt hlt2
 by_cases h1 : r = 0
 ·subst h1
  have HE : Hid (O = q) := gh (by rw [HOE.o,if_neg (by simp)])
  go_enter Tryz.func119,Tryz.ntmps119
  go_wp2_with fail
  rw [<- HW.o]; refine (HCM.o _).mono ?_; rintro e w' ⟨rfl,rfl⟩
  go_wp2_with fail
  refine HROW.o.mono ?_; rintro e w1 ⟨rfl,hb1⟩; have B1 := gh hb1; have c0' : w1.cell? ⟨w.heap.size, 0,none⟩ = some (.int .i64 0) := (hb1.cell (p := ⟨w.heap.size, 0,none⟩) HLT.o).trans C0.o; have c5' : w1.cell? ⟨w.heap.size, 5,none⟩ = some (.slice p5 v.xs.length q5) := (hb1.cell (p := ⟨w.heap.size, 5,none⟩) HLT.o).trans C5.o; have d5'' : w1.cell? ⟨w.heap.size + 1, 5,none⟩ = some (.slice none 0 0) := (hb1.cell (p := ⟨w.heap.size + 1, 5,none⟩) HLT2.o).trans D5.o; clear hb1 c0 c5 d0' d5'
  go_wp2_with fail
  refine (HLF.o _).mono ?_; rintro e w' ⟨rfl,rfl⟩
  go_wp2_with fail
  refine (HCF.o _ B1.o).mono ?_; rintro e w6 ⟨rfl,hb6⟩; have HB6 := gh (HBW.o.trans ((B1.o.trans (hb6.mono B1.o.size)).mono HBW.o.size)); clear hb6
  go_wp2
  go_ret
  exact ⟨by rw [HE.o]; rfl,HB6.o⟩
 ·have HE : Hid (O = r) := gh (by rw [HOE.o, if_pos h1])
  have i1 : (r != 0) = true := by simpa using h1
  have i2 : (r == 0) = false := by simpa using h1
  clear h1 HOE HCF
  go_enter Tryz.func119,Tryz.ntmps119
  go_wp2_with fail
  rw [<- HW.o]; refine (HCM.o _).mono ?_; rintro e w' ⟨rfl,rfl⟩
  go_wp2_with fail
  refine HROW.o.mono ?_; rintro e w1 ⟨rfl,hb1⟩; have HB6 := gh (HBW.o.trans (hb1.mono HBW.o.size)); clear hb1
  go_wp2
  go_ret
  exact ⟨by rw [HE.o]; rfl,HB6.o⟩
def Val.same0 (v : Val) : Bool := v.ord0 Val.zero == 0
theorem same0_none {v : Val} (h : v.noneB = true) : v.same0 = true := by
 unfold Val.noneB at h; simp only [Bool.and_eq_true,decide_eq_true_eq] at h; obtain ⟨⟨⟨⟨⟨h1,h2⟩,h3⟩,h4⟩,h5⟩,h6⟩ := h
 have e : v.s = ByteArray.empty := by
  refine ByteArray.ext (Array.ext' ?_); have h9 : v.s.toList = v.s.data.toList := Lib.toList_data v.s; rw [h9] at h4
  simpa using h4
 unfold Val.same0 Val.ord0 Val.row0; rw [h2,e,List.eq_nil_of_length_eq_zero h5,List.eq_nil_of_length_eq_zero h6]
 decide
theorem same0_any (v : Val) (w : World) (hv : v.In w) (hk : v.k = 0) : Calls Tryz.prog 98 #[v.agg, Val.zero.agg] w fun e w' => BoolBelow v.same0 w e w' := by
 obtain ⟨W,hW⟩ := gXe ((w.alloc (.cells #[.int .i64 v.k, .int .i64 v.n, .float .f64 v.f, .string v.s,v.na.val v.ns.length,v.xa.val v.xs.length] 37)).alloc (.cells #[.int .i64 0, .int .i64 0, .float .f64 0, .string ByteArray.empty, .slice none 0 0, .slice none 0 0] 37)); have hbW : Below w.heap.size w W := by rw [hW]; exact ((Below.refl _ _).alloc (Nat.le_refl _) _).alloc (by simp) _
 have ho := ord0_any v W (hv.below hbW) hk; have hs : v.same0 = (v.ord0 Val.zero == 0) := rfl; obtain ⟨c,hc⟩ := gXe (v.ord0 Val.zero); rw [<- hc] at ho hs; have hzag : Val.zero.agg = .agg #[.int .i64 0, .int .i64 0, .float .f64 0, .string ByteArray.empty, .slice none 0 0, .slice none 0 0] := rfl; rw [hzag] at ho ⊢; have HW := gh hW; have HB := gh hbW; have HO := gh ho; have HS := gh hs; clear hW hbW ho hs hc hv hk hzag; unfold Val.agg at *
 go_enter Tryz.func98,Tryz.ntmps98
 go_wp2_with fail
 rw [<- HW.o]; refine HO.o.mono ?_; rintro e w' ⟨rfl,hl⟩; have HL := gh (HB.o.trans (hl.mono HB.o.size)); clear hl
 go_wp2
 go_ret
 exact ⟨by rw [HS.o]; rfl,HL.o⟩
end Go.Proofs.YtaamihdibpioaaaGreat
namespace Go.Proofs.YtaamihdibpioaaaGreat
open Go.RowKit
end Go.Proofs.YtaamihdibpioaaaGreat
namespace Go.Proofs.YtaamihdibpioaaaGreat
open Go.RowKit
def FldAt (ns : List ByteArray) (i : Nat) : Prop := fieldB (ns.getD i ByteArray.empty) = true /\ (i = 0 \/ Op.bytesLess (ns.getD (i - 1) ByteArray.empty).toList (ns.getD i ByteArray.empty).toList = true)
instance (ns : List ByteArray) (i : Nat) : Decidable (FldAt ns i) := by unfold FldAt; infer_instance
def AreFields (ns : List ByteArray) : Prop := ∀ i,i < ns.length -> FldAt ns i
instance (ns : List ByteArray) : Decidable (AreFields ns) := by unfold AreFields; infer_instance
def fieldsB (ns : List ByteArray) : Bool := decide (AreFields ns)
def namedP (k : Int) (s : ByteArray) (ns : List ByteArray) (L : Nat) : Bool :=
 if k = 2 then !wordB s && (fieldB s && decide (ns.length = 0))
 else if k = 18 then fieldB s && decide (ns.length = 0)
 else if k = 17 then fieldsB ns && (decide (s.toList = []) && decide (ns.length = L))
 else decide (s.toList = []) && decide (ns.length = 0)
theorem named_word (v : Exp) (b o : Nat) (w : World) (h : PExp w b o v) (hk : v.k = 2 \/ v.k = 18) : Calls Tryz.prog 141 #[.pointer (some ⟨b, o, none⟩)] w fun e w' => BoolBelow (namedP v.k v.s v.ns v.xs.length) w e w' := by
 have hfl := fun W => field_any v.s W h.in.ok.2.1
 have hwd := fun W => word_any v.s W
 obtain ⟨p8,q8,e8⟩ := h.in.nslice; have c0 := h.c0; have c1 := h.c1; have c8 := h.c8; rw [e8] at c8; have hlt := h.2.1; have HP := gh h; obtain ⟨k,hkk⟩ := gXe (v.k); obtain ⟨s,hs⟩ := gXe (v.s); obtain ⟨L,hL⟩ := gXe (v.ns.length)
 have hE : namedP k s v.ns v.xs.length = (if k = 2 then !wordB s && (fieldB s && decide (L = 0)) else if k = 18 then fieldB s && decide (L = 0) else namedP k s v.ns v.xs.length) := by
  rw [hL]; unfold namedP
  split
  ·rfl
  ·split
   ·rfl
   ·rfl
 rw [<- hkk] at c0 hk ⊢; rw [<- hs] at c1 hfl hwd ⊢; rw [<- hL] at c8; obtain ⟨R,hR⟩ := gXe (namedP k s v.ns v.xs.length); rw [<- hR] at hE ⊢; have HE := gh hE; have HF := gh hfl; have HWD := gh hwd; clear hE hR hkk hs hL hfl hwd h e8
 rcases hk with rfl | rfl
 ·cases hw : wordB s with
  | true =>
   rw [hw] at HWD; have HR : Hid (R = false) := gh (by rw [HE.o,if_pos rfl,hw]; rfl)
   clear hw
   go_enter Tryz.func141,Tryz.ntmps141
   go_wp2_with fail
   refine (HWD.o _).mono ?_; rintro e w1 ⟨rfl,rfl⟩
   go_wp2
   go_ret
   exact ⟨by rw [HR.o]; rfl,Below.refl _ _⟩
  | false =>
   rw [hw] at HWD; have HR : Hid (R = (fieldB s && decide (L = 0))) := gh (by rw [HE.o,if_pos rfl,hw]; rfl)
   clear hw
   go_enter Tryz.func141,Tryz.ntmps141
   go_wp2_with fail
   refine (HWD.o _).mono ?_; rintro e w1 ⟨rfl,rfl⟩
   go_wp2_with fail
   refine (HF.o _).mono ?_; rintro e w1 ⟨rfl,hb⟩; have HB := gh hb; have c8' := (hb.cell (p := ⟨b,o + 8,none⟩) hlt).trans c8; clear hb c8
   cases hfb : fieldB s with
   | false =>
    rw [hfb] at HR
    go_wp2
    go_ret
    exact ⟨by rw [HR.o]; rfl,HB.o⟩
   | true =>
    rw [hfb] at HR; clear hfb
    by_cases hl : L = 0
    ·subst hl
     go_wp2
     go_ret
     exact ⟨by rw [HR.o]; rfl,HB.o⟩
    ·have j1 : ((L : Int) == 0) = false := by simp; omega
     rw [decide_eq_false hl] at HR
     go_wp2
     go_ret
     exact ⟨by rw [HR.o]; rfl,HB.o⟩
 ·have HR : Hid (R = (fieldB s && decide (L = 0))) := gh (by rw [HE.o, if_neg (by decide), if_pos rfl])
  go_enter Tryz.func141,Tryz.ntmps141
  go_wp2_with fail
  refine (HF.o _).mono ?_; rintro e w1 ⟨rfl,hb⟩; have HB := gh hb; have c8' := (hb.cell (p := ⟨b,o + 8,none⟩) hlt).trans c8; clear hb c8
  cases hfb : fieldB s with
  | false =>
   rw [hfb] at HR
   go_wp2
   go_ret
   exact ⟨by rw [HR.o]; rfl,HB.o⟩
  | true =>
   rw [hfb] at HR; clear hfb
   by_cases hl : L = 0
   ·subst hl
    go_wp2
    go_ret
    exact ⟨by rw [HR.o]; rfl,HB.o⟩
   ·have j1 : ((L : Int) == 0) = false := by simp; omega
    rw [decide_eq_false hl] at HR
    go_wp2
    go_ret
    exact ⟨by rw [HR.o]; rfl,HB.o⟩
end Go.Proofs.YtaamihdibpioaaaGreat
namespace Go.Proofs.YtaamihdibpioaaaGreat
open Go.RowKit
def varX (v : Val) : Exp := .mk 2 ⟨#[120]⟩ v .no [] .no []
theorem varX_in {w : World} {v : Val} (h : v.In w) : (varX v).In w := by
 rw [Exp.in_iff]; refine ⟨⟨show i64r 2 from ⟨by omega,by omega⟩,show (⟨#[120]⟩ : ByteArray).size <= 140737488355328 from by decide,Nat.zero_le _,Nat.zero_le _,fun s hs => by cases hs⟩,h,rfl,rfl,fun x hx => by cases hx⟩
theorem varX_count (v : Val) : (varX v).count 0 = 1 := by simp [varX,Exp.count_eq,Exp.xs,Exp.countAll]
theorem varx_right (v : Val) (b o : Nat) (w : World) (h : PExp w b o (varX v)) : Calls Tryz.prog 121 #[.pointer (some ⟨b, o, none⟩), .int .i64 1] w fun e w' => BoolBelow v.noneB w e w' := by
 have hkd := fun W => kids_any 2 W
 have hnm := named_word (varX v) b o w h (.inl rfl)
 have hE : namedP (varX v).k (varX v).s (varX v).ns (varX v).xs.length = true := by
  show namedP 2 ⟨#[120]⟩ [] 0 = true
  decide +kernel
 rw [hE] at hnm; have hkw : wantsP 2 = 0 := by decide
 simp only [hkw] at hkd; have hno := fun (W : World) (hb : Below w.heap.size w W) => nothing_any v b (o + 2) W (h.val.below hb)
 have c0 : w.cell? ⟨b,o,none⟩ = some (.int .i64 2) := h.c0; have c9 : w.cell? ⟨b,o + 9,none⟩ = some (.slice none 0 0) := h.c9; have hlt := h.2.1; obtain ⟨NB,hNB⟩ := gXe (v.noneB); rw [<- hNB] at hno ⊢; have HKD := gh hkd; have HNM := gh hnm; have HNO := gh hno; clear hE hkw hkd hnm hno hNB h
 go_enter Tryz.func121,Tryz.ntmps121
 go_wp2_with fail
 refine (HKD.o _).mono ?_; rintro e w1 ⟨rfl,rfl⟩
 go_wp2_with fail
 refine HNM.o.mono ?_; rintro e w2 ⟨rfl,hb⟩; have d0 := (hb.cell (p := ⟨b,o,none⟩) hlt).trans c0; have d9 := (hb.cell (p := ⟨b,o + 9,none⟩) hlt).trans c9; have hN := HNO.o _ hb; have HB := gh hb; have HN := gh hN; clear c0 c9 hb hN
 go_wp2_with fail
 refine HN.o.mono ?_; rintro e w3 ⟨rfl,rfl⟩
 cases NB with
 | false =>
  go_wp2
  go_ret
  exact ⟨rfl,HB.o⟩
 | true =>
  go_wp2_with fail
  go_loopw [68] (fun iv wr => iv = .int .i64 0 /\ wr = w2) (fun _ _ => 0)
  case atStart => exact ⟨rfl,rfl⟩
  case round =>
   obtain ⟨rfl,rfl⟩ := hrel
   go_wp2
   go_ret
   exact ⟨rfl,HB.o⟩
theorem varx_parts (x : Exp) (w : World) (h : x.In w) : Calls Tryz.prog 120 #[x.agg] w fun e w' => IntBelow ((x.count 0 : Nat) : Int) w e w' := by
 obtain ⟨W,hW⟩ := gXe (w.alloc (.cells x.cells.toArray 169)); have hBW : Below w.heap.size w W := by rw [hW]; exact (Below.refl _ w).alloc (Nat.le_refl _) _
 have hp : PExp W w.heap.size 0 x := by rw [hW]; exact PExp.new w x 169 h
 have hc := xcounted_any x.sz x w.heap.size 0 0 W (Nat.le_refl _) (by omega) hp
 obtain ⟨p8,q8,e8⟩ := h.nslice; obtain ⟨p9,q9,e9⟩ := h.xslice; obtain ⟨p6,q6,e6⟩ := h.val.nslice; obtain ⟨p7,q7,e7⟩ := h.val.xslice; unfold Exp.cells at hW; unfold Exp.agg; rw [e6,e7,e8,e9] at hW ⊢; have HW := gh hW; have HBW := gh hBW; have HC := gh hc; clear hW hBW hp hc e6 e7 e8 e9 h
 go_enter Tryz.func120,Tryz.ntmps120
 go_wp2_with fail
 rw [<- HW.o]; refine HC.o.mono ?_; rintro e w1 ⟨rfl,rfl⟩
 go_wp2
 go_ret
 exact ⟨rfl,HBW.o⟩
theorem varx_rightf (v : Val) (w : World) (h : (varX v).In w) : Calls Tryz.prog 99 #[(varX v).agg] w fun e w' => BoolBelow v.noneB w e w' := by
 obtain ⟨W,hW⟩ := gXe (w.alloc (.cells (varX v).cells.toArray 169)); have hBW : Below w.heap.size w W := by rw [hW]; exact (Below.refl _ w).alloc (Nat.le_refl _) _
 have hp : PExp W w.heap.size 0 (varX v) := by rw [hW]; exact PExp.new w (varX v) 169 h
 have hc := varx_parts (varX v) W hp.in; rw [varX_count] at hc; have hr := fun (W' : World) (hb : Below W.heap.size W W') => varx_right v w.heap.size 0 W' (hp.below hb)
 obtain ⟨p8,q8,e8⟩ := h.nslice; obtain ⟨p9,q9,e9⟩ := h.xslice; obtain ⟨p6,q6,e6⟩ := h.val.nslice; obtain ⟨p7,q7,e7⟩ := h.val.xslice; have c0 := hp.c0; have c1 := hp.c1; have c2 := hp.c2; have c3 := hp.c3; have c4 := hp.c4; have c5 := hp.c5; have c6 := hp.c6; have c7 := hp.c7; have c8 := hp.c8; have c9 := hp.c9; rw [e6] at c6; rw [e7] at c7; rw [e8] at c8; rw [e9] at c9; simp only [Nat.zero_add] at c0 c1 c2 c3 c4 c5 c6 c7 c8 c9; unfold Exp.cells at hW; unfold Exp.agg at hc ⊢; rw [e6,e7,e8,e9] at hW hc ⊢; obtain ⟨R,hR⟩ := gXe (v.noneB); rw [<- hR] at hr ⊢; have HW := gh hW; have HBW := gh hBW; have HC := gh hc; have HR := gh hr; clear hW hBW hp hc hr hR e6 e7 e8 e9 h
 go_enter Tryz.func99,Tryz.ntmps99
 go_wp2_with fail
 rw [<- HW.o]
 go_wp2_with fail
 refine HC.o.mono ?_; rintro e w1 ⟨rfl,hb⟩; have HR1 := gh (HR.o w1 hb); have HB1 := gh (HBW.o.trans (hb.mono HBW.o.size)); clear hb
 go_wp2_with fail
 refine HR1.o.mono ?_; rintro e w2 ⟨rfl,hb2⟩; have HB2 := gh (HB1.o.trans (hb2.mono HB1.o.size)); clear hb2
 go_wp2
 go_ret
 exact ⟨rfl,HB2.o⟩
end Go.Proofs.YtaamihdibpioaaaGreat
namespace Go.Proofs.YtaamihdibpioaaaGreat
open Go.RowKit
theorem rvarx_right (v : Val) (w : World) (h : (varX v).In w) : Calls Tryz.prog 155 #[(varX v).agg, .int .i64 12] w fun e w' => BoolBelow v.noneB w e w' := by
 obtain ⟨W,hW⟩ := gXe (w.alloc (.cells (varX v).cells.toArray 169)); have hBW : Below w.heap.size w W := by rw [hW]; exact (Below.refl _ w).alloc (Nat.le_refl _) _
 have hb0 : Blk W w.heap.size 169 (varX v).cells.toArray := by rw [hW]; exact Blk.new w 169 _
 have hIn := h.below hBW; have hkd := fun W => wants_any 2 W
 have hkw : wantsP 2 = 0 := by decide
 simp only [hkw] at hkd; have hwd := fun W => rword_any ⟨#[120]⟩ W
 have hnm := fun W => rname_any ⟨#[120]⟩ W h.ok.2.1
 have hw0 : wordB ⟨#[120]⟩ = false := by decide +kernel
 have hn0 : nameB ⟨#[120]⟩ = true := by decide +kernel
 simp only [hw0] at hwd; simp only [hn0] at hnm; have hno : ∀ W',Below W.heap.size W W' -> Calls Tryz.prog _ #[v.agg] W' _ := fun (W' : World) (hb : Below W.heap.size W W') => rnone_any v W' (hIn.val.below hb)
 obtain ⟨p6,q6,e6⟩ : ∃ p c,v.na.val v.ns.length = .slice p v.ns.length c := h.val.nslice; obtain ⟨p7,q7,e7⟩ : ∃ p c,v.xa.val v.xs.length = .slice p v.xs.length c := h.val.xslice; have hcl : (varX v).cells = [.int .i64 2, .string ⟨#[120]⟩, .int .i64 v.k, .int .i64 v.n, .float .f64 v.f, .string v.s,v.na.val v.ns.length,v.xa.val v.xs.length, .slice none 0 0, .slice none 0 0] := rfl; have hxag : (varX v).agg = .agg #[.int .i64 2, .string ⟨#[120]⟩, .int .i64 v.k, .int .i64 v.n, .float .f64 v.f, .string v.s,v.na.val v.ns.length,v.xa.val v.xs.length, .slice none 0 0, .slice none 0 0] := rfl; rw [hxag]; rw [hcl] at hW hb0; unfold Val.agg at hno; rw [e6,e7] at hW hb0 hno ⊢; have c0 := hb0.cell 0; have c1 := hb0.cell 1; have c2 := hb0.cell 2; have c3 := hb0.cell 3; have c4 := hb0.cell 4; have c5 := hb0.cell 5; have c6 := hb0.cell 6; have c7 := hb0.cell 7; have c8 := hb0.cell 8; have c9 := hb0.cell 9; simp only [gX0,gX1,gX2] at c0 c1 c2 c3 c4 c5 c6 c7 c8 c9; obtain ⟨NB,hNB⟩ := gXe (v.noneB); rw [<- hNB] at hno ⊢; have HW := gh hW; have HBW := gh hBW; have HKD := gh hkd; have HWD := gh hwd; have HNM := gh hnm; have HNO := gh hno; have HB0 := gh hb0; clear hW hBW hkd hkw hwd hnm hw0 hn0 hno hNB hcl hxag hb0 hIn h e6 e7
 go_enter Tryz.func155,Tryz.ntmps155
 try simp only [lapp_cons,lapp_nil]
 go_wp2_with fail
 rw [<- HW.o]
 go_wp2_with fail
 refine (HKD.o _).mono ?_; rintro e w1 ⟨rfl,rfl⟩
 go_wp2_with fail
 refine (HNO.o _ (Below.refl _ _)).mono ?_; rintro e w2 ⟨rfl,hb⟩; have hbx := HB0.o.below hb HB0.o.lt; have HB1 := gh (HBW.o.trans (hb.mono HBW.o.size)); clear c0 c1 c2 c3 c4 c5 c6 c7 c8 c9; have c0 := hbx.cell 0; have c1 := hbx.cell 1; have c8 := hbx.cell 8; have c9 := hbx.cell 9; simp only [gX0,gX1,gX2] at c0 c1 c8 c9; clear hb hbx
 cases NB with
 | false =>
  go_wp2
  go_ret
  exact ⟨rfl,HB1.o⟩
 | true =>
  go_wp2_with fail
  refine (HNM.o _).mono ?_; rintro e w3 ⟨rfl,rfl⟩
  go_wp2_with fail
  refine (HWD.o _).mono ?_; rintro e w3 ⟨rfl,rfl⟩
  go_wp2_with fail
  go_loopw [6] (fun iv wr => iv = .int .i64 0 /\ wr = w2) (fun _ _ => 0)
  case atStart => exact ⟨rfl,rfl⟩
  case round =>
   obtain ⟨rfl,rfl⟩ := hrel
   go_wp2_with fail
   go_loopw [7] (fun iv wx => iv = .int .i64 0 /\ wx = wr) (fun _ _ => 0)
   case atStart => exact ⟨rfl,rfl⟩
   case round =>
    obtain ⟨rfl,rfl⟩ := hrel
    go_wp2
    go_ret
    exact ⟨rfl,HB1.o⟩
theorem rvarx_rightf (v : Val) (w : World) (h : (varX v).In w) : Calls Tryz.prog 131 #[(varX v).agg] w fun e w' => BoolBelow v.noneB w e w' := by
 obtain ⟨W,hW⟩ := gXe (w.alloc (.cells (varX v).cells.toArray 169)); have hBW : Below w.heap.size w W := by rw [hW]; exact (Below.refl _ w).alloc (Nat.le_refl _) _
 have hb0 : Blk W w.heap.size 169 (varX v).cells.toArray := by rw [hW]; exact Blk.new w 169 _
 have hIn := h.below hBW; have hc := xrparts_any (varX v) W hIn; rw [varX_count] at hc; have hr := fun (W' : World) (hb : Below W.heap.size W W') => rvarx_right v W' (hIn.below hb)
 obtain ⟨p8,q8,e8⟩ := h.nslice; obtain ⟨p9,q9,e9⟩ := h.xslice; obtain ⟨p6,q6,e6⟩ := h.val.nslice; obtain ⟨p7,q7,e7⟩ := h.val.xslice; unfold Exp.cells at hW hb0; unfold Exp.agg at hc hr ⊢; rw [e6,e7,e8,e9] at hW hc hr hb0 ⊢; obtain ⟨R,hR⟩ := gXe (v.noneB); rw [<- hR] at hr ⊢; have c0 := hb0.cell 0; have c1 := hb0.cell 1; have c2 := hb0.cell 2; have c3 := hb0.cell 3; have c4 := hb0.cell 4; have c5 := hb0.cell 5; have c6 := hb0.cell 6; have c7 := hb0.cell 7; have c8 := hb0.cell 8; have c9 := hb0.cell 9; simp only [gX0,gX1,gX2] at c0 c1 c2 c3 c4 c5 c6 c7 c8 c9; have HW := gh hW; have HBW := gh hBW; have HC := gh hc; have HR := gh hr; have HB0 := gh hb0; clear hW hBW hc hr hR e6 e7 e8 e9 h hIn hb0
 go_enter Tryz.func131,Tryz.ntmps131
 go_wp2_with fail
 rw [<- HW.o]
 go_wp2_with fail
 refine HC.o.mono ?_; rintro e w1 ⟨rfl,hb⟩; have HR1 := gh (HR.o w1 hb); have HB1 := gh (HBW.o.trans (hb.mono HBW.o.size)); have hbx := HB0.o.below hb HB0.o.lt; clear c0 c1 c2 c3 c4 c5 c6 c7 c8 c9; have c0 := hbx.cell 0; have c1 := hbx.cell 1; have c2 := hbx.cell 2; have c3 := hbx.cell 3; have c4 := hbx.cell 4; have c5 := hbx.cell 5; have c6 := hbx.cell 6; have c7 := hbx.cell 7; have c8 := hbx.cell 8; have c9 := hbx.cell 9; simp only [gX0,gX1,gX2] at c0 c1 c2 c3 c4 c5 c6 c7 c8 c9; clear hb hbx
 go_wp2_with fail
 refine HR1.o.mono ?_; rintro e w2 ⟨rfl,hb2⟩; have HB2 := gh (HB1.o.trans (hb2.mono HB1.o.size)); clear hb2
 go_wp2
 go_ret
 exact ⟨rfl,HB2.o⟩
end Go.Proofs.YtaamihdibpioaaaGreat
