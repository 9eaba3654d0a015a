/- The document's journal: Crash (printed by wip/gen_ref18b.py). -/
import Derived.Test.YtaamihdibpioaaaGreatJpM37
import Derived.Test.YtaamihdibpioaaaGreatJpM38
set_option maxRecDepth 100000
set_option maxHeartbeats 40000000
namespace Go.Proofs.YtaamihdibpioaaaGreat.Jf
open Go.RowKit Go.Proofs.YtaamihdibpioaaaGreat.Ref17 Go.Proofs.YtaamihdibpioaaaGreat.Jr Go.Proofs.YtaamihdibpioaaaGreat.Crc Go.Proofs.YtaamihdibpioaaaGreat.Pk Go.Proofs.YtaamihdibpioaaaGreat.Rf
def RDid (k : Int) (s' : Jt) (q d g : Nat) (w : World) (e : Ending) (w' : World) : Prop := e = .returned (.int .i64 k) /\ RJ w' q d g s' /\ Keeps2 w w' q g
def rDo (s : Jt) (label : Int) (enc : Option (List UInt8)) (keep : Int) (wh : Bool) : Jt := bif wh then jWrite s label enc else jCrash s label enc keep
theorem rDo_no {s : Jt} {label : Int} {enc : Option (List UInt8)} {keep : Int} {wh : Bool} (h : jE s label enc ≠ 0) : rDo s label enc keep wh = s := by
 unfold rDo jWrite jCrash; rw [if_neg h,if_neg h]
 cases wh <;> rfl
theorem bytes_jF {s : Jt} {enc : Option (List UInt8)} (h : encE enc = 0) : BytesS s.next enc = jF s enc := by
 unfold BytesS jF; rw [if_pos h]
theorem jB_in {s : Jt} {label : Int} {enc : Option (List UInt8)} (ht : s.torn = false) (hs : isSeg s.n label = true) : jB s label enc = encE enc := by
 unfold jB; rw [ht,hs]
 rfl
theorem rcrash_any (q d g : Nat) (s : Jt) (label : Int) (c : Cm) (keep : Int) (wh : Bool) (w : World) (h : RJ w q d g s) (hn : s.next < 1000000000) (hc : c.In w) :
  Calls Tryz.prog 17 #[.pointer (some ⟨q, 0,none⟩), .int .i64 label,c.agg, .int .i64 keep, .bool wh] w fun e w' => RDid (jE s label c.enc) (rDo s label c.enc keep wh) q d g w e w' := by
 obtain ⟨p4,q4,e4⟩ := hc.2.1.nslice; obtain ⟨p5,q5,e5⟩ := hc.2.1.xslice; obtain ⟨r4,t4,f4⟩ := hc.2.2.nslice; obtain ⟨r5,t5,f5⟩ := hc.2.2.xslice; obtain ⟨C,hC⟩ := gXe (w.heap.size); obtain ⟨W,hW⟩ := gXe (w.alloc (.cells c.cells.toArray 39)); have hb : Below w.heap.size w W := by rw [hW]; exact (Below.refl _ _).alloc (Nat.le_refl _) _
 have hbc : Blk W C 39 c.cells.toArray := by rw [hW,hC]; exact Blk.new _ _ _
 have hJ := h.below hb; have hcW := hc.below hb
 have hag : c.agg = .agg #[.int .i64 c.k, .int .i64 c.nd, .int .i64 c.il, .int .i64 c.inn, .int .i64 c.n, .int .i64 c.key.k, .int .i64 c.key.n, .float .f64 c.key.f, .string c.key.s, .slice p4 c.key.ns.length q4, .slice p5 c.key.xs.length q5, .int .i64 c.v.k, .int .i64 c.v.n, .float .f64 c.v.f, .string c.v.s, .slice r4 c.v.ns.length t4, .slice r5 c.v.xs.length t5] := by
  unfold Cm.agg Cm.cells Val.cells; rw [e4,e5,f4,f5]; rfl
 obtain ⟨AG,hAG⟩ := gXe (c.agg); have hrg : W.rangeAt C 0 c.cells := fun j v hv => by rw [hbc.cell (0 + j)]; simpa using hv
 unfold Cm.cells Val.cells at hW; rw [e4,e5,f4,f5] at hW; simp only [List.cons_append,List.nil_append] at hW; have hCl : C < W.heap.size := hbc.lt; have hby := fun (W' : World) (hb' : Below W.heap.size W W') => rbytes_any s.next c W' hn (hcW.below hb')
 have hld := fun (W' : World) (hb' : Below W.heap.size W W') => run_loadAt_mid (P := Tryz.prog) W' C 0 39 c.cells _ (fun j v hv => by rw [hb'.cell (p := ⟨C, 0 + j,none⟩) hCl]; exact hrg j v hv) Tryz.underlying39 rfl cmd_info
 rw [show (Value.agg c.cells.toArray) = c.agg from rfl, <- hAG] at hld
 rw [<- hAG] at hby; rw [hag]; obtain ⟨EN,hEN⟩ := gXe (c.enc); rw [<- hEN] at hby ⊢; have j0 := hJ.jb.cell 0; have j1 := hJ.jb.cell 1; have j2 := hJ.jb.cell 2; have d0 := hJ.db.c0
 simp at j0 j1 j2
 have hz8 := h.dk.n8; have hz1 := h.dk.n1; have hql := hJ.lt; have hqw := h.lt; have hne := h.ne; have hE := jE_eq s label EN; obtain ⟨E,hEE⟩ := gXe (jE s label EN); obtain ⟨RS,hRS⟩ := gXe (rDo s label EN keep wh); rw [<- hEE] at hE ⊢; rw [<- hRS]; have hno : E ≠ 0 -> RS = s := fun hh => by rw [hRS]; exact rDo_no (by rw [<- hEE]; exact hh)
 have hyes : E = 0 -> RS = bif wh then { s with rows := tearR s.n s.rows label (jF s EN) ((jF s EN).size : Int), next := s.next + 1 } else { s with rows := tearR s.n s.rows label (jF s EN) keep, torn := true } := fun hh => by
  rw [hRS]; unfold rDo jWrite jCrash; rw [if_pos (by rw [<- hEE]; exact hh),if_pos (by rw [<- hEE]; exact hh)]
 have hfin : ∀ W' : World, Below w.heap.size w W' -> E ≠ 0 -> RJ W' q d g RS /\ Keeps2 w W' q g := fun W' hb' hh => by
  rw [hno hh]; exact ⟨h.below hb',Keeps2.of_below hb' q g⟩
 have HC := gh hC; have HW := gh hW; have HBW := gh hb; have HBC := gh hbc; have HBY := gh hby; have HLD := gh hld; have HE := gh hE; have HJ := gh hJ; have HFIN := gh hfin; have HNO := gh hno; have HYES := gh hyes; have HQW := gh hqw; have HQL := gh hql; have HNE := gh hne; have HDK := gh h.dk; clear hC hW hb hbc hby hld hE hJ hag hAG hEN hEE hRS hno hyes hfin e4 e5 f4 f5 hc h hcW hrg hqw hql hne
 cases ht : s.torn with
 | true =>
  rw [ht] at j2; have HEV : Hid (E = 14) := gh (by rw [HE.o]; unfold jB; rw [ht]; rfl)
  have HF := gh (HFIN.o W HBW.o (by rw [HEV.o]; decide))
  clear ht
  go_enter Tryz.func17,Tryz.ntmps17
  go_upto_region 1 with fail
  rw [<- HW.o, <- HC.o]
  go_wp2
  go_ret
  rw [HEV.o]; exact ⟨rfl,HF.o⟩
 | false =>
  rw [ht] at j2
  by_cases hseg : isSeg s.n label = true
  case neg =>
   have hs' : isSeg s.n label = false := by simpa using hseg
   have HEV : Hid (E = 3) := gh (by rw [HE.o]; unfold jB; rw [ht,hs']; rfl)
   have HF := gh (HFIN.o W HBW.o (by rw [HEV.o]; decide))
   have hlab : label < 0 \/ (s.n : Int) <= label := by unfold isSeg at hs'; simp at hs'; omega
   clear ht hseg hs'
   by_cases hl0 : label < 0
   ·have i0 : decide (label < 0) = true := by simpa using hl0
    clear hl0 hlab
    go_enter Tryz.func17,Tryz.ntmps17
    go_upto_region 1 with fail
    rw [<- HW.o, <- HC.o]
    go_wp2
    go_ret
    rw [HEV.o]; exact ⟨rfl,HF.o⟩
   ·have i0 : decide (label < 0) = false := by simpa using hl0
    have i1 : decide ((s.n : Int) <= label) = true := by simp; omega
    clear hl0 hlab
    go_enter Tryz.func17,Tryz.ntmps17
    go_upto_region 1 with fail
    rw [<- HW.o, <- HC.o]
    go_wp2
    go_ret
    rw [HEV.o]; exact ⟨rfl,HF.o⟩
  case pos =>
   obtain ⟨l,rfl,hl1,hl2,_,_⟩ := HDK.o.at_ hseg; have i0 : decide ((l : Int) < 0) = false := by simp
   have i1 : decide ((s.n : Int) <= (l : Int)) = false := by simp; omega
   have i2 : decide (s.n <= l) = false := by simp; omega
   have hB : jB s (l : Int) EN = encE EN := jB_in ht hseg; obtain ⟨B,hBB⟩ := gXe (encE EN); rw [hB, <- hBB] at HE; have hSS : B = 0 -> BytesS s.next EN = jF s EN := fun h0 => bytes_jF (by rw [<- hBB]; exact h0)
   have hFz : B = 0 -> (jF s EN).size <= 2006 := fun h0 => jF_size (s := s) (label := (l : Int)) (enc := EN) (by rw [hB, <- hBB]; exact h0)
   have hby := HBY.o; unfold RByted at hby; rw [<- hBB] at hby; obtain ⟨SS,hS⟩ := gXe (BytesS s.next EN); rw [<- hS] at hby hSS; have HBY2 := gh hby; have HSS := gh hSS; have HFZ := gh hFz; clear hby hSS hFz hS hBB hB HBY ht hseg
   go_enter Tryz.func17,Tryz.ntmps17
   go_upto_region 1 with fail
   rw [<- HW.o, <- HC.o]
   go_upto_region 5 with fail
   refine wp_region_held_drew (S := (fun Y => Below W.heap.size W Y)) (by kernel_rfl) ((Below.refl W.heap.size W).drew) (fun hHeld => ?_)
   refine gT (i := 0) (d := some 32) (v := ?_) rfl rfl (by kernel_rfl) (fun _ _ _ h => h) (by rfl) ?_ hHeld ?_
   rotate_left
   ·(intro w yS; (try dsimp only at yS); have y1 := (yS.cell (p := ⟨q, 1,none⟩) HQL.o.1).trans j1; go_simp; try with_reducible rfl)
   try simp only [Act.put,gX3,gX4,gX5]
   refine gT (i := 1) (d := some 33) (v := ?_) rfl rfl (by kernel_rfl) (fun _ _ _ h => h) (by rfl) ?_ hHeld ?_
   rotate_left
   ·(intro w yS; (try dsimp only at yS); have y1 := (yS.cell (p := ⟨q, 1,none⟩) HQL.o.1).trans j1; go_simp; try with_reducible rfl)
   try simp only [Act.put,gX3,gX4,gX5]
   refine gT (i := 2) (d := some 34) (v := ?_) rfl rfl (by kernel_rfl) (fun _ _ _ h => h) (by rfl) ?_ hHeld ?_
   rotate_left
   ·(intro w yS; (try dsimp only at yS); have y1 := (yS.cell (p := ⟨q, 1,none⟩) HQL.o.1).trans j1; go_simp; try with_reducible rfl)
   try simp only [Act.put,gX3,gX4,gX5]
   refine gT (i := 3) (d := some 35) (v := ?_) rfl rfl (by kernel_rfl) (fun _ _ _ h => h) (by rfl) ?_ hHeld ?_
   rotate_left
   ·(intro w yS; (try dsimp only at yS); have y1 := (yS.cell (p := ⟨q, 1,none⟩) HQL.o.1).trans j1; go_simp; try with_reducible rfl)
   try simp only [Act.put,gX3,gX4,gX5]
   refine gT (i := 4) (d := some 36) (v := AG) rfl rfl (by kernel_rfl) gf (by rfl) (fun w yS => exec_load _ _ rfl (HLD.o w yS)) hHeld ?_
   try simp only [Act.put,gX3,gX4,gX5]
   refine held_only (i := 5) (by kernel_rfl) rfl (by rfl) (fun K hK => ?_)
   go_simp
   go_at_call 35
   refine (HBY2.o _ hHeld).mono ?_; rintro e w2 ⟨rfl,hb2⟩; have HB2 := gh (hHeld.trans (hb2.mono hHeld.size)); clear hb2; refine hK.out _ _ (HB2.o) (fun hHeld => ?_)
   clear hK K; try simp only [Act.put,gX3,gX4,gX5]
   refine gT (i := 6) (d := some 31) (v := ?_) rfl rfl (by kernel_rfl) (fun _ _ _ h => h) (by rfl) ?_ hHeld ?_
   rotate_left
   ·(intro w yS; (try dsimp only at yS); go_simp; try with_reducible rfl)
   try simp only [Act.put,gX3,gX4,gX5]
   refine gT (i := 7) (d := some 38) (v := ?_) rfl rfl (by kernel_rfl) (fun _ _ _ h => h) (by rfl) ?_ hHeld ?_
   rotate_left
   ·(intro w yS; (try dsimp only at yS); go_simp; try with_reducible rfl)
   try simp only [Act.put,gX3,gX4,gX5]
   refine gT (i := 8) (d := some 39) (v := ?_) rfl rfl (by kernel_rfl) (fun _ _ _ h => h) (by rfl) ?_ hHeld ?_
   rotate_left
   ·(intro w yS; (try dsimp only at yS); go_simp; try with_reducible rfl)
   try simp only [Act.put,gX3,gX4,gX5]
   refine gT (i := 9) (d := some 11) (v := ?_) rfl rfl (by kernel_rfl) (fun _ _ _ h => h) (by rfl) ?_ hHeld ?_
   rotate_left
   ·(intro w yS; (try dsimp only at yS); go_simp; try with_reducible rfl)
   try simp only [Act.put,gX3,gX4,gX5]
   refine gT (i := 10) (d := some 12) (v := ?_) rfl rfl (by kernel_rfl) (fun _ _ _ h => h) (by rfl) ?_ hHeld ?_
   rotate_left
   ·(intro w yS; (try dsimp only at yS); go_simp; try with_reducible rfl)
   try simp only [Act.put,gX3,gX4,gX5]
   refine wpAnyH_done (by kernel_rfl) ?_ _
   clear hHeld; have J2 := gh (HJ.o.below HB2.o); have B2 := gh (HBW.o.trans (HB2.o.mono HBW.o.size)); clear HB2 HBY2 j0 j1 j2 d0
   by_cases h0 : B = 0
   case neg =>
    have i3 : (B != 0) = true := by simpa using h0
    have HEV : Hid (E = B) := gh (by rw [HE.o,if_neg h0])
    have HF := gh (HFIN.o w2 B2.o (by rw [HEV.o]; exact h0))
    go_wp2
    go_ret
    rw [HEV.o]; exact ⟨rfl,HF.o⟩
   case pos =>
    obtain rfl := HSS.o h0; have hz := HFZ.o h0; have HEV : Hid (E = tearE s.n s.rows (l : Int) (jF s EN)) := gh (by rw [HE.o,if_pos h0])
    subst h0; have j0 := J2.o.jb.cell 0
    simp at j0
    obtain ⟨TE,hTE⟩ := gXe (tearE s.n s.rows (l : Int) (jF s EN)); rw [<- hTE] at HEV; obtain ⟨KK,hKK⟩ : ∃ KK : Int,KK = bif wh then ((jF s EN).size : Int) else keep := ⟨_,rfl⟩; have htd := ref_tear J2.o.db J2.o.dk (l : Int) (jF s EN) KK (by omega)
    rw [<- hTE] at htd; have hsm := fun (ht : TE ≠ 0) => tear_same (n := s.n) (rows := s.rows) (i := (l : Int)) (s := jF s EN) (keep := KK) (by rw [<- hTE]; exact ht)
    have HTD := gh htd; have HSM := gh hsm; have HKK := gh hKK; clear htd hsm hTE hKK hz
    cases wh with
    | true =>
     obtain rfl := HKK.o; simp only [cond_true] at HTD HSM HYES
     go_wp2_with fail
     refine HTD.o.mono ?_; rintro e w3 ⟨rfl,ho3,hd3⟩; have hj3 : Blk w3 q 62 #[.pointer (some ⟨d, 0,none⟩), .int .i64 s.next, .bool s.torn] := J2.o.jb.grown ho3 (by simp; exact HNE.o.2.1)
     have HO3 := gh (Keeps2.trans (Keeps2.of_below B2.o q g) (Keeps2.of_only2 ho3)); have HJ3 := gh hj3; have HD3 := gh hd3; clear ho3 hj3 hd3 HTD j0
     by_cases ht : TE = 0
     case neg =>
      have i3 : (TE != 0) = true := by simpa using ht
      have hsm := HSM.o ht; have hd3 := HD3.o; rw [hsm] at hd3; have HF := gh (show RJ w3 q d g s /\ Keeps2 w w3 q g from ⟨⟨HJ3.o,hd3,HDK.o⟩,HO3.o⟩)
      have HRS : Hid (RS = s) := gh (by
       have hne0 : E ≠ 0 := by rw [HEV.o]; exact ht
       exact HNO.o hne0)
      clear hsm hd3 ht
      go_wp2
      go_ret
      rw [HEV.o,HRS.o]; exact ⟨rfl,HF.o⟩
     case pos =>
      subst ht; have c2 := HJ3.o.cell 1; have f2 := HJ3.o.frozen 1
      simp at c2
      have hw1 : IntKind.i64.wrap ((s.next : Int) + 1) = ((s.next + 1 : Nat) : Int) := by rw [IntWalk.i64_in _ (by omega)]; omega
      have HF := gh (show RJ (w3.setCell ⟨q, 1, none⟩ (.int .i64 ((s.next + 1 : Nat) : Int))) q d g RS /\ Keeps2 w (w3.setCell ⟨q, 1, none⟩ (.int .i64 ((s.next + 1 : Nat) : Int))) q g from by
       rw [HYES.o HEV.o]; refine ⟨⟨HJ3.o.set_ 1 _,?_,HDK.o.tear _ _ _⟩,HO3.o.trans (Keeps2.of_only1 ((Only.refl _ _).set_ (p := ⟨q, 1,none⟩) (.inl rfl) _))⟩; exact HD3.o.grown ((Only.refl w3 q).set_ (p := ⟨q, 1,none⟩) (.inl rfl) _) (by simp; exact fun e => HNE.o.1 e.symm) (by simp; exact fun e => HNE.o.2.1 e.symm))
      go_wp2
      go_ret
      rw [HEV.o]
      first | exact ⟨rfl,HF.o⟩ | (rw [show (s.next : Int) + 1 = ((s.next + 1 : Nat) : Int) from by omega]; exact ⟨rfl,HF.o⟩)
    | false =>
     obtain rfl := HKK.o; simp only [cond_false] at HTD HSM HYES
     go_wp2_with fail
     refine HTD.o.mono ?_; rintro e w3 ⟨rfl,ho3,hd3⟩; have hj3 : Blk w3 q 62 #[.pointer (some ⟨d, 0,none⟩), .int .i64 s.next, .bool s.torn] := J2.o.jb.grown ho3 (by simp; exact HNE.o.2.1)
     have HO3 := gh (Keeps2.trans (Keeps2.of_below B2.o q g) (Keeps2.of_only2 ho3)); have HJ3 := gh hj3; have HD3 := gh hd3; clear ho3 hj3 hd3 HTD j0
     by_cases ht : TE = 0
     case neg =>
      have i3 : (TE != 0) = true := by simpa using ht
      have hsm := HSM.o ht; have hd3 := HD3.o; rw [hsm] at hd3; have HF := gh (show RJ w3 q d g s /\ Keeps2 w w3 q g from ⟨⟨HJ3.o,hd3,HDK.o⟩,HO3.o⟩)
      have HRS : Hid (RS = s) := gh (by
       have hne0 : E ≠ 0 := by rw [HEV.o]; exact ht
       exact HNO.o hne0)
      clear hsm hd3 ht
      go_wp2
      go_ret
      rw [HEV.o,HRS.o]; exact ⟨rfl,HF.o⟩
     case pos =>
      subst ht; have c2 := HJ3.o.cell 2; have f2 := HJ3.o.frozen 2
      simp at c2
      have HF := gh (show RJ (w3.setCell ⟨q, 2, none⟩ (.bool true)) q d g RS /\ Keeps2 w (w3.setCell ⟨q, 2, none⟩ (.bool true)) q g from by
       rw [HYES.o HEV.o]; refine ⟨⟨HJ3.o.set_ 2 _,?_,HDK.o.tear _ _ _⟩,HO3.o.trans (Keeps2.of_only1 ((Only.refl _ _).set_ (p := ⟨q, 2,none⟩) (.inl rfl) _))⟩; exact HD3.o.grown ((Only.refl w3 q).set_ (p := ⟨q, 2,none⟩) (.inl rfl) _) (by simp; exact fun e => HNE.o.1 e.symm) (by simp; exact fun e => HNE.o.2.1 e.symm))
      go_wp2
      go_ret
      rw [HEV.o]
      first | exact ⟨rfl,HF.o⟩ | (rw [show (s.next : Int) + 1 = ((s.next + 1 : Nat) : Int) from by omega]; exact ⟨rfl,HF.o⟩)
end Go.Proofs.YtaamihdibpioaaaGreat.Jf
namespace Go.Proofs.YtaamihdibpioaaaGreat.Jf
open Go.RowKit Go.Proofs.YtaamihdibpioaaaGreat.Ref17 Go.Proofs.YtaamihdibpioaaaGreat.Jr Go.Proofs.YtaamihdibpioaaaGreat.Crc Go.Proofs.YtaamihdibpioaaaGreat.Pk Go.Proofs.YtaamihdibpioaaaGreat.Rf
theorem made_oneJ (z : Value) (n : Nat) : madeCells #[z] n = (List.replicate n z).toArray := by
 apply Array.ext
 ·simp [madeCells]
 ·intro i h1 h2
  simp [madeCells,Nat.mod_one]
theorem str_infoJ : (Tryz.prog.info? 9).map (fun i => (i.zero,i.size,i.bytes)) = some (some (.string ByteArray.empty), 1, 16) := by kernel_rfl
def RNewed (n : Nat) (w : World) (e : Ending) (w' : World) : Prop :=
 ∃ q d g,w.heap.size <= q /\ w.heap.size <= d /\ w.heap.size <= g /\ e = .returned (.pointer (some ⟨q, 0,none⟩)) /\ Below w.heap.size w w' /\ RJ w' q d g (jNew n)
theorem rnew_any (n : Nat) (w : World) (hn1 : 1 <= n) (hn8 : n <= 8) : Calls Tryz.prog 16 #[.int .i64 n] w fun e w' => RNewed n w e w' := by
 have hmk := fun W : World => _root_.Go.run_make_row' (P := Tryz.prog) 34 9 _ 16 Tryz.underlying34 str_infoJ rfl .i64 .i64 n (by omega) (by omega) W
 go_enter Tryz.func16,Tryz.ntmps16
 go_wp2
 go_ret
 have e : (noRows.take n).map Value.string = List.replicate n (Value.string ByteArray.empty) := by
  rw [noRows,List.take_replicate,Nat.min_eq_left hn8,List.map_replicate]
 refine ⟨w.heap.size + 1 + 1,w.heap.size + 1,w.heap.size,?_,?_,?_,rfl, (((Below.refl _ _).alloc (Nat.le_refl _) _).alloc (by simp) _).alloc (by simp <;> omega) _,⟨?_,⟨?_,?_,?_,hn1,hn8,?_⟩,?_⟩⟩
 rotate_left 3
 ·have := Blk.new ((w.alloc (.cells (madeCells #[Value.string ByteArray.empty] n) 9)).alloc (.cells #[.slice (some ⟨w.heap.size, 0, none⟩) n n] 59)) 62 #[.pointer (some ⟨w.heap.size + 1, 0, none⟩), .int .i64 1, .bool false]
  simp at this
  exact this
 ·have := (Blk.new (w.alloc (.cells (madeCells #[Value.string ByteArray.empty] n) 9)) 59 #[.slice (some ⟨w.heap.size, 0, none⟩) n n]).alloc (.cells #[.pointer (some ⟨w.heap.size + 1, 0, none⟩), .int .i64 1, .bool false] 62)
  simp at this
  exact this
 ·show Blk _ _ 9 ((noRows.take n).map Value.string).toArray
  rw [e]; have := ((Blk.new w 9 (madeCells #[Value.string ByteArray.empty] n)).alloc (.cells #[.slice (some ⟨w.heap.size, 0,none⟩) n n] 59)).alloc (.cells #[.pointer (some ⟨w.heap.size + 1, 0,none⟩), .int .i64 1, .bool false] 62); rw [made_oneJ] at this ⊢; exact this
 ·show (noRows.take n).length = n
  simp [noRows]; omega
 ·exact fun r hr => (good_new hn1 hn8).dk.sz r (List.mem_of_mem_take hr)
 ·exact (good_new hn1 hn8).dk
 all_goals omega
structure RRow (w : World) (Z B : Nat) (v : Value) (us : List Rc) : Prop where
 own : w.ownsRow B 44 19 v us.length (recE.row us)
 each : ∀ u,u ∈ us -> u.In w /\ u.Sep (fun b => Z <= b)
 lo : Z <= B \/ v = .slice none 0 0
theorem RRow.keep {w w' : World} {Z B : Nat} {v : Value} {us : List Rc} (h : RRow w Z B v us) (hk : ∀ b, Z <= b -> b < w.heap.size -> w'.heap[b]? = w.heap[b]?) (hz : w.heap.size <= w'.heap.size) : RRow w' Z B v us := by
 refine ⟨?_,fun u hu => ⟨recE.carry (show recE.In w u from (h.each u hu).1) (show recE.Sep (fun b => Z <= b) u from (h.each u hu).2) (fun b o hb hlt => World.cell?_of_block (a := ⟨b,o,none⟩) (hk b hb hlt)) hz, (h.each u hu).2⟩,h.lo⟩
 rcases h.lo with hl | hl
 ·exact rowed_own_keep (fun b hb hlt => hk b (by omega) hlt) h.own
 ·obtain ⟨h1, h2⟩ := h.own
  refine ⟨h1,?_⟩
  rcases h2 with h2 | ⟨g,cap,cur,hv,_⟩
  ·exact .inl h2
  ·rw [hl] at hv; injection hv with hv; cases hv
theorem RRow.below {w w' : World} {Z B : Nat} {v : Value} {us : List Rc} (h : RRow w Z B v us) (hb : Below w.heap.size w w') : RRow w' Z B v us := h.keep (fun b _ hlt => hb.block b hlt) hb.size
theorem RRow.set_ {w : World} {Z B : Nat} {v : Value} {us : List Rc} (h : RRow w Z B v us) {p : Addr} (hp : p.block < Z) (u : Value) : RRow (w.setCell p u) Z B v us :=
 h.keep (fun b hb _ => Below.heap_setCell w p u b (by omega)) (by simp [World.setCell])
theorem RRow.start (w : World) (Z : Nat) : RRow w Z 0 (.slice none 0 0) [] := ⟨⟨by simp [Elem.row], .inl ⟨rfl,rfl⟩⟩,fun u h => by simp at h, .inr rfl⟩
theorem RRow.form {w : World} {Z B : Nat} {v : Value} {us : List Rc} (h : RRow w Z B v us) : ∃ A c,v = .slice A us.length c := row_form h.own
def RRecs (H : List He) (w : World) (e : Ending) (w' : World) : Prop :=
 ∃ (B : Nat) (v : Value) (us : List Rc),e = .returned v /\ Below w.heap.size w w' /\ RRow w' w.heap.size B v us /\ us.map Rc.erase = H.map He.rc
def gotL (H : List He) (i k : Nat) : List Rc := (inSegs H i ++ (segL H i).take k).map He.rc
theorem gotL_zero (H : List He) (i : Nat) : gotL H i 0 = (inSegs H i).map He.rc := by unfold gotL; simp
theorem gotL_end (H : List He) (i : Nat) : gotL H i (segL H i).length = (inSegs H (i + 1)).map He.rc := by unfold gotL; rw [List.take_length]; rfl
theorem gotL_succ {H : List He} {i k : Nat} (h : k < (segL H i).length) : gotL H i (k + 1) = gotL H i k ++ [((segL H i)[k]'h).rc] := by
 unfold gotL; rw [List.take_succ_eq_append_getElem h, <- List.append_assoc,List.map_append]
 rfl
theorem gotL_len (H : List He) (i k : Nat) (hn : i < 8) : (gotL H i k).length <= 8 * H.length + H.length := by
 unfold gotL; rw [List.length_map,List.length_append,List.length_take]; have h1 := inSegs_len H i; have h2 := segL_len H i; have h3 : i * H.length <= 8 * H.length := Nat.mul_le_mul_right _ (by omega)
 omega
theorem cm_one2 (c : Cm) : c.cells.toArray.all (·.oneCell') = true := by
 rw [List.all_toArray,List.all_eq_true]; exact Cm.oneCell c
theorem recs_one (L : List Rc) : ∀ u ∈ recE.row L, u.oneCell' = true := by
 intro u hu; obtain ⟨x,_,h⟩ := List.mem_flatMap.1 hu; exact recE.one x u h
theorem seq_at {p : ByteArray} (h0 : 0 < p.size) (h1 : 1 < p.size) (h2 : 2 < p.size) (h3 : 3 < p.size) :
  wrap64 (wrap64 (wrap64 (wrap64 (wrap64 ((p[0]'h0).toNat : Int) * 16777216) + wrap64 (wrap64 ((p[1]'h1).toNat : Int) * 65536)) + wrap64 (wrap64 ((p[2]'h2).toNat : Int) * 256)) + wrap64 ((p[3]'h3).toNat : Int)) = (numOf (p.extract 0 4) : Int) := by
 have hz : (p.extract 0 4).size = 4 := by rw [ByteArray.size_extract]; omega
 have b0 : byteAt (p.extract 0 4) 0 = p[0]'h0 := by rw [byteAt_eq (by omega),ByteArray.getElem_extract]
 have b1 : byteAt (p.extract 0 4) 1 = p[1]'h1 := by rw [byteAt_eq (by omega),ByteArray.getElem_extract]
 have b2 : byteAt (p.extract 0 4) 2 = p[2]'h2 := by rw [byteAt_eq (by omega),ByteArray.getElem_extract]
 have b3 : byteAt (p.extract 0 4) 3 = p[3]'h3 := by rw [byteAt_eq (by omega),ByteArray.getElem_extract]
 unfold numOf; rw [b0,b1,b2,b3]; have l0 := (p[0]'h0).toNat_lt; have l1 := (p[1]'h1).toNat_lt; have l2 := (p[2]'h2).toNat_lt; have l3 := (p[3]'h3).toNat_lt
 generalize (p[0]'h0).toNat = a at *
 generalize (p[1]'h1).toNat = b at *
 generalize (p[2]'h2).toNat = c at *
 generalize (p[3]'h3).toNat = d at *
 rw [IntWalk.wrap64_in (a : Int) ⟨by omega,by omega⟩,IntWalk.wrap64_in (b : Int) ⟨by omega,by omega⟩,IntWalk.wrap64_in (c : Int) ⟨by omega,by omega⟩,IntWalk.wrap64_in (d : Int) ⟨by omega,by omega⟩]
 have e1 : wrap64 ((a : Int) * 16777216) = (a : Int) * 16777216 := IntWalk.wrap64_in _ ⟨by omega,by omega⟩
 have e2 : wrap64 ((b : Int) * 65536) = (b : Int) * 65536 := IntWalk.wrap64_in _ ⟨by omega,by omega⟩
 have e3 : wrap64 ((c : Int) * 256) = (c : Int) * 256 := IntWalk.wrap64_in _ ⟨by omega,by omega⟩
 rw [e1,e2,e3]; have e4 : wrap64 ((a : Int) * 16777216 + (b : Int) * 65536) = (a : Int) * 16777216 + (b : Int) * 65536 := IntWalk.wrap64_in _ ⟨by omega,by omega⟩
 rw [e4]; have e5 : wrap64 ((a : Int) * 16777216 + (b : Int) * 65536 + (c : Int) * 256) = (a : Int) * 16777216 + (b : Int) * 65536 + (c : Int) * 256 := IntWalk.wrap64_in _ ⟨by omega,by omega⟩
 rw [e5]; have e6 : wrap64 ((a : Int) * 16777216 + (b : Int) * 65536 + (c : Int) * 256 + (d : Int)) = (a : Int) * 16777216 + (b : Int) * 65536 + (c : Int) * 256 + (d : Int) := IntWalk.wrap64_in _ ⟨by omega,by omega⟩
 rw [e6]
 omega
theorem rrecs_any (q d g : Nat) (s : Jt) (H : List He) (r : Nat -> ByteArray) (w : World) (h : RJ w q d g s) (hh : Hist s.n s.rows H r) (hs : ∀ h, h ∈ H -> h.seq < 4294967296) (hH : H.length <= 10000) :
  Calls Tryz.prog 22 #[.pointer (some ⟨q, 0,none⟩)] w fun e w' => RRecs H w e w' := by
 have hsf := run_store_flt; obtain ⟨i0,hi0,hz0,hz1,hz2⟩ := info_parts rec_facts; have HI0 := gh hi0; have HIZ := gh hz0; have HIS := gh hz1; have HIB := gh hz2; clear hi0 hz0 hz1 hz2; have j0 := h.jb.cell 0; have d0 := h.db.c0
 simp at j0
 have hn8 := h.dk.n8; obtain ⟨n,hn⟩ := gXe (s.n); rw [<- hn] at hn8 d0; have hql := h.lt
 have hrow : ∀ i : Nat, i < n -> w.cell? ⟨g, i, none⟩ = some (.string (rowOf s.rows (i : Int))) := fun i hi => by
  have hsg : isSeg s.n (i : Int) = true := by unfold isSeg; simp; omega
  obtain ⟨k,e,_,hc,_⟩ := h.db.at_ hsg; obtain rfl : i = k := by omega
  rw [rowOf_take h.dk hsg] at hc; exact hc
 have hal := fun (i : Nat) (hi : i < n) (W : World) => rall_any (rowOf s.rows (i : Int)) W (by have := rowOf_size h.dk (i : Int); omega)
 have hha := fun (i : Nat) (hi : i < n) => hh.all (i := i) (by omega)
 have hsm := fun i => seg_big hh i
 have hfin := insAll_all (fun x hx => (hh.ok x hx).2.1) hh.up
 have HN := gh hn; have HROW := gh hrow; have HAL := gh hal; have HHA := gh hha; have HSM := gh hsm; have HFIN := gh hfin; have HS := gh hs; have HHL := gh hH; have HQL := gh hql; clear hn hrow hal hha hsm hfin hs h hh hql
 go_enter Tryz.func22,Tryz.ntmps22
 go_wp2_with fail
 go_loopw [3, 4] (fun ov iv wr => ∃ (i B : Nat) (us : List Rc),i <= n /\ iv = .int .i64 (i : Int) /\ Hid (RRow wr w.heap.size B ov us) /\ Hid (us.map Rc.erase = insAll ((inSegs H i).map He.rc)) /\ Hid (Below w.heap.size w wr)) (fun _ iv _ => n - (intOf iv).toNat)
 case atStart => exact ⟨0, 0, [],by omega,rfl,gh (RRow.start _ _),gh rfl,gh (Below.refl _ _)⟩
 case round =>
  obtain ⟨i,B,us,hi,rfl,HRW,HUE,HBL⟩ := hrel; have j1 := (HBL.o.cell (p := ⟨q, 0,none⟩) HQL.o.1).trans j0; have d1 := (HBL.o.cell (p := ⟨d, 0,none⟩) HQL.o.2.1).trans d0
  by_cases hlt : i < n
  ·have g1 := (HBL.o.cell (p := ⟨g, i, none⟩) HQL.o.2.2).trans (HROW.o i hlt)
   have hk0 : (0 : Int) <= (i : Int) := by omega
   have hk1 : (i : Int) < (n : Int) := by omega
   obtain ⟨oa,oc,rfl⟩ := HRW.o.form; have HA := gh (HAL.o i hlt wr); have hha := HHA.o i hlt; obtain ⟨R,hR⟩ := gXe (rowOf s.rows (i : Int)); rw [<- hR] at g1 HA hha; have HHA1 := gh hha; clear hha hR
   go_wp2_with fail
   refine HA.o.mono ?_; clear HA; rintro e w1 hal; unfold Alled at hal; rw [HHA1.o] at hal; obtain ⟨fv,rfl,hown,hb1⟩ := hal; obtain ⟨fa,fc,rfl⟩ := row_form hown; obtain ⟨m,hm⟩ := gXe ((segOf H i).length); have hms : m = (segL H i).length := by rw [hm]; unfold segOf; rw [List.length_map]
   simp only at hown; have HM := gh hm; have HMS := gh hms; have HOW := gh hown; have HRW1 := gh (HRW.o.below hb1); have HB1 := gh (HBL.o.trans (hb1.mono HBL.o.size)); have hm1 : m <= 10000 := by rw [hms]; exact Nat.le_trans (segL_len H i) HHL.o
   have HUE1 : Hid (us.map Rc.erase = insAll (gotL H i 0)) := gh (by rw [gotL_zero]; exact HUE.o)
   rw [<- hm]; clear hown hb1 hm hms HRW HUE HBL j1 d1 g1
   go_wp2_with fail
   go_loopw [3, 7] (fun ov kv wr => ∃ (k B : Nat) (us : List Rc),k <= m /\ kv = .int .i64 (k : Int) /\ Hid (RRow wr w.heap.size B ov us) /\ Hid (us.map Rc.erase = insAll (gotL H i k)) /\ Hid (Below w1.heap.size w1 wr)) (fun _ kv _ => m - (intOf kv).toNat)
   case atStart => exact ⟨0,B,us,by omega,rfl,HRW1,HUE1,gh (Below.refl _ _)⟩
   case round =>
    clear HRW1 HUE1; obtain ⟨k,B,us,hk,rfl,HRW,HUE,HBL⟩ := hrel
    by_cases hkm : k < m
    ·have hks : k < (segL H i).length := by rw [<- HMS.o]; exact hkm
     have hko : k < (segOf H i).length := by rw [<- HM.o]; exact hkm
     obtain ⟨x,hx⟩ := gXe ((segL H i)[k]'hks); have hxm : x ∈ segL H i := by rw [hx]; exact List.getElem_mem hks
     have hxl : x.label = i := by have := (List.mem_filter.1 hxm).2; simpa using this
     have hxs : x.seq < 4294967296 := HS.o x (List.mem_filter.1 hxm).1; obtain ⟨p,hp⟩ := gXe (x.pay); have hpo : (segOf H i)[k]'hko = p := by rw [hp,hx]; exact List.getElem_map He.pay
     have hpb := HSM.o i p (by rw [<- hpo]; exact List.getElem_mem hko)
     obtain ⟨fg, rfl, hfgl, hcell, hcap⟩ : ∃ fg, fa = some ⟨fg, 0, none⟩ /\ fg < w1.heap.size /\ w1.cell? ⟨fg, k, none⟩ = some (.string p) /\ m <= fc := by
      rcases HOW.o.2 with ⟨_,h0⟩ | ⟨fg,cap,cur,hv,hb,hg,hrest⟩
      ·omega
      ·injection hv with h1 h2 h3
       subst h1; refine ⟨fg,rfl, (show Blk w1 fg 9 cur from hg).lt,?_,?_⟩
       ·have := HOW.o.cells (g := fg) rfl k (.string p) (by simp [hko, hpo])
        rw [Addr.add_lit,Nat.zero_add] at this; exact this
       ·rw [h3,HM.o]; exact hrest.1
     have hcl := (HBL.o.cell (p := ⟨fg,k,none⟩) hfgl).trans hcell; have hk2 : (0 : Int) <= (k : Int) := by omega
     have hk3 : (k : Int) < (m : Int) := by omega
     obtain ⟨oa,oc,rfl⟩ := HRW.o.form; have hp0 : (0 : Int) < (p.size : Int) := by omega
     have hp1 : (1 : Int) < (p.size : Int) := by omega
     have hp2 : (2 : Int) < (p.size : Int) := by omega
     have hp3 : (3 : Int) < (p.size : Int) := by omega
     have hq0 : 0 < p.size := by omega
     have hq1 : 1 < p.size := by omega
     have hq2 : 2 < p.size := by omega
     have hq3 : 3 < p.size := by omega
     have HX := gh hx; have HP := gh hp; have HPO := gh hpo; have HXL := gh hxl; clear hx hp hpo hxm hxl hcell
     go_wp2_with fail
     go_quiet (fail)
     rw [seq_at hq0 hq1 hq2 hq3]; have HSQ : Hid ((numOf (p.extract 0 4) : Int) = (x.seq : Int)) := gh (by rw [HP.o]; unfold He.pay; rw [numOf_pay _ hxs])
     rw [HSQ.o]; obtain ⟨V,hV⟩ := gXe (wr.drewN nq); rw [<- hV]; have hbV : Below wr.heap.size wr V := by rw [hV]; exact below_drewN (Below.refl _ _) nq
     have HBV := gh (HBL.o.trans (hbV.mono HBL.o.size)); have HRV := gh (HRW.o.below hbV); have hrc := Go.Proofs.YtaamihdibpioaaaGreat.Ri.frcmd_any p 4 V (by omega) (by omega)
     have hrC : readC p = cmdOf (rdCm p 4) := by rw [readC_of,Nat.min_eq_left hpb.1]
     have HRC := gh hrc; have HRD := gh hrC
     have husl : us.length <= 100000 := by
      have := congrArg List.length HUE.o; rw [List.length_map,insAll_len] at this; have := gotL_len H i k (by omega)
      have := HHL.o
      omega
     clear hV hbV hrc hrC HRW HBL hcl
     go_wp2_with fail
     refine HRC.o.mono ?_; rintro e w3 hr; obtain ⟨hb3,u,uq,uk,rfl,hue,hui,hus⟩ := CmdRead.any hr; obtain ⟨X,hX⟩ := gXe (w3.heap.size); obtain ⟨W4,hW4⟩ := gXe (w3.alloc (.cells u.cells.toArray 39)); have hbX : Blk W4 X 39 u.cells.toArray := by rw [hW4,hX]; exact Blk.new _ _ _
     have hb34 : Below w3.heap.size w3 W4 := by rw [hW4]; exact (Below.refl _ _).alloc (Nat.le_refl _) _
     have hb4 : Below V.heap.size V W4 := hb3.trans (hb34.mono hb3.size); have HUS := gh (show u.Sep (fun b => w.heap.size <= b) from cmE.mono hus (fun b hb => by have hb' : V.heap.size <= b := hb; have := HBV.o.size; have := HB1.o.size; omega)); have HUI := gh (hui.below hb34); have HUE2 := gh (hue.trans HRD.o.symm); have HX4 := gh hX; have HW4 := gh hW4; have HBX := gh hbX
     have HR4 := gh (HRV.o.below hb4); have HB4 := gh (HBV.o.trans (hb4.mono HBV.o.size)); clear hb3 hue hui hus hX hW4 hbX hb34 hb4 hr HRC HBV HRV; obtain ⟨Q,hQ⟩ : ∃ Q : Int,Q = (x.seq : Int) := ⟨_,rfl⟩; rw [<- hQ]; have HQ := gh hQ; have hQr : 0 <= Q /\ Q < 4294967296 := by omega
     clear hQ; obtain ⟨N,hN⟩ := gXe (us.length); rw [<- hN] at husl ⊢; have HN2 := gh hN; clear hN
     go_upto_block 4 with (first
      | (refine wpList_store_new 39 _ _ u.cells.toArray _ rfl rfl HW4.o rfl rfl cmd_info rfl (cm_one2 u) ?_; rw [<- HX4.o])
      | fail)
     go_cut [13] (fun av wx => ∃ a : Nat,av = .int .i64 (a : Int) /\ a <= N /\ Hid (insR ⟨Q, (i : Int),u⟩ us = us.take a ++ ⟨Q, (i : Int),u⟩ :: us.drop a) /\ Hid (W4 = wx))
     case first =>
      go_wp2_with fail
      go_loopw [13] (fun av wr => ∃ a : Nat,av = .int .i64 (a : Int) /\ a <= N /\ Hid (∀ j (h : j < us.length),j < a -> (us[j]'h).seq < Q) /\ Hid (W4 = wr)) (fun av _ => N - (intOf av).toNat)
      case atStart => exact ⟨0,rfl,by omega,gh (fun j h hj => absurd hj (by omega)),gh rfl⟩
      case round =>
       obtain ⟨a,rfl,ha,HLT,HWE⟩ := hrel; obtain rfl := HWE.o; have ha0 : (0 : Int) <= (a : Int) := by omega
       by_cases haN : a < N
       ·have haU : a < us.length := by rw [<- HN2.o]; exact haN
        obtain ⟨rg,rfl,hrc,hrB,hrl,hrr⟩ := rec_range HR4.o.own haU; have ha1 : (a : Int) < (N : Int) := by omega
        have r0 := hrr 0 _ rfl; rw [Nat.add_zero] at r0; rw [<- HN2.o] at hrc; obtain ⟨z,hz⟩ := gXe ((us[a]'haU).seq); have HZ := gh hz; have r0' : W4.cell? ⟨rg,a * 19,none⟩ = some (.int .i64 z) := by rw [hz]; exact r0
        clear hrr r0 hz
        by_cases hzQ : z < Q
        ·have t1 : decide (z < Q) = true := by simpa using hzQ
         have HLT2 : Hid (∀ j (h : j < us.length), j < a + 1 -> (us[j]'h).seq < Q) := gh (fun j h hj => by
          by_cases e : j = a
          ·subst e; rw [<- HZ.o]; exact hzQ
          ·exact HLT.o j h (by omega))
         clear hzQ
         go_wp2_with fail
         go_roundw
         case rel => exact ⟨a + 1,by go_num,by omega,HLT2,gh (by first | trivial | rfl)⟩
         case measure => simp [intOf]; omega
        ·have t1 : decide (z < Q) = false := by simpa using hzQ
         have HINS := gh (insR_at (x := ⟨Q, (i : Int),u⟩) (L := us) (k := a) (Nat.le_of_lt haU) HLT.o (fun h => by rw [<- HZ.o]; exact hzQ))
         clear hzQ
         go_wp2_with fail
         go_meet
         exact ⟨a,rfl,ha,HINS,gh rfl⟩
       ·obtain rfl : a = N := by omega
        have t1 : decide ((a : Int) < (a : Int)) = false := by simp
        have HINS := gh (insR_at (x := ⟨Q, (i : Int),u⟩) (L := us) (k := a) (by rw [HN2.o]; exact Nat.le_refl _) HLT.o (fun h => by rw [<- HN2.o] at h; omega))
        go_wp2_with fail
        go_meet
        exact ⟨a,rfl,by omega,HINS,gh rfl⟩
     case rest =>
      obtain ⟨a,rfl,ha,HINS,HWE⟩ := hcut; obtain rfl := HWE.o; have hro := HR4.o.own; rw [<- HN2.o] at hro; have HRT := gh (rec_take (Reads.of_own hro) HN2.o ha); have ha0 : (0 : Int) <= (a : Int) := by omega
      have HRD2 : Hid (∀ (A' : Option Addr) (m' : Nat), m' = N - a -> (0 < m' -> ∃ rg, oa = some ⟨rg, 0, none⟩ /\ A' = some ⟨rg, a * 19, none⟩) -> Reads (W4.alloc (.cells #[] 44)) W4.heap.size 19 A' m' (recE.row (us.drop a))) := gh (fun A' m' h0 h1 => by
       rcases Nat.eq_zero_or_pos m' with e | e
       ·exact ⟨by rw [Elem.row_len,List.length_drop, <- HN2.o, <- h0]; rfl,fun h => absurd h (by omega)⟩
       ·obtain ⟨rg, e1, rfl⟩ := h1 e
        rw [h0]; have h2 := hro; rw [e1] at h2; exact (rec_rest h2 HN2.o a ha).alloc (Nat.le_refl _) _)
      have HO1 := gh (World.ownsRow_made (e := 44) (size := 19) W4 #[] 0 (Nat.le_refl _) (by unfold maxLen; omega) rfl)
      have hcs : (oa = none /\ a = 0 /\ N = 0 /\ oc = 0) \/ (∃ rg, oa = some ⟨rg, 0, none⟩ /\ N <= oc) := by
       rcases hro.2 with ⟨e,h0⟩ | ⟨rg,cap,cur,e,_,_,hc,_⟩
       ·injection e with e1 e2 e3
        exact .inl ⟨e1,by omega,h0,e3⟩
       ·injection e with e1 e2 e3
        exact .inr ⟨rg,e1,by rw [e3]; exact hc⟩
      have hoc : a <= oc := by rcases hcs with ⟨_,h1,_,h3⟩ | ⟨_,_,h⟩ <;> omega
      clear hro
      go_upto_region 15 with fail
      go_cut [14] (fun rv wx => ∃ (A2 : Option Addr) (c2 : Nat),rv = .slice A2 (us.drop a).length c2 /\ Hid (Below W4.heap.size W4 wx) /\ Hid (wx.ownsRow W4.heap.size 44 19 (.slice A2 (us.drop a).length c2) (us.drop a).length (recE.row (us.drop a))))
      case first =>
       rcases hcs with ⟨rfl,rfl,rfl,rfl⟩ | ⟨rg,rfl,hac⟩
       ·have hck : True := trivial
        go_wp2_with (first
         | (at_builtin; refine wpList_append_any _ rfl _ _ 30 rfl W4.heap.size 44 i0 _ 19 232 Tryz.underlying30 HI0.o HIZ.o HIS.o HIB.o rfl (by decide) _ 0 [] rfl HO1.o W4.heap.size _ _ _ (recE.row (us.drop 0)) rfl (HRD2.o _ _ (by omega) (fun h => absurd h (by omega))) (recs_one _) (by unfold maxLen; omega) (by omega) (by simp) ?_
            intro v2 w2 hown2 hgrow2 hloc2
            have hbel2 : Below W4.heap.size W4 w2 := ((Below.refl W4.heap.size W4).alloc (Nat.le_refl _) (.cells #[] 44)).grown hgrow2 (by simp) (fun j hj => own_ge HO1.o hj)
            have hown2b : w2.ownsRow W4.heap.size 44 19 v2 (us.drop 0).length (recE.row (us.drop 0)) := by rw [List.length_drop, <- HN2.o]; simpa using hown2
            obtain ⟨A2,c2,rfl⟩ := row_form hown2b)
         | fail)
        go_meet
        exact ⟨A2,c2,by first | rfl | (rw [List.length_drop]),gh hbel2,gh hown2b⟩
       ·by_cases hck : oc = a
        ·obtain rfl : a = N := by omega
         subst hck
         go_wp2_with (first
          | (at_builtin; refine wpList_append_any _ rfl _ _ 30 rfl W4.heap.size 44 i0 _ 19 232 Tryz.underlying30 HI0.o HIZ.o HIS.o HIB.o rfl (by decide) _ 0 [] rfl HO1.o W4.heap.size _ _ _ (recE.row (us.drop oc)) rfl (HRD2.o _ _ (by omega) (fun h => absurd h (by omega))) (recs_one _) (by unfold maxLen; omega) (by omega) (by simp) ?_
             intro v2 w2 hown2 hgrow2 hloc2
             have hbel2 : Below W4.heap.size W4 w2 := ((Below.refl W4.heap.size W4).alloc (Nat.le_refl _) (.cells #[] 44)).grown hgrow2 (by simp) (fun j hj => own_ge HO1.o hj)
             have hown2b : w2.ownsRow W4.heap.size 44 19 v2 (us.drop oc).length (recE.row (us.drop oc)) := by rw [List.length_drop, <- HN2.o]; simpa using hown2
             obtain ⟨A2,c2,rfl⟩ := row_form hown2b)
          | fail)
         go_meet
         exact ⟨A2,c2,by first | rfl | (rw [List.length_drop]),gh hbel2,gh hown2b⟩
        ·
         go_wp2_with (first
          | (at_builtin; refine wpList_append_any _ rfl _ _ 30 rfl W4.heap.size 44 i0 _ 19 232 Tryz.underlying30 HI0.o HIZ.o HIS.o HIB.o rfl (by decide) _ 0 [] rfl HO1.o W4.heap.size _ _ _ (recE.row (us.drop a)) rfl (HRD2.o _ _ (by omega) (fun _ => ⟨rg, rfl, rfl⟩)) (recs_one _) (by unfold maxLen; omega) (by omega) (by simp) ?_
             intro v2 w2 hown2 hgrow2 hloc2
             have hbel2 : Below W4.heap.size W4 w2 := ((Below.refl W4.heap.size W4).alloc (Nat.le_refl _) (.cells #[] 44)).grown hgrow2 (by simp) (fun j hj => own_ge HO1.o hj)
             have hown2b : w2.ownsRow W4.heap.size 44 19 v2 (us.drop a).length (recE.row (us.drop a)) := by rw [List.length_drop, <- HN2.o]; simpa using hown2
             obtain ⟨A2,c2,rfl⟩ := row_form hown2b)
          | fail)
         go_meet
         exact ⟨A2,c2,by first | rfl | (rw [List.length_drop]),gh hbel2,gh hown2b⟩
      case rest =>
       obtain ⟨A2,c2,rfl,HW2,HOD2⟩ := hcut; obtain ⟨w2,hw2⟩ : ∃ w2 : World,w2 = wc := ⟨_,rfl⟩; rw [<- hw2] at HW2 HOD2 ⊢; clear hw2; have hbel2 := HW2.o; have hown2b := HOD2.o; have hbx2 := HBX.o.below hbel2 HBX.o.lt; have HB2 := gh (HB4.o.trans (hbel2.mono HB4.o.size)); have hzW := hbel2.size; have HRT2 := gh (HRT.o.below hbel2); have HB24 := gh hbel2; obtain ⟨D,hD⟩ := gXe (us.drop a); obtain ⟨Tk,hTk⟩ := gXe (us.take a); rw [<- hD] at hown2b HINS ⊢; rw [<- hTk] at HRT2 HINS; have HOD := gh hown2b; have HDE := gh hD; have HTE := gh hTk; have hDl : D.length + a = N := by rw [hD,List.length_drop, <- HN2.o] <;> omega
       have hTl : Tk.length = a := by rw [hTk,List.length_take, <- HN2.o] <;> omega
       have HLD : Hid (∀ Y,Below w2.heap.size w2 Y -> (Instr.loadAt 39 (.pointer (some ⟨X, 0,none⟩))).run Tryz.prog Y = .ok (.agg u.cells.toArray) Y) := gh (fun Y hY => run_loadAt_mid Y X 0 39 u.cells _ (fun j v hv => by rw [hY.cell (p := ⟨X, 0 + j,none⟩) hbx2.lt,hbx2.cell (0 + j)]; simpa using hv) Tryz.underlying39 rfl cmd_info)
       have hXl : X < w2.heap.size := hbx2.lt; clear hbel2 hown2b hD hTk hbx2 HO1 HRD2 HRT HW2 HOD2 hcs
       go_wp2_with fail
       refine wp_region_held_drew (S := (fun Y => Below w2.heap.size w2 Y)) (by kernel_rfl) ((Below.refl w2.heap.size w2).drew) (fun hHeld => ?_)
       refine gT (i := 0) (d := some 95) (v := ?_) rfl rfl (by kernel_rfl) (fun _ _ _ h => h) (by rfl) ?_ hHeld ?_
       rotate_left
       ·(intro w yS; (try dsimp only at yS); go_simp; try with_reducible rfl)
       try simp only [Act.put,gX3,gX4,gX5]
       refine gT (i := 1) (d := some 96) (v := ?_) rfl rfl (by kernel_rfl) (fun _ _ _ h => h) (by rfl) ?_ hHeld ?_
       rotate_left
       ·(intro w yS; (try dsimp only at yS); go_simp; try with_reducible rfl)
       try simp only [Act.put,gX3,gX4,gX5]
       refine gT (i := 2) (d := some 97) (v := ?_) rfl rfl (by kernel_rfl) (fun _ _ _ h => h) (by rfl) ?_ hHeld ?_
       rotate_left
       ·(intro w yS; (try dsimp only at yS); go_simp; try with_reducible rfl)
       try simp only [Act.put,gX3,gX4,gX5]
       refine gT (i := 3) (d := some 98) (v := ?_) rfl rfl (by kernel_rfl) (fun _ _ _ h => h) (by rfl) ?_ hHeld ?_
       rotate_left
       ·(intro w yS; (try dsimp only at yS); go_simp; try with_reducible rfl)
       try simp only [Act.put,gX3,gX4,gX5]
       refine gT (i := 4) (d := some 99) (v := ?_) rfl rfl (by kernel_rfl) (fun _ _ _ h => h) (by rfl) ?_ hHeld ?_
       rotate_left
       ·(intro w yS; (try dsimp only at yS); go_simp; try with_reducible rfl)
       try simp only [Act.put,gX3,gX4,gX5]
       refine gT (i := 5) (d := some 100) (v := ?_) rfl rfl (by kernel_rfl) (fun _ _ _ h => h) (by rfl) ?_ hHeld ?_
       rotate_left
       ·(intro w yS; (try dsimp only at yS); go_simp; try with_reducible rfl)
       try simp only [Act.put,gX3,gX4,gX5]
       refine gT (i := 6) (d := some 101) (v := .agg u.cells.toArray) rfl rfl (by kernel_rfl) gf (by rfl) (fun w yS => exec_load _ _ rfl (HLD.o w yS)) hHeld ?_
       try simp only [Act.put,gX3,gX4,gX5]
       refine gT (i := 7) (d := some 102) (v := .agg (Rc.mk Q (i : Int) u).cells.toArray) rfl rfl (by kernel_rfl) gf (by rfl) (fun w yS => exec_build _ _ _ _ rfl (by kernel_rfl) (built_recq Q (i : Int) u)) hHeld ?_
       try simp only [Act.put,gX3,gX4,gX5]
       refine gT (i := 10) (d := some 105) (v := ?_) rfl rfl (by kernel_rfl) (fun _ _ _ h => h) (by rfl) ?_ hHeld ?_
       rotate_left
       ·(intro w yS; (try dsimp only at yS); go_simp; try with_reducible rfl)
       try simp only [Act.put,gX3,gX4,gX5]
       refine held_only (i := 8) (by kernel_rfl) rfl (by rfl) (fun K hK => ?_)
       refine wp_buildSliceAs 30 44 1 _ _ _ rfl (by kernel_rfl) Tryz.underlying30 (built_recsq ⟨Q, (i : Int),u⟩) ?_
       refine hK.out _ _ (hHeld.alloc hHeld.size _) (fun hHeld => ?_)
       clear hK K; try simp only [Act.put,gX3,gX4,gX5]
       have hr3 := (HRT2.o.drew).alloc (by exact hzW) (.cells (Rc.mk Q (i : Int) u).cells.toArray 44)
       refine held_only (i := 9) (by kernel_rfl) rfl (by rfl) (fun K hK => ?_)
       refine wp_append_full _ _ _ 30 rfl 44 i0 _ 19 232 Tryz.underlying30 HI0.o HIZ.o HIS.o HIB.o rfl (by decide) _ _ a (recE.row Tk) rfl hr3 ⟨w2.heap.size, 0,none⟩ 1 1 (Rc.mk Q (i : Int) u).cells rfl rfl (cells_new w2.drew (Rc.mk Q (i : Int) u).cells 44) (recE.one ⟨Q, (i : Int),u⟩) (by omega) (by unfold maxLen; omega) (by omega) ?_
       intro v4 w4 hown4 hgrow4; have hbel4 : Below w2.heap.size w2 w4 := hHeld.grown hgrow4 hHeld.size (fun j hj => by cases hj)
       have hz4 : w2.heap.size + 1 <= w4.heap.size := by have := hgrow4.size; rw [alloc_size'] at this; exact this
       have hrd4 := Reads.of_own (own_later HOD.o hbel4); have hown4b : w4.ownsRow (w2.heap.size + 1) 44 19 v4 (a + 1) (recE.row Tk ++ (Rc.mk Q (i : Int) u).cells) := by have := hown4; rw [alloc_size'] at this; exact this
       have HO4 := gh hown4b; have HRD4 := gh hrd4; have HBL4 := gh hbel4; clear hr3 hown4 hgrow4 hown4b hrd4; refine hK.out _ _ hbel4 (fun hHeld => ?_)
       clear hK K hbel4; try simp only [Act.put,gX3,gX4,gX5]
       refine held_only (i := 11) (by kernel_rfl) rfl (by rfl) (fun K hK => ?_)
       refine wp_append_any _ _ _ 30 rfl (w2.heap.size + 1) 44 i0 _ 19 232 Tryz.underlying30 HI0.o HIZ.o HIS.o HIB.o rfl (by decide) _ (a + 1) _ rfl HO4.o _ _ D.length _ (recE.row D) rfl HRD4.o (recs_one D) (by unfold maxLen; omega) (by omega) hz4 ?_
       intro v5 w5 hown5 hgrow5 hloc5; have hbel5 : Below w2.heap.size w2 w5 := HBL4.o.grown hgrow5 HBL4.o.size (fun j hj => by have := own_ge HO4.o hj; omega)
       have HO5 := gh hown5; have HBL5 := gh hbel5; clear hown5 hgrow5 hloc5; refine hK.out _ _ hbel5 (fun hHeld => ?_)
       clear hK K hbel5; try simp only [Act.put,gX3,gX4,gX5]
       refine gT (i := 12) (d := some 3) (v := ?_) rfl rfl (by kernel_rfl) (fun _ _ _ h => h) (by rfl) ?_ hHeld ?_
       rotate_left
       ·(intro w yS; (try dsimp only at yS); go_simp; try with_reducible rfl)
       try simp only [Act.put,gX3,gX4,gX5]
       refine wpAnyH_done (by kernel_rfl) ?_ _
       have HRF : Hid (RRow w5 w.heap.size (w2.heap.size + 1) v5 (Tk ++ ⟨Q, (i : Int), u⟩ :: D)) := gh (by
        refine ⟨?_,fun y hy => ?_, .inl (by have := HB2.o.size; have := HB1.o.size; omega)⟩
        ·have e1 : (Tk ++ (⟨Q, (i : Int), u⟩ : Rc) :: D).length = a + 1 + D.length := by rw [List.length_append, List.length_cons, hTl]; omega
         have e2 : recE.row (Tk ++ (⟨Q, (i : Int), u⟩ : Rc) :: D) = recE.row Tk ++ (Rc.mk Q (i : Int) u).cells ++ recE.row D := by
          unfold Elem.row; rw [List.flatMap_append,List.flatMap_cons,List.append_assoc]
          rfl
         rw [e1,e2]; exact HO5.o
        ·have hb45 := ((Below.refl W4.heap.size W4).trans (HB24.o)).trans (HBL5.o.mono hzW)
         have hin : ∀ z,z ∈ us -> z.In w5 /\ z.Sep (fun b => w.heap.size <= b) := fun z hz => ((HR4.o.below hb45).each z hz)
         rcases List.mem_append.1 hy with hy | hy
         ·exact hin y (List.mem_of_mem_take (by rw [<- HTE.o]; exact hy))
         ·rcases List.mem_cons.1 hy with rfl | hy
          ·exact ⟨⟨⟨by show (-9223372036854775808 : Int) <= Q; omega,by show Q <= 9223372036854775807; omega⟩,⟨by show (-9223372036854775808 : Int) <= (i : Int); omega,by show (i : Int) <= 9223372036854775807; omega⟩,HUI.o.below hb45⟩,HUS.o⟩
          ·exact hin y (List.mem_of_mem_drop (by rw [<- HDE.o]; exact hy)))
       have HMF : Hid ((Tk ++ (⟨Q, (i : Int), u⟩ : Rc) :: D).map Rc.erase = insAll (gotL H i (k + 1))) := gh (by
        have hks' : k < (segL H i).length := hks; rw [gotL_succ hks',insAll_snoc, <- HX.o, <- HINS.o,insR_erase,HUE.o]
        congr 1
        unfold Rc.erase He.rc; rw [HUE2.o,HQ.o,HP.o,HXL.o])
       have HBF := gh (HB2.o.trans (HBL5.o.mono HB2.o.size)); clear hHeld
       go_wp2
       go_roundw
       case rel => exact ⟨k + 1,_,_,by omega,by go_num,HRF,HMF,HBF⟩
       case measure => simp [intOf]; omega
    ·obtain rfl : k = m := by omega
     have t1 : decide ((k : Int) < (k : Int)) = false := by simp
     obtain ⟨oa,oc,rfl⟩ := HRW.o.form; have HMF : Hid (us.map Rc.erase = insAll ((inSegs H (i + 1)).map He.rc)) := gh (by rw [HUE.o, <- gotL_end,HMS.o])
     have HBF := gh (HB1.o.trans (HBL.o.mono HB1.o.size)); clear hkm
     go_wp2_with fail
     go_roundw
     case rel => exact ⟨i + 1,B,us,by omega,by go_num,HRW,HMF,HBF⟩
     case measure => simp [intOf]; omega
  ·obtain rfl : i = n := by omega
   have t1 : decide ((i : Int) < (i : Int)) = false := by simp
   obtain ⟨oa,oc,rfl⟩ := HRW.o.form; have HMF : Hid (us.map Rc.erase = H.map He.rc) := gh (by rw [HUE.o,HN.o]; exact HFIN.o)
   clear hlt
   go_wp2
   go_ret
   exact ⟨B,_,us,rfl,HBL.o,HRW.o,HMF.o⟩
end Go.Proofs.YtaamihdibpioaaaGreat.Jf
namespace Go.Proofs.YtaamihdibpioaaaGreat.Jf
open Go.RowKit Go.Proofs.YtaamihdibpioaaaGreat.Ref17 Go.Proofs.YtaamihdibpioaaaGreat.Jr Go.Proofs.YtaamihdibpioaaaGreat.Crc Go.Proofs.YtaamihdibpioaaaGreat.Pk Go.Proofs.YtaamihdibpioaaaGreat.Rf
def RRecov (s : Jt) (H : List He) (q d g : Nat) (w : World) (e : Ending) (w' : World) : Prop :=
 ∃ (Z B : Nat) (v : Value) (us : List Rc),e = .returned v /\ Keeps2 w w' q g /\ RJ w' q d g (jRecover s H) /\ RRow w' Z B v us /\ us.map Rc.erase = H.map He.rc
theorem rrecover_any (q d g : Nat) (s : Jt) (H : List He) (r : Nat -> ByteArray) (w : World) (h : RJ w q d g s) (hh : Hist s.n s.rows H r) (hs : ∀ h, h ∈ H -> h.seq < 4294967296) (hH : H.length <= 10000) :
  Calls Tryz.prog 19 #[.pointer (some ⟨q, 0,none⟩)] w fun e w' => RRecov s H q d g w e w' := by
 have hn8 := h.dk.n8; have hne := h.ne; have hcut := fun i (hi : i <= s.n) => hist_cut h.dk hh i hi
 have hck := fun i => cutAll_dk h.dk i
 have hrow : ∀ (i : Nat) (W : World), i < s.n -> RJ W q d g ⟨s.n, cutAll s.n s.rows i, s.next, s.torn⟩ -> W.cell? ⟨g, i, none⟩ = some (.string (rowOf (cutAll s.n s.rows i) (i : Int))) := fun i W hi hj => by
  have hsg : isSeg s.n (i : Int) = true := by unfold isSeg; simp; omega
  obtain ⟨k,e,_,hc,_⟩ := hj.db.at_ hsg; obtain rfl : i = k := by omega
  rw [rowOf_take (hck i) hsg] at hc; exact hc
 have hal := fun (i : Nat) (hi : i < s.n) (W : World) => rall_any (rowOf (cutAll s.n s.rows i) (i : Int)) W (by have := rowOf_size (hck i) (i : Int); omega)
 have hha := fun (i : Nat) (hi : i < s.n) => (hcut i (by omega)).all hi
 have hct := fun (i : Nat) (hi : i < s.n) (W : World) (hj : RJ W q d g ⟨s.n,cutAll s.n s.rows i,s.next,s.torn⟩) => ref_cut hj.db (hck i) (i : Int) ((cat (segOf H i)).size : Int)
 have hnx := fun (i : Nat) (hi : i < s.n) => show cutR s.n (cutAll s.n s.rows i) (i : Int) ((cat (segOf H i)).size : Int) = cutAll s.n s.rows (i + 1) from by
  show _ = cutR s.n (cutAll s.n s.rows i) (i : Int) (allOf (rowOf (cutAll s.n s.rows i) (i : Int))).2
  rw [(hcut i (by omega)).all hi]
 have hrc := fun (W : World) (hj : RJ W q d g ⟨s.n,cutAll s.n s.rows s.n,s.next,false⟩) => rrecs_any q d g ⟨s.n,cutAll s.n s.rows s.n,s.next,false⟩ H _ W hj (hcut s.n (Nat.le_refl _)) hs hH
 have h0 : RJ w q d g ⟨s.n,cutAll s.n s.rows 0,s.next,s.torn⟩ := h; have HNL := gh (nextOf_le hs); obtain ⟨n,hn⟩ := gXe (s.n); rw [<- hn] at hn8; have hql := h.lt; have HROW := gh hrow; have HAL := gh hal; have HHA := gh hha; have HCT := gh hct; have HNX := gh hnx; have HRC := gh hrc; have HCK := gh hck; have H0 := gh h0; have HN := gh hn; have HHL := gh hH; have HNE := gh hne; have HQL := gh hql; clear hrow hal hha hct hnx hrc hck h0 hn hcut h hh hs hH hne hql
 go_enter Tryz.func19,Tryz.ntmps19
 go_wp2_with fail
 go_loopw [3] (fun iv wr => ∃ (i : Nat),i <= n /\ iv = .int .i64 (i : Int) /\ Hid (RJ wr q d g ⟨s.n,cutAll s.n s.rows i,s.next,s.torn⟩) /\ Hid (Keeps2 w wr q g)) (fun iv _ => n - (intOf iv).toNat)
 case atStart => exact ⟨0,by omega,rfl,H0,gh (Keeps2.refl _ _ _)⟩
 case round =>
  obtain ⟨i,hi,rfl,HJ,HK⟩ := hrel; have j0 := HJ.o.jb.cell 0; have d0 := HJ.o.db.c0
  simp at j0
  simp only at d0; rw [<- HN.o] at d0
  by_cases hlt : i < n
  ·have his : i < s.n := by rw [<- HN.o]; exact hlt
   have hk0 : (0 : Int) <= (i : Int) := by omega
   have hk1 : (i : Int) < (n : Int) := by omega
   have g1 := HROW.o i wr his HJ.o; have HA := gh (HAL.o i his wr); have hha := HHA.o i his; obtain ⟨R,hR⟩ := gXe (rowOf (cutAll s.n s.rows i) (i : Int)); rw [<- hR] at g1 HA hha; have HHA1 := gh hha; clear hha hR
   go_wp2_with fail
   refine HA.o.mono ?_; clear HA; rintro e w1 hal; unfold Alled at hal; rw [HHA1.o] at hal; obtain ⟨fv,rfl,hown,hb1⟩ := hal; obtain ⟨fa,fc,rfl⟩ := row_form hown; have hj1 := HJ.o.below hb1; have HC1 := gh (HCT.o i his w1 hj1); have HJ1 := gh hj1; have HK1 := gh (HK.o.trans (Keeps2.of_below hb1 q g)); clear hown hb1 hj1 j0 d0 g1; have j0 := HJ1.o.jb.cell 0
   simp at j0
   go_wp2_with fail
   refine HC1.o.mono ?_; rintro e w2 ⟨rfl,ho2,hd2⟩
   have HJ2 : Hid (RJ w2 q d g ⟨s.n, cutAll s.n s.rows (i + 1), s.next, s.torn⟩) := gh (by
    rw [HNX.o i his] at hd2; exact ⟨HJ1.o.jb.grown ho2 (by simp; exact HNE.o.2.1),hd2,HCK.o (i + 1)⟩)
   have HK2 := gh (HK1.o.trans (Keeps2.of_only2 ho2)); clear ho2 hd2 HC1 j0
   go_wp2
   go_roundw
   case rel => exact ⟨i + 1,by omega,by go_num,HJ2,HK2⟩
   case measure => simp [intOf]; omega
  ·obtain rfl : i = n := by omega
   have t1 : decide ((i : Int) < (i : Int)) = false := by simp
   have hjn : RJ wr q d g ⟨s.n, cutAll s.n s.rows s.n, s.next, s.torn⟩ := by
    have := HJ.o; rw [HN.o] at this; exact this
   obtain ⟨W,hW⟩ := gXe (wr.setCell ⟨q, 2,none⟩ (.bool false)); have hoq : Only wr W q := by rw [hW]; exact (Only.refl _ _).set_ (p := ⟨q, 2,none⟩) (.inl rfl) _
   have hjW : RJ W q d g ⟨s.n,cutAll s.n s.rows s.n,s.next,false⟩ := ⟨by rw [hW]; exact hjn.jb.set_ 2 _,hjn.db.grown hoq (by simp; exact fun e => HNE.o.1 e.symm) (by simp; exact fun e => HNE.o.2.1 e.symm),hjn.dk⟩
   have j2 := hjn.jb.cell 2; have f2 := hjn.jb.frozen 2
   simp at j2
   have HRR := gh (HRC.o W hjW); have HJW := gh hjW; have HW := gh hW; have HKW := gh (HK.o.trans (Keeps2.of_only1 (d := g) hoq)); clear hjn hoq hjW hW hlt
   go_upto_region 7 with fail
   rw [<- HW.o]; clear j2 f2 j0 d0
   go_wp2_with fail
   refine HRR.o.mono ?_; rintro e w1 ⟨B,v,us,rfl,hb1,hr1,hm1⟩; obtain ⟨oa,oc,rfl⟩ := hr1.form; have hj1 := HJW.o.below hb1; obtain ⟨W2,hW2⟩ := gXe (w1.setCell ⟨q, 1,none⟩ (.int .i64 1)); have hoq : Only w1 W2 q := by rw [hW2]; exact (Only.refl _ _).set_ (p := ⟨q, 1,none⟩) (.inl rfl) _
   have hj2 : RJ W2 q d g ⟨s.n,cutAll s.n s.rows s.n, 1,false⟩ := ⟨by rw [hW2]; exact hj1.jb.set_ 1 _,hj1.db.grown hoq (by simp; exact fun e => HNE.o.1 e.symm) (by simp; exact fun e => HNE.o.2.1 e.symm),hj1.dk⟩
   have j1 := hj1.jb.cell 1; have f1 := hj1.jb.frozen 1
   simp at j1
   have hzq : q < w1.heap.size := hj1.jb.lt; have HRW := gh hr1; have HM := gh hm1; have HJ2 := gh hj2; have HW2 := gh hW2; have HOQ := gh hoq; have HK2 := gh ((HKW.o.trans (Keeps2.of_below hb1 q g)).trans (Keeps2.of_only1 (d := g) hoq)); have hr2 : RRow W2 W.heap.size B (.slice oa us.length oc) us := by rw [hW2]; exact hr1.set_ (p := ⟨q, 1,none⟩) HJW.o.jb.lt _
   have HR2 := gh hr2; clear hj1 hoq hj2 hW2 hb1 hr1 hm1 hr2
   go_upto_region 9 with fail
   rw [<- HW2.o]; clear j1 f1
   have hul : us.length <= 10000 := by
    have := congrArg List.length HM.o; rw [List.length_map,List.length_map] at this; have := HHL.o
    omega
   by_cases h0 : us.length = 0
   ·have HJF : Hid (RJ W2 q d g (jRecover s H)) := gh (by
     have hnx : nextOf H = 1 := by
      have := congrArg List.length HM.o; rw [List.length_map,List.length_map,h0] at this; rw [List.eq_nil_of_length_eq_zero this.symm]
      rfl
     unfold jRecover; rw [hnx]; exact HJ2.o)
    have hr := HR2.o; rw [h0] at hr ⊢; have HR3 := gh hr; clear hr
    go_wp2
    go_ret
    exact ⟨_,B,_,us,rfl,HK2.o,HJF.o,HR3.o,HM.o⟩
   ·obtain ⟨k, hk⟩ : ∃ k, us.length = k + 1 := ⟨us.length - 1, by omega⟩
    obtain ⟨hku,hseq⟩ := last_seq HM.o hk; obtain ⟨rg,rfl,hrc,hrB,hrl,hrr⟩ := rec_range HR2.o.own hku; have r0 := hrr 0 _ rfl; rw [Nat.add_zero] at r0; obtain ⟨y,hy⟩ := gXe ((us[k]'hku).seq); have r0' : W2.cell? ⟨rg,k * 19,none⟩ = some (.int .i64 y) := by rw [hy]; exact r0
    rw [<- hy] at hseq; have hr := HR2.o; rw [hk] at hr hrc ⊢; have HR3 := gh hr; have j2 := HJ2.o.jb.cell 1; have g2 := HJ2.o.jb.frozen 1
    simp at j2
    have hnl := HNL.o; have hq1 : -9223372036854775808 <= y + 1 := by omega
    have hq2 : y + 1 <= 9223372036854775807 := by omega
    have hw1 : IntKind.i64.wrap (y + 1) = y + 1 := IntWalk.i64_in _ ⟨hq1,hq2⟩; have hkl : k <= 9999 := by omega
    have hk0 : (0 : Int) < ((k : Int) + 1) := by omega
    have hoq : Only W2 (W2.setCell ⟨q, 1,none⟩ (.int .i64 (y + 1))) q := (Only.refl _ _).set_ (p := ⟨q, 1,none⟩) (.inl rfl) _
    have HJF : Hid (RJ (W2.setCell ⟨q, 1, none⟩ (.int .i64 (y + 1))) q d g (jRecover s H) /\ Keeps2 w (W2.setCell ⟨q, 1, none⟩ (.int .i64 (y + 1))) q g /\ RRow (W2.setCell ⟨q, 1, none⟩ (.int .i64 (y + 1))) W.heap.size B (.slice (some ⟨rg, 0, none⟩) (k + 1) oc) us) := gh (by
     refine ⟨⟨?_,HJ2.o.db.grown hoq (by simp; exact fun e => HNE.o.1 e.symm) (by simp; exact fun e => HNE.o.2.1 e.symm),HJ2.o.dk⟩,HK2.o.trans (Keeps2.of_only1 hoq),HR3.o.set_ (p := ⟨q, 1,none⟩) HJW.o.jb.lt _⟩
     show Blk _ q 62 #[_, .int .i64 ((nextOf H : Nat) : Int),_]
     rw [<- hseq]; exact HJ2.o.jb.set_ 1 _)
    clear hk hku hseq hy hr h0 hul HROW HAL HHA HCT HNX HRC HCK hnl HNL hrr r0 hoq
    go_wp2
    go_ret
    exact ⟨_,B,_,us,rfl,HJF.o.2.1,HJF.o.1,HJF.o.2.2,HM.o⟩
theorem cm_erase_same {a b : Cm} (h : a.erase = b.erase) : cmSame a b = true := by
 unfold cmSame
 have e1 : a.ints = b.ints := by
  have x1 : a.ints = a.erase.ints := rfl; have x2 : b.ints = b.erase.ints := rfl; rw [x1,x2,h]
 have e2 : a.key.rsame b.key = true := by
  unfold Val.rsame; rw [Val.rord_erase a.key.sz a.key b.key (Nat.le_refl _) (congrArg Cm.key h)]
  rfl
 have e3 : a.v.rsame b.v = true := by
  unfold Val.rsame; rw [Val.rord_erase a.v.sz a.v b.v (Nat.le_refl _) (congrArg Cm.v h)]
  rfl
 rw [decide_eq_true e1,e2,e3]
 rfl
structure RdRow (w : World) (v : Value) (us : List Rc) : Prop where
 own : ∃ B,w.ownsRow B 44 19 v us.length (recE.row us)
 each : ∀ u,u ∈ us -> u.In w
theorem RdRow.below {w w' : World} {v : Value} {us : List Rc} (h : RdRow w v us) (hb : Below w.heap.size w w') : RdRow w' v us := by
 obtain ⟨B,hB⟩ := h.own; exact ⟨⟨B,own_later hB hb⟩,fun u hu => ⟨(h.each u hu).1, (h.each u hu).2.1, (h.each u hu).2.2.below hb⟩⟩
theorem RRow.rd {w : World} {Z B : Nat} {v : Value} {us : List Rc} (h : RRow w Z B v us) : RdRow w v us := ⟨⟨B,h.own⟩,fun u hu => (h.each u hu).1⟩
theorem rsame_any (v1 v2 : Value) (us vs : List Rc) (w : World) (h1 : RdRow w v1 us) (h2 : RdRow w v2 vs) (he : us.map Rc.erase = vs.map Rc.erase) (hl : us.length <= 100000) :
  Calls Tryz.prog 18 #[v1,v2] w fun e w' => BoolBelow true w e w' := by
 obtain ⟨B1,o1⟩ := h1.own; obtain ⟨B2,o2⟩ := h2.own; obtain ⟨a1,c1,rfl⟩ := row_form o1; obtain ⟨a2,c2,rfl⟩ := row_form o2; have hll : us.length = vs.length := by simpa using congrArg List.length he
 obtain ⟨n,hn⟩ := gXe (us.length); have H1 := gh h1; have H2 := gh h2; have O1 := gh o1; have O2 := gh o2; have HE := gh he; have HLL := gh hll; have HN := gh hn; rw [<- hll, <- hn]; rw [<- hn] at hl; clear h1 h2 o1 o2 he hll hn; have t0 : ((n : Int) != (n : Int)) = false := by simp
 go_enter Tryz.func18,Tryz.ntmps18
 go_wp2_with fail
 go_loopw [5] (fun iv wr => ∃ i : Nat,i <= n /\ iv = .int .i64 (i : Int) /\ Hid (Below w.heap.size w wr)) (fun iv _ => n - (intOf iv).toNat)
 case atStart => exact ⟨0,by omega,rfl,gh (Below.refl _ _)⟩
 case round =>
  obtain ⟨i,hi,rfl,HBL⟩ := hrel
  by_cases hlt : i < n
  ·have hiu : i < us.length := by rw [<- HN.o]; exact hlt
   have hiv : i < vs.length := by rw [<- HLL.o]; exact hiu
   have p1 := own_later O1.o HBL.o; have p2 := own_later O2.o HBL.o; obtain ⟨g1,rfl,hc1,_,hg1,hr1⟩ := rec_range p1 hiu; obtain ⟨g2,rfl,hc2,_,hg2,hr2⟩ := rec_range p2 hiv; rw [<- HN.o] at hc1; rw [<- HLL.o, <- HN.o] at hc2; have hk0 : (0 : Int) <= (i : Int) := by omega
   have hk1 : (i : Int) < (n : Int) := by omega
   have hee : (us[i]'hiu).erase = (vs[i]'hiv).erase := by
    have := congrArg (fun l => l[i]?) HE.o
    simpa [hiu,hiv] using this
   have hs : (us[i]'hiu).seq = (vs[i]'hiv).seq := by have h := congrArg Rc.seq hee; exact h
   have hb : (us[i]'hiu).label = (vs[i]'hiv).label := by have h := congrArg Rc.label hee; exact h
   have hcm := cm_erase_same (congrArg Rc.c hee); have hin1 := (((H1.o.below HBL.o)).each _ (List.getElem_mem hiu)).2.2; have hin2 := (((H2.o.below HBL.o)).each _ (List.getElem_mem hiv)).2.2; have HF1 : Hid (∀ Y,Below wr.heap.size wr Y -> Y.cell? ⟨g1,i * 19,none⟩ = some (.int .i64 (us[i]'hiu).seq)) := gh (fun Y hY => by rw [hY.cell (p := ⟨g1,i * 19,none⟩) hg1]; exact hr1 0 _ rfl)
   have HF2 : Hid (∀ Y,Below wr.heap.size wr Y -> Y.cell? ⟨g2,i * 19,none⟩ = some (.int .i64 (us[i]'hiu).seq)) := gh (fun Y hY => by rw [hY.cell (p := ⟨g2,i * 19,none⟩) hg2,hs]; exact hr2 0 _ rfl)
   have HF3 : Hid (∀ Y,Below wr.heap.size wr Y -> Y.cell? ⟨g1,i * 19 + 1,none⟩ = some (.int .i64 (us[i]'hiu).label)) := gh (fun Y hY => by rw [hY.cell (p := ⟨g1,i * 19 + 1,none⟩) hg1]; exact hr1 1 _ rfl)
   have HF4 : Hid (∀ Y,Below wr.heap.size wr Y -> Y.cell? ⟨g2,i * 19 + 1,none⟩ = some (.int .i64 (us[i]'hiu).label)) := gh (fun Y hY => by rw [hY.cell (p := ⟨g2,i * 19 + 1,none⟩) hg2,hb]; exact hr2 1 _ rfl)
   have HL1 : Hid (∀ Y, Below wr.heap.size wr Y -> (Instr.loadAt 39 (.pointer (some ⟨g1, i * 19 + 2, none⟩))).run Tryz.prog Y = .ok (us[i]'hiu).c.agg Y) := gh (fun Y hY =>
    run_loadAt_mid Y g1 (i * 19 + 2) 39 _ _ (fun j v hv => by rw [hY.cell (p := ⟨g1,i * 19 + 2 + j,none⟩) hg1]; exact range_part hr1 (rc_cmd _) j v hv) Tryz.underlying39 rfl cmd_info)
   have HL2 : Hid (∀ Y, Below wr.heap.size wr Y -> (Instr.loadAt 39 (.pointer (some ⟨g2, i * 19 + 2, none⟩))).run Tryz.prog Y = .ok (vs[i]'hiv).c.agg Y) := gh (fun Y hY =>
    run_loadAt_mid Y g2 (i * 19 + 2) 39 _ _ (fun j v hv => by rw [hY.cell (p := ⟨g2,i * 19 + 2 + j,none⟩) hg2]; exact range_part hr2 (rc_cmd _) j v hv) Tryz.underlying39 rfl cmd_info)
   have HSC : Hid (∀ Y, Below wr.heap.size wr Y -> Calls Tryz.prog 13 #[(us[i]'hiu).c.agg, (vs[i]'hiv).c.agg] Y fun e w' => BoolBelow true Y e w') := gh (fun Y hY => by
    have := samec_any (us[i]'hiu).c (vs[i]'hiv).c Y (hin1.below hY) (hin2.below hY); rw [hcm] at this; exact this)
   obtain ⟨A1,hA1⟩ := gXe ((us[i]'hiu).c.agg); obtain ⟨A2,hA2⟩ := gXe ((vs[i]'hiv).c.agg); obtain ⟨Q1,hQ1⟩ := gXe ((us[i]'hiu).seq); obtain ⟨Q2,hQ2⟩ := gXe ((us[i]'hiu).label); rw [<- hA1] at HL1 HSC; rw [<- hA2] at HL2 HSC; rw [<- hQ1] at HF1 HF2; rw [<- hQ2] at HF3 HF4; clear p1 p2 hr1 hr2 hee hs hb hcm hin1 hin2 hA1 hA2 hQ1 hQ2
   go_wp2_with fail
   refine wp_region_held_drew (S := (fun Y => Below wr.heap.size wr Y)) (by kernel_rfl) ((Below.refl wr.heap.size wr).drew) (fun hHeld => ?_)
   refine gT (i := 0) (d := some 17) (v := ?_) rfl rfl (by kernel_rfl) (fun _ _ _ h => h) (by rfl) ?_ hHeld ?_
   rotate_left
   ·(intro w yS; (try dsimp only at yS); go_simp; try with_reducible rfl)
   try simp only [Act.put,gX3,gX4,gX5]
   refine gT (i := 1) (d := some 18) (v := ?_) rfl rfl (by kernel_rfl) (fun _ _ _ h => h) (by rfl) ?_ hHeld ?_
   rotate_left
   ·(intro w yS; (try dsimp only at yS); go_simp; try with_reducible rfl)
   try simp only [Act.put,gX3,gX4,gX5]
   refine gT (i := 2) (d := some 19) (v := ?_) rfl rfl (by kernel_rfl) (fun _ _ _ h => h) (by rfl) ?_ hHeld ?_
   rotate_left
   ·(intro w yS; (try dsimp only at yS); go_simp; try with_reducible rfl)
   try simp only [Act.put,gX3,gX4,gX5]
   refine gT (i := 3) (d := some 20) (v := ?_) rfl rfl (by kernel_rfl) (fun _ _ _ h => h) (by rfl) ?_ hHeld ?_
   rotate_left
   ·(intro w yS; (try dsimp only at yS); go_simp; try with_reducible rfl)
   try simp only [Act.put,gX3,gX4,gX5]
   refine gT (i := 4) (d := some 21) (v := ?_) rfl rfl (by kernel_rfl) (fun _ _ _ h => h) (by rfl) ?_ hHeld ?_
   rotate_left
   ·(intro w yS; (try dsimp only at yS); have y1 := HF1.o w yS; have y2 := HF2.o w yS; have y3 := HF3.o w yS; have y4 := HF4.o w yS; go_simp; try with_reducible rfl)
   try simp only [Act.put,gX3,gX4,gX5]
   refine gT (i := 5) (d := some 22) (v := ?_) rfl rfl (by kernel_rfl) (fun _ _ _ h => h) (by rfl) ?_ hHeld ?_
   rotate_left
   ·(intro w yS; (try dsimp only at yS); go_simp; try with_reducible rfl)
   try simp only [Act.put,gX3,gX4,gX5]
   refine gT (i := 6) (d := some 23) (v := ?_) rfl rfl (by kernel_rfl) (fun _ _ _ h => h) (by rfl) ?_ hHeld ?_
   rotate_left
   ·(intro w yS; (try dsimp only at yS); go_simp; try with_reducible rfl)
   try simp only [Act.put,gX3,gX4,gX5]
   refine gT (i := 7) (d := some 24) (v := ?_) rfl rfl (by kernel_rfl) (fun _ _ _ h => h) (by rfl) ?_ hHeld ?_
   rotate_left
   ·(intro w yS; (try dsimp only at yS); go_simp; try with_reducible rfl)
   try simp only [Act.put,gX3,gX4,gX5]
   refine gT (i := 8) (d := some 25) (v := ?_) rfl rfl (by kernel_rfl) (fun _ _ _ h => h) (by rfl) ?_ hHeld ?_
   rotate_left
   ·(intro w yS; (try dsimp only at yS); go_simp; try with_reducible rfl)
   try simp only [Act.put,gX3,gX4,gX5]
   refine gT (i := 9) (d := some 26) (v := ?_) rfl rfl (by kernel_rfl) (fun _ _ _ h => h) (by rfl) ?_ hHeld ?_
   rotate_left
   ·(intro w yS; (try dsimp only at yS); have y1 := HF1.o w yS; have y2 := HF2.o w yS; have y3 := HF3.o w yS; have y4 := HF4.o w yS; go_simp; try with_reducible rfl)
   try simp only [Act.put,gX3,gX4,gX5]
   refine gT (i := 10) (d := some 27) (v := ?_) rfl rfl (by kernel_rfl) (fun _ _ _ h => h) (by rfl) ?_ hHeld ?_
   rotate_left
   ·(intro w yS; (try dsimp only at yS); go_simp; try with_reducible rfl)
   try simp only [Act.put,gX3,gX4,gX5]
   refine gT (i := 11) (d := some 28) (v := ?_) rfl rfl (by kernel_rfl) (fun _ _ _ h => h) (by rfl) ?_ hHeld ?_
   rotate_left
   ·(intro w yS; (try dsimp only at yS); go_simp; try with_reducible rfl)
   try simp only [Act.put,gX3,gX4,gX5]
   refine gT (i := 12) (d := some 29) (v := ?_) rfl rfl (by kernel_rfl) (fun _ _ _ h => h) (by rfl) ?_ hHeld ?_
   rotate_left
   ·(intro w yS; (try dsimp only at yS); go_simp; try with_reducible rfl)
   try simp only [Act.put,gX3,gX4,gX5]
   refine gT (i := 13) (d := some 30) (v := ?_) rfl rfl (by kernel_rfl) (fun _ _ _ h => h) (by rfl) ?_ hHeld ?_
   rotate_left
   ·(intro w yS; (try dsimp only at yS); go_simp; try with_reducible rfl)
   try simp only [Act.put,gX3,gX4,gX5]
   refine gT (i := 14) (d := some 31) (v := ?_) rfl rfl (by kernel_rfl) (fun _ _ _ h => h) (by rfl) ?_ hHeld ?_
   rotate_left
   ·(intro w yS; (try dsimp only at yS); go_simp; try with_reducible rfl)
   try simp only [Act.put,gX3,gX4,gX5]
   refine gT (i := 15) (d := some 32) (v := ?_) rfl rfl (by kernel_rfl) (fun _ _ _ h => h) (by rfl) ?_ hHeld ?_
   rotate_left
   ·(intro w yS; (try dsimp only at yS); go_simp; try with_reducible rfl)
   try simp only [Act.put,gX3,gX4,gX5]
   refine gT (i := 16) (d := some 33) (v := ?_) rfl rfl (by kernel_rfl) (fun _ _ _ h => h) (by rfl) ?_ hHeld ?_
   rotate_left
   ·(intro w yS; (try dsimp only at yS); have y1 := HF1.o w yS; have y2 := HF2.o w yS; have y3 := HF3.o w yS; have y4 := HF4.o w yS; go_simp; try with_reducible rfl)
   try simp only [Act.put,gX3,gX4,gX5]
   refine gT (i := 17) (d := some 34) (v := ?_) rfl rfl (by kernel_rfl) (fun _ _ _ h => h) (by rfl) ?_ hHeld ?_
   rotate_left
   ·(intro w yS; (try dsimp only at yS); go_simp; try with_reducible rfl)
   try simp only [Act.put,gX3,gX4,gX5]
   refine gT (i := 18) (d := some 35) (v := ?_) rfl rfl (by kernel_rfl) (fun _ _ _ h => h) (by rfl) ?_ hHeld ?_
   rotate_left
   ·(intro w yS; (try dsimp only at yS); go_simp; try with_reducible rfl)
   try simp only [Act.put,gX3,gX4,gX5]
   refine gT (i := 19) (d := some 36) (v := ?_) rfl rfl (by kernel_rfl) (fun _ _ _ h => h) (by rfl) ?_ hHeld ?_
   rotate_left
   ·(intro w yS; (try dsimp only at yS); go_simp; try with_reducible rfl)
   try simp only [Act.put,gX3,gX4,gX5]
   refine gT (i := 20) (d := some 37) (v := ?_) rfl rfl (by kernel_rfl) (fun _ _ _ h => h) (by rfl) ?_ hHeld ?_
   rotate_left
   ·(intro w yS; (try dsimp only at yS); go_simp; try with_reducible rfl)
   try simp only [Act.put,gX3,gX4,gX5]
   refine gT (i := 21) (d := some 38) (v := ?_) rfl rfl (by kernel_rfl) (fun _ _ _ h => h) (by rfl) ?_ hHeld ?_
   rotate_left
   ·(intro w yS; (try dsimp only at yS); have y1 := HF1.o w yS; have y2 := HF2.o w yS; have y3 := HF3.o w yS; have y4 := HF4.o w yS; go_simp; try with_reducible rfl)
   try simp only [Act.put,gX3,gX4,gX5]
   refine gT (i := 22) (d := some 39) (v := ?_) rfl rfl (by kernel_rfl) (fun _ _ _ h => h) (by rfl) ?_ hHeld ?_
   rotate_left
   ·(intro w yS; (try dsimp only at yS); go_simp; try with_reducible rfl)
   try simp only [Act.put,gX3,gX4,gX5]
   refine gT (i := 23) (d := some 40) (v := ?_) rfl rfl (by kernel_rfl) (fun _ _ _ h => h) (by rfl) ?_ hHeld ?_
   rotate_left
   ·(intro w yS; (try dsimp only at yS); go_simp; try with_reducible rfl)
   try simp only [Act.put,gX3,gX4,gX5]
   refine gT (i := 24) (d := some 41) (v := ?_) rfl rfl (by kernel_rfl) (fun _ _ _ h => h) (by rfl) ?_ hHeld ?_
   rotate_left
   ·(intro w yS; (try dsimp only at yS); go_simp; try with_reducible rfl)
   try simp only [Act.put,gX3,gX4,gX5]
   refine gT (i := 25) (d := some 42) (v := ?_) rfl rfl (by kernel_rfl) (fun _ _ _ h => h) (by rfl) ?_ hHeld ?_
   rotate_left
   ·(intro w yS; (try dsimp only at yS); go_simp; try with_reducible rfl)
   try simp only [Act.put,gX3,gX4,gX5]
   refine gT (i := 26) (d := some 43) (v := ?_) rfl rfl (by kernel_rfl) (fun _ _ _ h => h) (by rfl) ?_ hHeld ?_
   rotate_left
   ·(intro w yS; (try dsimp only at yS); go_simp; try with_reducible rfl)
   try simp only [Act.put,gX3,gX4,gX5]
   refine gT (i := 27) (d := some 44) (v := ?_) rfl rfl (by kernel_rfl) (fun _ _ _ h => h) (by rfl) ?_ hHeld ?_
   rotate_left
   ·(intro w yS; (try dsimp only at yS); go_simp; try with_reducible rfl)
   try simp only [Act.put,gX3,gX4,gX5]
   refine gT (i := 28) (d := some 45) (v := ?_) rfl rfl (by kernel_rfl) (fun _ _ _ h => h) (by rfl) ?_ hHeld ?_
   rotate_left
   ·(intro w yS; (try dsimp only at yS); go_simp; try with_reducible rfl)
   try simp only [Act.put,gX3,gX4,gX5]
   refine gT (i := 29) (d := some 46) (v := A1) rfl rfl (by kernel_rfl) gf (by rfl) (fun w yS => exec_load _ _ rfl (HL1.o w yS)) hHeld ?_
   try simp only [Act.put,gX3,gX4,gX5]
   refine gT (i := 30) (d := some 47) (v := ?_) rfl rfl (by kernel_rfl) (fun _ _ _ h => h) (by rfl) ?_ hHeld ?_
   rotate_left
   ·(intro w yS; (try dsimp only at yS); go_simp; try with_reducible rfl)
   try simp only [Act.put,gX3,gX4,gX5]
   refine gT (i := 31) (d := some 48) (v := ?_) rfl rfl (by kernel_rfl) (fun _ _ _ h => h) (by rfl) ?_ hHeld ?_
   rotate_left
   ·(intro w yS; (try dsimp only at yS); go_simp; try with_reducible rfl)
   try simp only [Act.put,gX3,gX4,gX5]
   refine gT (i := 32) (d := some 49) (v := ?_) rfl rfl (by kernel_rfl) (fun _ _ _ h => h) (by rfl) ?_ hHeld ?_
   rotate_left
   ·(intro w yS; (try dsimp only at yS); go_simp; try with_reducible rfl)
   try simp only [Act.put,gX3,gX4,gX5]
   refine gT (i := 33) (d := some 50) (v := ?_) rfl rfl (by kernel_rfl) (fun _ _ _ h => h) (by rfl) ?_ hHeld ?_
   rotate_left
   ·(intro w yS; (try dsimp only at yS); go_simp; try with_reducible rfl)
   try simp only [Act.put,gX3,gX4,gX5]
   refine gT (i := 34) (d := some 51) (v := A2) rfl rfl (by kernel_rfl) gf (by rfl) (fun w yS => exec_load _ _ rfl (HL2.o w yS)) hHeld ?_
   try simp only [Act.put,gX3,gX4,gX5]
   refine held_only (i := 35) (by kernel_rfl) rfl (by rfl) (fun K hK => ?_)
   go_simp
   go_at_call 13
   refine (HSC.o _ hHeld).mono ?_; rintro e9 w9 ⟨rfl,hb9⟩; have hHeld9 := hHeld.trans (hb9.mono hHeld.size); refine hK.out _ _ (hHeld9) (fun hHeld => ?_)
   clear hK K; try simp only [Act.put,gX3,gX4,gX5]
   refine gT (i := 36) (d := some 53) (v := ?_) rfl rfl (by kernel_rfl) (fun _ _ _ h => h) (by rfl) ?_ hHeld ?_
   rotate_left
   ·(intro w yS; (try dsimp only at yS); go_simp; try with_reducible rfl)
   try simp only [Act.put,gX3,gX4,gX5]
   refine gT (i := 37) (d := some 54) (v := ?_) rfl rfl (by kernel_rfl) (fun _ _ _ h => h) (by rfl) ?_ hHeld ?_
   rotate_left
   ·(intro w yS; (try dsimp only at yS); go_simp; try with_reducible rfl)
   try simp only [Act.put,gX3,gX4,gX5]
   refine wpAnyH_done (by kernel_rfl) ?_ _
   have HBF := gh (HBL.o.trans (hHeld.mono HBL.o.size)); clear hHeld
   go_wp2
   go_roundw
   case rel => exact ⟨i + 1,by omega,by go_num,HBF⟩
   case measure => simp [intOf]; omega
  ·obtain rfl : i = n := by omega
   have t1 : decide ((i : Int) < (i : Int)) = false := by simp
   clear hlt
   go_wp2
   go_ret
   exact ⟨rfl,HBL.o⟩
end Go.Proofs.YtaamihdibpioaaaGreat.Jf
