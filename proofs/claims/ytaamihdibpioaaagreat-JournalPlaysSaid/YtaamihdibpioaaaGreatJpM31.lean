/- journal: a record's bytes, Write, Crash. -/
import Derived.Test.YtaamihdibpioaaaGreatJpM30
set_option maxRecDepth 100000
set_option maxHeartbeats 40000000
namespace Go.Proofs.YtaamihdibpioaaaGreat.Jr
open Go.RowKit Go.Proofs.YtaamihdibpioaaaGreat.Crc Go.Proofs.YtaamihdibpioaaaGreat.Pk
def encE : Option (List UInt8) -> Int
 | none => 5
 | some l => if 2000 < 4 + l.length then 5 else 0
def jB (s : Jt) (label : Int) (enc : Option (List UInt8)) : Int :=
 bif s.torn then 14 else bif isSeg s.n label then encE enc else 3
theorem jE_eq (s : Jt) (label : Int) (enc : Option (List UInt8)) : jE s label enc = if jB s label enc = 0 then tearE s.n s.rows label (jF s enc) else jB s label enc := by
 unfold jE jB
 cases s.torn with
 | true => rfl
 | false =>
  cases isSeg s.n label with
  | false => rfl
  | true =>
   cases enc with
   | none => rfl
   | some l =>
    show (if 2000 < 4 + l.length then 5 else tearE s.n s.rows label (frameOf (payB s.next l))) = if encE (some l) = 0 then tearE s.n s.rows label (jF s (some l)) else encE (some l)
    by_cases h : 2000 < 4 + l.length
    ·have e : encE (some l) = 5 := by simp only [encE]; rw [if_pos h]
     rw [if_pos h,e]; rfl
    ·have e : encE (some l) = 0 := by simp only [encE]; rw [if_neg h]
     rw [if_neg h,e]; rfl
def jS (s : Jt) (label : Int) (enc : Option (List UInt8)) : ByteArray := if jB s label enc = 0 then jF s enc else ByteArray.empty
def Byted (S : ByteArray) (k : Int) (w : World) (e : Ending) (w' : World) : Prop := e = .returned (.tuple #[.string S, .int .i64 k]) /\ Below w.heap.size w w'
theorem pay_join (n : Nat) (l : List UInt8) : (⟨(num4 n).toArray⟩ : ByteArray) ++ ⟨l.toArray⟩ = payB n l := strB_append (num4 n) l
theorem bytes_any (j d : Nat) (s : Jt) (label : Int) (c : Cm) (w : World) (h : JAt w j d s) (hn : s.next < 1000000000) (hc : c.In w) :
  Calls Tryz.prog 25 #[.pointer (some ⟨j, 0,none⟩), .int .i64 label,c.agg] w fun e w' => Byted (jS s label c.enc) (jB s label c.enc) w e w' := by
 obtain ⟨p4,q4,e4⟩ := hc.2.1.nslice; obtain ⟨p5,q5,e5⟩ := hc.2.1.xslice; obtain ⟨r4,t4,f4⟩ := hc.2.2.nslice; obtain ⟨r5,t5,f5⟩ := hc.2.2.xslice; obtain ⟨C,hC⟩ := gXe (w.heap.size); obtain ⟨W,hW⟩ := gXe (w.alloc (.cells c.cells.toArray 39)); have hb : Below w.heap.size w W := by rw [hW]; exact (Below.refl _ _).alloc (Nat.le_refl _) _
 have hbc : Blk W C 39 c.cells.toArray := by rw [hW,hC]; exact Blk.new _ _ _
 have hcW := hc.below hb; have hJ := h.below hb; have hcm := cmd_any c W hcW
 have hag : c.agg = .agg #[.int .i64 c.k, .int .i64 c.nd, .int .i64 c.il, .int .i64 c.inn, .int .i64 c.n, .int .i64 c.key.k, .int .i64 c.key.n, .float .f64 c.key.f, .string c.key.s, .slice p4 c.key.ns.length q4, .slice p5 c.key.xs.length q5, .int .i64 c.v.k, .int .i64 c.v.n, .float .f64 c.v.f, .string c.v.s, .slice r4 c.v.ns.length t4, .slice r5 c.v.xs.length t5] := by
  unfold Cm.agg Cm.cells Val.cells; rw [e4,e5,f4,f5]; rfl
 have hbc' : Blk W C 39 #[.int .i64 c.k, .int .i64 c.nd, .int .i64 c.il, .int .i64 c.inn, .int .i64 c.n, .int .i64 c.key.k, .int .i64 c.key.n, .float .f64 c.key.f, .string c.key.s, .slice p4 c.key.ns.length q4, .slice p5 c.key.xs.length q5, .int .i64 c.v.k, .int .i64 c.v.n, .float .f64 c.v.f, .string c.v.s, .slice r4 c.v.ns.length t4, .slice r5 c.v.xs.length t5] := by
  unfold Cm.cells Val.cells at hbc; rw [e4,e5,f4,f5] at hbc; exact hbc
 unfold Cm.cells Val.cells at hW; rw [e4,e5,f4,f5] at hW; simp only [List.cons_append,List.nil_append] at hW; rw [hag] at hcm ⊢; have j1 := hJ.jb.cell 1; have j2 := hJ.jb.cell 2; have j3 := hJ.jb.cell 3
 simp at j1 j2 j3
 have hz8 := h.dk.n8; have hz1 := h.dk.n1; have hjl := hJ.jb.lt; obtain ⟨EN,hEN⟩ := gXe (c.enc); rw [<- hEN] at hcm ⊢
 have hls : ∀ l, EN = some l -> l.length <= 1000000 := fun l hl => by
  rw [hEN] at hl; have hl' := hl; unfold Cm.enc at hl'
  cases hA : c.ints.all numOk with
  | false => rw [hA] at hl'; cases hl'
  | true =>
   rw [hA] at hl'; simp only [cond_true] at hl'
   cases hk : someB c.key with
   | none => rw [hk] at hl'; cases hl'
   | some a =>
    rw [hk] at hl'; simp only at hl'
    cases hv : someB c.v with
    | none => rw [hv] at hl'; cases hl'
    | some b =>
     rw [hv] at hl'; injection hl' with hl'; have h1 := someB_len hc.2.1 hk; have h2 := someB_len hc.2.2 hv; have h3 := numsB_len c.ints hA; have h4 : c.ints.length = 5 := rfl; rw [<- hl',List.length_append,List.length_append]
     omega
 obtain ⟨B,hB⟩ := gXe (jB s label EN); obtain ⟨SS,hSS⟩ := gXe (jS s label EN); have hB2 : B = bif s.torn then 14 else bif isSeg s.n label then encE EN else 3 := hB; have hS2 : SS = if B = 0 then jF s EN else ByteArray.empty := by rw [hSS,hB]; rfl
 rw [<- hB, <- hSS]; obtain ⟨T,hT⟩ := gXe (s.torn); rw [<- hT] at j3 hB2; obtain ⟨n,hnn⟩ := gXe (s.n); rw [<- hnn] at j1 hB2 hz8 hz1; obtain ⟨x,hx⟩ := gXe (s.next); rw [<- hx] at j2 hn; have hjb := hJ.jb; rw [<- hT, <- hnn, <- hx] at hjb; have hF : ∀ l,jF s (some l) = frameOf (payB x l) := fun l => by rw [hx]; rfl
 have HC := gh hC; have HW := gh hW; have HB := gh hb; have HBC := gh hbc'; have HCM := gh hcm; have HB2 := gh hB2; have HS2 := gh hS2; have HF := gh hF; have HJ := gh hjb; have HLS := gh hls; clear hC hW hb hbc hbc' hcm hB2 hS2 hF hJ hjb hag hB hSS hT hnn hx hEN e4 e5 f4 f5 hcW hc h hls
 cases T with
 | true =>
  have HBV : Hid (B = 14) := gh (by rw [HB2.o]; rfl)
  have HSV : Hid (SS = ByteArray.empty) := gh (by rw [HS2.o,HBV.o]; rfl)
  go_enter Tryz.func25,Tryz.ntmps25
  go_upto_region 1 with fail
  rw [<- HW.o, <- HC.o]
  go_wp2
  go_ret2
  rw [HBV.o,HSV.o]; exact ⟨rfl,HB.o⟩
 | false =>
  by_cases hl0 : label < 0
  ·have i0 : decide (label < 0) = true := by simpa using hl0
   have HBV : Hid (B = 3) := gh (by rw [HB2.o,show isSeg n label = false by unfold isSeg; simp; omega]; rfl)
   have HSV : Hid (SS = ByteArray.empty) := gh (by rw [HS2.o,HBV.o]; rfl)
   go_enter Tryz.func25,Tryz.ntmps25
   go_upto_region 1 with fail
   rw [<- HW.o, <- HC.o]
   go_wp2
   go_ret2
   rw [HBV.o,HSV.o]; exact ⟨rfl,HB.o⟩
  ·by_cases hln : (n : Int) <= label
   ·have i0 : decide (label < 0) = false := by simpa using hl0
    have i1 : decide ((n : Int) <= label) = true := by simpa using hln
    have HBV : Hid (B = 3) := gh (by rw [HB2.o,show isSeg n label = false by unfold isSeg; simp; omega]; rfl)
    have HSV : Hid (SS = ByteArray.empty) := gh (by rw [HS2.o,HBV.o]; rfl)
    go_enter Tryz.func25,Tryz.ntmps25
    go_upto_region 1 with fail
    rw [<- HW.o, <- HC.o]
    go_wp2
    go_ret2
    rw [HBV.o,HSV.o]; exact ⟨rfl,HB.o⟩
   ·have i0 : decide (label < 0) = false := by simpa using hl0
    have i1 : decide ((n : Int) <= label) = false := by simpa using hln
    have HSG : Hid (isSeg n label = true) := gh (by unfold isSeg; simp; omega)
    have c0 := HBC.o.cell 0; have c1 := HBC.o.cell 1; have c2 := HBC.o.cell 2; have c3 := HBC.o.cell 3; have c4 := HBC.o.cell 4; have c5 := HBC.o.cell 5; have c6 := HBC.o.cell 6; have c7 := HBC.o.cell 7; have c8 := HBC.o.cell 8; have c9 := HBC.o.cell 9; have c10 := HBC.o.cell 10; have c11 := HBC.o.cell 11; have c12 := HBC.o.cell 12; have c13 := HBC.o.cell 13; have c14 := HBC.o.cell 14; have c15 := HBC.o.cell 15; have c16 := HBC.o.cell 16; simp only [gX0,gX1,gX2] at c0 c1 c2 c3 c4 c5 c6 c7 c8 c9 c10 c11 c12 c13 c14 c15 c16
    go_enter Tryz.func25,Tryz.ntmps25
    go_upto_region 1 with fail
    rw [<- HW.o, <- HC.o]
    go_wp2_with fail
    refine HCM.o.mono ?_; rintro e w1 ⟨hb1,rfl⟩; have B1 := gh (HB.o.trans (hb1.mono HB.o.size)); have J1 := gh (HJ.o.below hb1 hjl); clear hb1 c0 c1 c2 c3 c4 c5 c6 c7 c8 c9 c10 c11 c12 c13 c14 c15 c16 j1 j2 j3 HCM
    cases EN with
    | none =>
     have HBV : Hid (B = 5) := gh (by rw [HB2.o,HSG.o]; rfl)
     have HSV : Hid (SS = ByteArray.empty) := gh (by rw [HS2.o,HBV.o]; rfl)
     simp only [cmdS,cmdErr]
     go_wp2
     go_ret2
     rw [HBV.o,HSV.o]; exact ⟨rfl,B1.o⟩
    | some l =>
     have j2 := J1.o.cell 2
     simp at j2
     have hll := HLS.o l rfl; have HNM := gh (number_any x w1 (by omega))
     have hcat : ¬ 9223372036854775807 < (⟨(num4 x).toArray⟩ : ByteArray).size + (⟨l.toArray⟩ : ByteArray).size := by
      have e1 : (⟨(num4 x).toArray⟩ : ByteArray).size = 4 := by rw [<- size_list]; rfl
      have e2 : (⟨l.toArray⟩ : ByteArray).size = l.length := by rw [<- size_list]
      omega
     have hpj := pay_join x l; have HPJ := gh hpj; clear hpj; simp only [cmdS,cmdErr]
     go_wp2_with fail
     refine HNM.o.mono ?_; rintro e w2 ⟨rfl,hb2⟩; have B2 := gh (B1.o.trans (hb2.mono B1.o.size)); clear hb2 HNM
     by_cases hlong : 2000 < 4 + l.length
     ·have HBV : Hid (B = 5) := gh (by rw [HB2.o, HSG.o]; simp only [cond_false, cond_true, encE]; rw [if_pos hlong])
      have HSV : Hid (SS = ByteArray.empty) := gh (by rw [HS2.o,HBV.o]; rfl)
      have HMK := gh (make_bad (payB x l) w2 (by rw [payB_size]; omega) (.inr (by rw [payB_size]; omega)))
      clear hlong
      go_wp2_with fail
      rw [HPJ.o]; refine HMK.o.mono ?_; rintro e w3 ⟨rfl,rfl⟩
      go_wp2
      go_ret2
      rw [HBV.o,HSV.o]; exact ⟨rfl,B2.o⟩
     ·have HBV : Hid (B = 0) := gh (by rw [HB2.o, HSG.o]; simp only [cond_false, cond_true, encE]; rw [if_neg hlong])
      have HSV : Hid (SS = frameOf (payB x l)) := gh (by rw [HS2.o,if_pos HBV.o,HF.o])
      have HMK := gh (make_ok (payB x l) w2 (by rw [payB_size]; omega) (by rw [payB_size]; omega))
      clear hlong
      go_wp2_with fail
      rw [HPJ.o]; refine HMK.o.mono ?_; rintro e w3 ⟨rfl,hb3⟩; have B3 := gh (B2.o.trans (hb3.mono B2.o.size)); clear hb3
      go_wp2
      go_ret2
      rw [HBV.o,HSV.o]; exact ⟨rfl,B3.o⟩
end Go.Proofs.YtaamihdibpioaaaGreat.Jr
namespace Go.Proofs.YtaamihdibpioaaaGreat.Jr
open Go.RowKit Go.Proofs.YtaamihdibpioaaaGreat.Crc Go.Proofs.YtaamihdibpioaaaGreat.Pk
def JDid (k : Int) (s' : Jt) (j d : Nat) (w : World) (e : Ending) (w' : World) : Prop := e = .returned (.int .i64 k) /\ JAt w' j d s' /\ Keeps2 w w' j d
theorem tear_same {n : Nat} {rows : List ByteArray} {i : Int} {s : ByteArray} {keep : Int} (h : tearE n rows i s ≠ 0) : tearR n rows i s keep = rows := by
 unfold tearE at h; unfold tearR
 cases h1 : isSeg n i with
 | false => rfl
 | true =>
  rw [h1] at h
  cases h2 : fits rows i s with
  | false => rfl
  | true => rw [h2] at h; exact absurd rfl h
theorem jF_size {s : Jt} {label : Int} {enc : Option (List UInt8)} (h : jB s label enc = 0) : (jF s enc).size <= 2006 := by
 unfold jB at h
 cases ht : s.torn with
 | true => rw [ht] at h; simp at h
 | false =>
  rw [ht] at h
  cases hs : isSeg s.n label with
  | false => rw [hs] at h; simp at h
  | true =>
   rw [hs] at h
   cases enc with
   | none => simp [encE] at h
   | some l =>
    simp only [cond_false,cond_true,encE] at h
    split at h
    ·omega
    ·have := frame_lenAt (p := payB s.next l) (by rw [payB_size]; omega)
     unfold jF
     show (frameOf (payB s.next l)).size <= 2006
     rw [this,payB_size]
     omega
theorem jwrite_any (j d : Nat) (s : Jt) (label : Int) (c : Cm) (w : World) (h : JAt w j d s) (hn : s.next < 1000000000) (hc : c.In w) :
  Calls Tryz.prog 10 #[.pointer (some ⟨j, 0,none⟩), .int .i64 label,c.agg] w fun e w' => JDid (jE s label c.enc) (jWrite s label c.enc) j d w e w' := by
 obtain ⟨p4,q4,e4⟩ := hc.2.1.nslice; obtain ⟨p5,q5,e5⟩ := hc.2.1.xslice; obtain ⟨r4,t4,f4⟩ := hc.2.2.nslice; obtain ⟨r5,t5,f5⟩ := hc.2.2.xslice; obtain ⟨C,hC⟩ := gXe (w.heap.size); obtain ⟨W,hW⟩ := gXe (w.alloc (.cells c.cells.toArray 39)); have hb : Below w.heap.size w W := by rw [hW]; exact (Below.refl _ _).alloc (Nat.le_refl _) _
 have hbc : Blk W C 39 c.cells.toArray := by rw [hW,hC]; exact Blk.new _ _ _
 have hJ := h.below hb; have hby := bytes_any j d s label c W hJ hn (hc.below hb)
 have hag : c.agg = .agg #[.int .i64 c.k, .int .i64 c.nd, .int .i64 c.il, .int .i64 c.inn, .int .i64 c.n, .int .i64 c.key.k, .int .i64 c.key.n, .float .f64 c.key.f, .string c.key.s, .slice p4 c.key.ns.length q4, .slice p5 c.key.xs.length q5, .int .i64 c.v.k, .int .i64 c.v.n, .float .f64 c.v.f, .string c.v.s, .slice r4 c.v.ns.length t4, .slice r5 c.v.xs.length t5] := by
  unfold Cm.agg Cm.cells Val.cells; rw [e4,e5,f4,f5]; rfl
 have hbc' : Blk W C 39 #[.int .i64 c.k, .int .i64 c.nd, .int .i64 c.il, .int .i64 c.inn, .int .i64 c.n, .int .i64 c.key.k, .int .i64 c.key.n, .float .f64 c.key.f, .string c.key.s, .slice p4 c.key.ns.length q4, .slice p5 c.key.xs.length q5, .int .i64 c.v.k, .int .i64 c.v.n, .float .f64 c.v.f, .string c.v.s, .slice r4 c.v.ns.length t4, .slice r5 c.v.xs.length t5] := by
  unfold Cm.cells Val.cells at hbc; rw [e4,e5,f4,f5] at hbc; exact hbc
 unfold Cm.cells Val.cells at hW; rw [e4,e5,f4,f5] at hW; simp only [List.cons_append,List.nil_append] at hW; rw [hag] at hby ⊢; obtain ⟨EN,hEN⟩ := gXe (c.enc); rw [<- hEN] at hby ⊢; obtain ⟨B,hB⟩ := gXe (jB s label EN); have hSS : B = 0 -> jS s label EN = jF s EN := fun h0 => by unfold jS; rw [<- hB,if_pos h0]
 obtain ⟨SS,hS⟩ := gXe (jS s label EN); have hE := jE_eq s label EN; rw [<- hB] at hE hby; rw [<- hS] at hby hSS; have hFz := fun (h0 : B = 0) => jF_size (s := s) (label := label) (enc := EN) (by rw [<- hB]; exact h0)
 obtain ⟨E,hEE⟩ := gXe (jE s label EN); obtain ⟨TE,hTE⟩ := gXe (tearE s.n s.rows label (jF s EN)); have hst : jWrite s label EN = if E = 0 then { s with rows := tearR s.n s.rows label (jF s EN) ((jF s EN).size : Int),next := s.next + 1 } else s := by rw [hEE]; rfl
 rw [<- hEE, <- hTE] at hE; rw [<- hEE]; have htd := fun (hz : (jF s EN).size <= 2006) (W' : World) (hj : JAt W' j d s) => append_any d s.n s.rows label (jF s EN) W' hj.db hj.dk (by omega)
 rw [<- hTE] at htd; have hsame := fun (ht : TE ≠ 0) => tear_same (n := s.n) (rows := s.rows) (i := label) (s := jF s EN) (keep := ((jF s EN).size : Int)) (by rw [<- hTE]; exact ht)
 obtain ⟨R,hR⟩ := gXe (jWrite s label EN); rw [<- hR] at hst ⊢; have hz : W.heap.size = w.heap.size + 1 := by rw [hW]; simp
 have HC := gh hC; have HW := gh hW; have HBW := gh hb; have HBC := gh hbc'; have HBY := gh hby; have HE := gh hE; have HJ := gh hJ; have HSS := gh hSS; have HFZ := gh hFz; have HST := gh hst; have HTD := gh htd; have HSM := gh hsame; clear hC hW hb hbc hbc' hby hE hJ hSS hFz hst htd hsame hag hEN hB hS hEE hTE hR e4 e5 f4 f5 hc h hz; have c0 := HBC.o.cell 0; have c1 := HBC.o.cell 1; have c2 := HBC.o.cell 2; have c3 := HBC.o.cell 3; have c4 := HBC.o.cell 4; have c5 := HBC.o.cell 5; have c6 := HBC.o.cell 6; have c7 := HBC.o.cell 7; have c8 := HBC.o.cell 8; have c9 := HBC.o.cell 9; have c10 := HBC.o.cell 10; have c11 := HBC.o.cell 11; have c12 := HBC.o.cell 12; have c13 := HBC.o.cell 13; have c14 := HBC.o.cell 14; have c15 := HBC.o.cell 15; have c16 := HBC.o.cell 16; simp only [gX0,gX1,gX2] at c0 c1 c2 c3 c4 c5 c6 c7 c8 c9 c10 c11 c12 c13 c14 c15 c16
 go_enter Tryz.func10,Tryz.ntmps10
 go_upto_region 1 with fail
 rw [<- HW.o, <- HC.o]
 go_wp2_with fail
 refine HBY.o.mono ?_; rintro e w1 ⟨rfl,hb1⟩; have J1 := gh (HJ.o.below hb1); have B1 := gh (HBW.o.trans (hb1.mono HBW.o.size)); clear hb1 c0 c1 c2 c3 c4 c5 c6 c7 c8 c9 c10 c11 c12 c13 c14 c15 c16 HBY HBC
 by_cases h0 : B = 0
 ·obtain rfl := HSS.o h0
  have hz := HFZ.o h0; have HEV : Hid (E = TE) := gh (by rw [HE.o,if_pos h0])
  have HT1 := gh (HTD.o hz w1 J1.o); have j0 := J1.o.jb.cell 0
  simp at j0
  subst h0; clear hz HTD
  go_wp2_with fail
  refine HT1.o.mono ?_; rintro e w2 ⟨rfl,ho2,hd2⟩; have k2 : Keeps2 w w2 j d := (Keeps2.of_below B1.o j d).trans (Keeps2.of_only2 ho2); have hj2 := J1.o.jb.grown ho2 (by simp; exact J1.o.ne)
  have K2 := gh k2; have HJ2 := gh hj2; have HD2 := gh hd2; clear k2 hj2 hd2 ho2 j0 HT1
  by_cases ht : TE = 0
  ·subst ht
   have c2 := HJ2.o.cell 2; have f2 := HJ2.o.frozen 2
   simp at c2
   have hw1 : IntKind.i64.wrap ((s.next : Int) + 1) = ((s.next + 1 : Nat) : Int) := by rw [IntWalk.i64_in _ (by omega)]; omega
   have HF := gh (show JAt (w2.setCell ⟨j, 2, none⟩ (.int .i64 ((s.next + 1 : Nat) : Int))) j d R /\ Keeps2 w (w2.setCell ⟨j, 2, none⟩ (.int .i64 ((s.next + 1 : Nat) : Int))) j d from by
    rw [HST.o,if_pos HEV.o]; refine ⟨⟨HJ2.o.set_ 2 (.int .i64 ((s.next + 1 : Nat) : Int)),HD2.o.far (p := ⟨j, 2,none⟩) (Ne.symm J1.o.ne) _,?_⟩,K2.o.trans (Keeps2.of_only1 ((Only.refl _ _).set_ (p := ⟨j, 2,none⟩) (.inl rfl) _))⟩; exact J1.o.dk.tear _ _ _)
   have HW1 := gh hw1
   go_wp2
   go_ret
   rw [HEV.o]
   first | exact ⟨rfl,HF.o.1,HF.o.2⟩ | (rw [show (s.next : Int) + 1 = ((s.next + 1 : Nat) : Int) from by omega]; exact ⟨rfl,HF.o.1,HF.o.2⟩)
  ·have i1 : (TE == 0) = false := by simpa using ht
   have hsm := HSM.o ht
   have HF := gh (show JAt w2 j d R /\ Keeps2 w w2 j d from by
    rw [HST.o,if_neg (by rw [HEV.o]; exact ht)]
    have hd2 := HD2.o; rw [hsm] at hd2; exact ⟨⟨HJ2.o,hd2,J1.o.dk⟩,K2.o⟩)
   clear hsm
   go_wp2
   go_ret
   rw [HEV.o]; exact ⟨rfl,HF.o.1,HF.o.2⟩
 ·have i0 : (B == 0) = false := by simpa using h0
  have HEV : Hid (E = B) := gh (by rw [HE.o,if_neg h0])
  have HF := gh (show JAt w1 j d R /\ Keeps2 w w1 j d from by
   rw [HST.o,if_neg (by rw [HEV.o]; exact h0)]
   exact ⟨J1.o,Keeps2.of_below B1.o j d⟩)
  go_wp2
  go_ret
  rw [HEV.o]; exact ⟨rfl,HF.o.1,HF.o.2⟩
theorem jcrash_any (j d : Nat) (s : Jt) (label : Int) (c : Cm) (keep : Int) (w : World) (h : JAt w j d s) (hn : s.next < 1000000000) (hc : c.In w) :
  Calls Tryz.prog 11 #[.pointer (some ⟨j, 0,none⟩), .int .i64 label,c.agg, .int .i64 keep] w fun e w' => JDid (jE s label c.enc) (jCrash s label c.enc keep) j d w e w' := by
 obtain ⟨p4,q4,e4⟩ := hc.2.1.nslice; obtain ⟨p5,q5,e5⟩ := hc.2.1.xslice; obtain ⟨r4,t4,f4⟩ := hc.2.2.nslice; obtain ⟨r5,t5,f5⟩ := hc.2.2.xslice; obtain ⟨C,hC⟩ := gXe (w.heap.size); obtain ⟨W,hW⟩ := gXe (w.alloc (.cells c.cells.toArray 39)); have hb : Below w.heap.size w W := by rw [hW]; exact (Below.refl _ _).alloc (Nat.le_refl _) _
 have hbc : Blk W C 39 c.cells.toArray := by rw [hW,hC]; exact Blk.new _ _ _
 have hJ := h.below hb; have hby := bytes_any j d s label c W hJ hn (hc.below hb)
 have hag : c.agg = .agg #[.int .i64 c.k, .int .i64 c.nd, .int .i64 c.il, .int .i64 c.inn, .int .i64 c.n, .int .i64 c.key.k, .int .i64 c.key.n, .float .f64 c.key.f, .string c.key.s, .slice p4 c.key.ns.length q4, .slice p5 c.key.xs.length q5, .int .i64 c.v.k, .int .i64 c.v.n, .float .f64 c.v.f, .string c.v.s, .slice r4 c.v.ns.length t4, .slice r5 c.v.xs.length t5] := by
  unfold Cm.agg Cm.cells Val.cells; rw [e4,e5,f4,f5]; rfl
 have hbc' : Blk W C 39 #[.int .i64 c.k, .int .i64 c.nd, .int .i64 c.il, .int .i64 c.inn, .int .i64 c.n, .int .i64 c.key.k, .int .i64 c.key.n, .float .f64 c.key.f, .string c.key.s, .slice p4 c.key.ns.length q4, .slice p5 c.key.xs.length q5, .int .i64 c.v.k, .int .i64 c.v.n, .float .f64 c.v.f, .string c.v.s, .slice r4 c.v.ns.length t4, .slice r5 c.v.xs.length t5] := by
  unfold Cm.cells Val.cells at hbc; rw [e4,e5,f4,f5] at hbc; exact hbc
 unfold Cm.cells Val.cells at hW; rw [e4,e5,f4,f5] at hW; simp only [List.cons_append,List.nil_append] at hW; rw [hag] at hby ⊢; obtain ⟨EN,hEN⟩ := gXe (c.enc); rw [<- hEN] at hby ⊢; obtain ⟨B,hB⟩ := gXe (jB s label EN); have hSS : B = 0 -> jS s label EN = jF s EN := fun h0 => by unfold jS; rw [<- hB,if_pos h0]
 obtain ⟨SS,hS⟩ := gXe (jS s label EN); have hE := jE_eq s label EN; rw [<- hB] at hE hby; rw [<- hS] at hby hSS; have hFz := fun (h0 : B = 0) => jF_size (s := s) (label := label) (enc := EN) (by rw [<- hB]; exact h0)
 obtain ⟨E,hEE⟩ := gXe (jE s label EN); obtain ⟨TE,hTE⟩ := gXe (tearE s.n s.rows label (jF s EN)); have hst : jCrash s label EN keep = if E = 0 then { s with rows := tearR s.n s.rows label (jF s EN) keep,torn := true } else s := by rw [hEE]; rfl
 rw [<- hEE, <- hTE] at hE; rw [<- hEE]; have htd := fun (hz : (jF s EN).size <= 2006) (W' : World) (hj : JAt W' j d s) => tear_any d s.n s.rows label (jF s EN) keep W' hj.db hj.dk (by omega)
 rw [<- hTE] at htd; have hsame := fun (ht : TE ≠ 0) => tear_same (n := s.n) (rows := s.rows) (i := label) (s := jF s EN) (keep := keep) (by rw [<- hTE]; exact ht)
 obtain ⟨R,hR⟩ := gXe (jCrash s label EN keep); rw [<- hR] at hst ⊢; have hz : W.heap.size = w.heap.size + 1 := by rw [hW]; simp
 have HC := gh hC; have HW := gh hW; have HBW := gh hb; have HBC := gh hbc'; have HBY := gh hby; have HE := gh hE; have HJ := gh hJ; have HSS := gh hSS; have HFZ := gh hFz; have HST := gh hst; have HTD := gh htd; have HSM := gh hsame; clear hC hW hb hbc hbc' hby hE hJ hSS hFz hst htd hsame hag hEN hB hS hEE hTE hR e4 e5 f4 f5 hc h hz; have c0 := HBC.o.cell 0; have c1 := HBC.o.cell 1; have c2 := HBC.o.cell 2; have c3 := HBC.o.cell 3; have c4 := HBC.o.cell 4; have c5 := HBC.o.cell 5; have c6 := HBC.o.cell 6; have c7 := HBC.o.cell 7; have c8 := HBC.o.cell 8; have c9 := HBC.o.cell 9; have c10 := HBC.o.cell 10; have c11 := HBC.o.cell 11; have c12 := HBC.o.cell 12; have c13 := HBC.o.cell 13; have c14 := HBC.o.cell 14; have c15 := HBC.o.cell 15; have c16 := HBC.o.cell 16; simp only [gX0,gX1,gX2] at c0 c1 c2 c3 c4 c5 c6 c7 c8 c9 c10 c11 c12 c13 c14 c15 c16
 go_enter Tryz.func11,Tryz.ntmps11
 go_upto_region 1 with fail
 rw [<- HW.o, <- HC.o]
 go_wp2_with fail
 refine HBY.o.mono ?_; rintro e w1 ⟨rfl,hb1⟩; have J1 := gh (HJ.o.below hb1); have B1 := gh (HBW.o.trans (hb1.mono HBW.o.size)); clear hb1 c0 c1 c2 c3 c4 c5 c6 c7 c8 c9 c10 c11 c12 c13 c14 c15 c16 HBY HBC
 by_cases h0 : B = 0
 ·obtain rfl := HSS.o h0
  have hz := HFZ.o h0; have HEV : Hid (E = TE) := gh (by rw [HE.o,if_pos h0])
  have HT1 := gh (HTD.o hz w1 J1.o); have j0 := J1.o.jb.cell 0
  simp at j0
  subst h0; clear hz HTD
  go_wp2_with fail
  refine HT1.o.mono ?_; rintro e w2 ⟨rfl,ho2,hd2⟩; have k2 : Keeps2 w w2 j d := (Keeps2.of_below B1.o j d).trans (Keeps2.of_only2 ho2); have hj2 := J1.o.jb.grown ho2 (by simp; exact J1.o.ne)
  have K2 := gh k2; have HJ2 := gh hj2; have HD2 := gh hd2; clear k2 hj2 hd2 ho2 j0 HT1
  by_cases ht : TE = 0
  ·subst ht
   have c2 := HJ2.o.cell 3; have f2 := HJ2.o.frozen 3
   simp at c2
   have hw1 : IntKind.i64.wrap ((s.next : Int) + 1) = ((s.next + 1 : Nat) : Int) := by rw [IntWalk.i64_in _ (by omega)]; omega
   have HF := gh (show JAt (w2.setCell ⟨j, 3, none⟩ (.bool true)) j d R /\ Keeps2 w (w2.setCell ⟨j, 3, none⟩ (.bool true)) j d from by
    rw [HST.o,if_pos HEV.o]; refine ⟨⟨HJ2.o.set_ 3 (.bool true),HD2.o.far (p := ⟨j, 3,none⟩) (Ne.symm J1.o.ne) _,?_⟩,K2.o.trans (Keeps2.of_only1 ((Only.refl _ _).set_ (p := ⟨j, 3,none⟩) (.inl rfl) _))⟩; exact J1.o.dk.tear _ _ _)
   have HW1 := gh hw1
   go_wp2
   go_ret
   rw [HEV.o]
   first | exact ⟨rfl,HF.o.1,HF.o.2⟩ | (rw [show (s.next : Int) + 1 = ((s.next + 1 : Nat) : Int) from by omega]; exact ⟨rfl,HF.o.1,HF.o.2⟩)
  ·have i1 : (TE == 0) = false := by simpa using ht
   have hsm := HSM.o ht
   have HF := gh (show JAt w2 j d R /\ Keeps2 w w2 j d from by
    rw [HST.o,if_neg (by rw [HEV.o]; exact ht)]
    have hd2 := HD2.o; rw [hsm] at hd2; exact ⟨⟨HJ2.o,hd2,J1.o.dk⟩,K2.o⟩)
   clear hsm
   go_wp2
   go_ret
   rw [HEV.o]; exact ⟨rfl,HF.o.1,HF.o.2⟩
 ·have i0 : (B == 0) = false := by simpa using h0
  have HEV : Hid (E = B) := gh (by rw [HE.o,if_neg h0])
  have HF := gh (show JAt w1 j d R /\ Keeps2 w w1 j d from by
   rw [HST.o,if_neg (by rw [HEV.o]; exact h0)]
   exact ⟨J1.o,Keeps2.of_below B1.o j d⟩)
  go_wp2
  go_ret
  rw [HEV.o]; exact ⟨rfl,HF.o.1,HF.o.2⟩
end Go.Proofs.YtaamihdibpioaaaGreat.Jr
namespace Go.Proofs.YtaamihdibpioaaaGreat.Pk
open Go.RowKit
def CmdRead (r : Option (Cm × Nat)) (w : World) (e : Ending) (w' : World) : Prop :=
 Below w.heap.size w w' /\ match r with
 | some (c,q) => ∃ u : Cm,e = .returned (.tuple #[u.agg, .int .i64 q, .int .i64 0]) /\ u.erase = c /\ u.In w' /\ u.Sep (fun b => w.heap.size <= b)
 | none => e = .returned (.tuple #[Cm.zero.agg, .int .i64 0, .int .i64 5])
structure RSt (w W : World) (A : Nat) (s : ByteArray) (p : Nat) (xs : List Value) : Prop where
 below : Below A w W
 res : Blk W A 39 [.int .i64 0, .int .i64 0, .int .i64 0, .int .i64 0, .int .i64 0, .int .i64 0, .int .i64 0, .float .f64 0, .string ⟨#[]⟩, .slice none 0 0, .slice none 0 0, .int .i64 0, .int .i64 0, .float .f64 0, .string ⟨#[]⟩, .slice none 0 0, .slice none 0 0].toArray
 err : Blk W (A + 1) 25 #[.int .i64 0]
 rd : PRd W (A + 1 + 1) s p
 x : Blk W (A + 1 + 1 + 1) 39 xs.toArray
theorem RSt.next {w W W' : World} {A : Nat} {s : ByteArray} {p q : Nat} {xs : List Value} (h : RSt w W A s p xs) (ho : Only W W' (A + 1 + 1)) (hr : PRd W' (A + 1 + 1) s q) : RSt w W' A s q xs :=
 ⟨Go.Proofs.YtaamihdibpioaaaGreat.Below.only h.below ho (by omega) (Nat.le_of_lt h.res.lt),h.res.grown ho (by simp <;> omega),h.err.grown ho (by simp),hr,h.x.grown ho (by simp)⟩
theorem RSt.store {w W W' : World} {A : Nat} {s : ByteArray} {p : Nat} {xs ys : List Value} (h : RSt w W A s p xs) (hb : Blk W' (A + 1 + 1 + 1) 39 ys.toArray) (ho : Only W W' (A + 1 + 1 + 1)) : RSt w W' A s p ys :=
 ⟨Go.Proofs.YtaamihdibpioaaaGreat.Below.only h.below ho (by omega) (Nat.le_of_lt h.res.lt),h.res.grown ho (by simp <;> omega),h.err.grown ho (by simp <;> omega),Blk.grown h.rd ho (by simp),hb⟩
theorem RSt.failed {w W W' : World} {A : Nat} {s : ByteArray} {p : Nat} {xs : List Value} (h : RSt w W A s p xs) (ho : Only W W' (A + 1 + 1)) :
  Blk W' (A + 1) 25 #[.int .i64 0] /\ Below A w (W'.setCell ⟨A + 1, 0,none⟩ (.int .i64 5)) /\ Blk (W'.setCell ⟨A + 1, 0,none⟩ (.int .i64 5)) A 39 [.int .i64 0, .int .i64 0, .int .i64 0, .int .i64 0, .int .i64 0, .int .i64 0, .int .i64 0, .float .f64 0, .string ⟨#[]⟩, .slice none 0 0, .slice none 0 0, .int .i64 0, .int .i64 0, .float .f64 0, .string ⟨#[]⟩, .slice none 0 0, .slice none 0 0].toArray /\ Blk (W'.setCell ⟨A + 1, 0,none⟩ (.int .i64 5)) (A + 1) 25 #[.int .i64 5] := by
 have h1 := h.err.grown ho (by simp)
 have h2 := h.res.grown ho (by simp <;> omega)
 have hb := Go.Proofs.YtaamihdibpioaaaGreat.Below.only h.below ho (by omega) (Nat.le_of_lt h.res.lt)
 exact ⟨h1,hb.setCell (p := ⟨A + 1, 0,none⟩) (by simp) _,h2.far (p := ⟨A + 1, 0,none⟩) (by simp) _,h1.set_ 0 _⟩
theorem leaves_end {P : Program} {fn : Func} {tmps : Array Value} {R : Ending -> World -> Prop} {w : World} {v : Value} (h : (results fn tmps).run P w = .ok v w) (hr : R (.returned v) w) : Leaves P fn tmps R [] .returning w := ⟨v,h,hr⟩
theorem res_read {x0 x1 x2 x3 x4 x5 x6 x7 x8 x9 x10 x11 x12 x13 x14 x15 x16 : Value} (A : Nat) (v5 k : Value) (tmps : Array Value) (W : World) (h4 : tmps[4]? = some (.pointer (some ⟨A, 0, none⟩))) (h5 : tmps[5]? = some v5) (h6 : tmps[6]? = some (.pointer (some ⟨A + 1, 0, none⟩)))
  (hA : Blk W A 39 [x0,x1,x2,x3,x4,x5,x6,x7,x8,x9,x10,x11,x12,x13,x14,x15,x16].toArray) (hE : Blk W (A + 1) 25 #[k]) : (results Tryz.f47 tmps).run Tryz.prog W = .ok (.tuple #[.agg #[x0,x1,x2,x3,x4,x5,x6,x7,x8,x9,x10,x11,x12,x13,x14,x15,x16],v5,k]) W := by
 have e0 := hA.cell 0; have e1 := hA.cell 1; have e2 := hA.cell 2; have e3 := hA.cell 3; have e4 := hA.cell 4; have e5 := hA.cell 5; have e6 := hA.cell 6; have e7 := hA.cell 7; have e8 := hA.cell 8; have e9 := hA.cell 9; have e10 := hA.cell 10; have e11 := hA.cell 11; have e12 := hA.cell 12; have e13 := hA.cell 13; have e14 := hA.cell 14; have e15 := hA.cell 15; have e16 := hA.cell 16; simp only [gX0,gX1,gX2] at e0 e1 e2 e3 e4 e5 e6 e7 e8 e9 e10 e11 e12 e13 e14 e15 e16; have e17 := hE.cell 0
 simp at e17
 simp [results,Tryz.results47,go_sem,h4,h5,h6,e0,e1,e2,e3,e4,e5,e6,e7,e8,e9,e10,e11,e12,e13,e14,e15,e16,e17]
theorem set5of17 {w : World} {g : Nat} {T : TypeId} {x0 x1 x2 x3 x4 x5 x6 x7 x8 x9 x10 x11 x12 x13 x14 x15 x16 : Value} (hb : Blk w g T [x0, x1, x2, x3, x4, x5, x6, x7, x8, x9, x10, x11, x12, x13, x14, x15, x16].toArray) (v0 v1 v2 v3 v4 : Value) :
  Blk (((((w.setCell ⟨g, 0,none⟩ (v0)).setCell ⟨g, 1,none⟩ (v1)).setCell ⟨g, 2,none⟩ (v2)).setCell ⟨g, 3,none⟩ (v3)).setCell ⟨g, 4,none⟩ (v4)) g T [v0,v1,v2,v3,v4,x5,x6,x7,x8,x9,x10,x11,x12,x13,x14,x15,x16].toArray /\ Only w (((((w.setCell ⟨g, 0,none⟩ (v0)).setCell ⟨g, 1,none⟩ (v1)).setCell ⟨g, 2,none⟩ (v2)).setCell ⟨g, 3,none⟩ (v3)).setCell ⟨g, 4,none⟩ (v4)) g :=
 ⟨(blk_set (i := 4) (blk_set (i := 3) (blk_set (i := 2) (blk_set (i := 1) (blk_set (i := 0) hb v0) v1) v2) v3) v4), ((((((Only.refl w g).set_ (.inl rfl) _).set_ (.inl rfl) _).set_ (.inl rfl) _).set_ (.inl rfl) _).set_ (.inl rfl) _)⟩
theorem set12of17 {w : World} {g : Nat} {T : TypeId} {x0 x1 x2 x3 x4 x5 x6 x7 x8 x9 x10 x11 x12 x13 x14 x15 x16 : Value} (hb : Blk w g T [x0, x1, x2, x3, x4, x5, x6, x7, x8, x9, x10, x11, x12, x13, x14, x15, x16].toArray) (v5 v6 v7 v8 v9 v10 v11 v12 v13 v14 v15 v16 : Value) :
  Blk ((((((((((((w.setCell ⟨g, 5,none⟩ (v5)).setCell ⟨g, 6,none⟩ (v6)).setCell ⟨g, 7,none⟩ (v7)).setCell ⟨g, 8,none⟩ (v8)).setCell ⟨g, 9,none⟩ (v9)).setCell ⟨g, 10,none⟩ (v10)).setCell ⟨g, 11,none⟩ (v11)).setCell ⟨g, 12,none⟩ (v12)).setCell ⟨g, 13,none⟩ (v13)).setCell ⟨g, 14,none⟩ (v14)).setCell ⟨g, 15,none⟩ (v15)).setCell ⟨g, 16,none⟩ (v16)) g T [x0,x1,x2,x3,x4,v5,v6,v7,v8,v9,v10,v11,v12,v13,v14,v15,v16].toArray /\ Only w ((((((((((((w.setCell ⟨g, 5,none⟩ (v5)).setCell ⟨g, 6,none⟩ (v6)).setCell ⟨g, 7,none⟩ (v7)).setCell ⟨g, 8,none⟩ (v8)).setCell ⟨g, 9,none⟩ (v9)).setCell ⟨g, 10,none⟩ (v10)).setCell ⟨g, 11,none⟩ (v11)).setCell ⟨g, 12,none⟩ (v12)).setCell ⟨g, 13,none⟩ (v13)).setCell ⟨g, 14,none⟩ (v14)).setCell ⟨g, 15,none⟩ (v15)).setCell ⟨g, 16,none⟩ (v16)) g :=
 ⟨(blk_set (i := 16) (blk_set (i := 15) (blk_set (i := 14) (blk_set (i := 13) (blk_set (i := 12) (blk_set (i := 11) (blk_set (i := 10) (blk_set (i := 9) (blk_set (i := 8) (blk_set (i := 7) (blk_set (i := 6) (blk_set (i := 5) hb v5) v6) v7) v8) v9) v10) v11) v12) v13) v14) v15) v16), (((((((((((((Only.refl w g).set_ (.inl rfl) _).set_ (.inl rfl) _).set_ (.inl rfl) _).set_ (.inl rfl) _).set_ (.inl rfl) _).set_ (.inl rfl) _).set_ (.inl rfl) _).set_ (.inl rfl) _).set_ (.inl rfl) _).set_ (.inl rfl) _).set_ (.inl rfl) _).set_ (.inl rfl) _)⟩
theorem set17of17 {w : World} {g : Nat} {T : TypeId} {x0 x1 x2 x3 x4 x5 x6 x7 x8 x9 x10 x11 x12 x13 x14 x15 x16 : Value} (hb : Blk w g T [x0, x1, x2, x3, x4, x5, x6, x7, x8, x9, x10, x11, x12, x13, x14, x15, x16].toArray) (v0 v1 v2 v3 v4 v5 v6 v7 v8 v9 v10 v11 v12 v13 v14 v15 v16 : Value) :
  Blk (((((((((((((((((w.setCell ⟨g, 0,none⟩ (v0)).setCell ⟨g, 1,none⟩ (v1)).setCell ⟨g, 2,none⟩ (v2)).setCell ⟨g, 3,none⟩ (v3)).setCell ⟨g, 4,none⟩ (v4)).setCell ⟨g, 5,none⟩ (v5)).setCell ⟨g, 6,none⟩ (v6)).setCell ⟨g, 7,none⟩ (v7)).setCell ⟨g, 8,none⟩ (v8)).setCell ⟨g, 9,none⟩ (v9)).setCell ⟨g, 10,none⟩ (v10)).setCell ⟨g, 11,none⟩ (v11)).setCell ⟨g, 12,none⟩ (v12)).setCell ⟨g, 13,none⟩ (v13)).setCell ⟨g, 14,none⟩ (v14)).setCell ⟨g, 15,none⟩ (v15)).setCell ⟨g, 16,none⟩ (v16)) g T [v0,v1,v2,v3,v4,v5,v6,v7,v8,v9,v10,v11,v12,v13,v14,v15,v16].toArray /\ Only w (((((((((((((((((w.setCell ⟨g, 0,none⟩ (v0)).setCell ⟨g, 1,none⟩ (v1)).setCell ⟨g, 2,none⟩ (v2)).setCell ⟨g, 3,none⟩ (v3)).setCell ⟨g, 4,none⟩ (v4)).setCell ⟨g, 5,none⟩ (v5)).setCell ⟨g, 6,none⟩ (v6)).setCell ⟨g, 7,none⟩ (v7)).setCell ⟨g, 8,none⟩ (v8)).setCell ⟨g, 9,none⟩ (v9)).setCell ⟨g, 10,none⟩ (v10)).setCell ⟨g, 11,none⟩ (v11)).setCell ⟨g, 12,none⟩ (v12)).setCell ⟨g, 13,none⟩ (v13)).setCell ⟨g, 14,none⟩ (v14)).setCell ⟨g, 15,none⟩ (v15)).setCell ⟨g, 16,none⟩ (v16)) g :=
 ⟨(blk_set (i := 16) (blk_set (i := 15) (blk_set (i := 14) (blk_set (i := 13) (blk_set (i := 12) (blk_set (i := 11) (blk_set (i := 10) (blk_set (i := 9) (blk_set (i := 8) (blk_set (i := 7) (blk_set (i := 6) (blk_set (i := 5) (blk_set (i := 4) (blk_set (i := 3) (blk_set (i := 2) (blk_set (i := 1) (blk_set (i := 0) hb v0) v1) v2) v3) v4) v5) v6) v7) v8) v9) v10) v11) v12) v13) v14) v15) v16), ((((((((((((((((((Only.refl w g).set_ (.inl rfl) _).set_ (.inl rfl) _).set_ (.inl rfl) _).set_ (.inl rfl) _).set_ (.inl rfl) _).set_ (.inl rfl) _).set_ (.inl rfl) _).set_ (.inl rfl) _).set_ (.inl rfl) _).set_ (.inl rfl) _).set_ (.inl rfl) _).set_ (.inl rfl) _).set_ (.inl rfl) _).set_ (.inl rfl) _).set_ (.inl rfl) _).set_ (.inl rfl) _).set_ (.inl rfl) _)⟩
theorem rdN_small {s : ByteArray} {p n q : Nat} (h : rdN s p = some (n, q)) : n <= 10000 := by
 unfold rdN at h
 cases hu : readU s p 0 0 with
 | error k => rw [hu] at h; cases h
 | ok x =>
  obtain ⟨m,q'⟩ := x; rw [hu] at h; simp only at h
  split at h
  ·injection h with h
   injection h with h1 h2
   omega
  ·cases h
theorem readcmd_any (s : ByteArray) (p : Nat) (w : World) (hs : s.size <= 100000) (hp : p <= s.size) :
  Calls Tryz.prog 47 #[.string s, .int .i64 p] w fun e w' => CmdRead (rdCm s p) w e w' := by
 have hsf := run_store_flt; obtain ⟨A,hA⟩ := gXe (w.heap.size); obtain ⟨W,hW⟩ := gXe ((((w.alloc (.cells #[.int .i64 0, .int .i64 0, .int .i64 0, .int .i64 0, .int .i64 0, .int .i64 0, .int .i64 0, .float .f64 0, .string ⟨#[]⟩, .slice none 0 0, .slice none 0 0, .int .i64 0, .int .i64 0, .float .f64 0, .string ⟨#[]⟩, .slice none 0 0, .slice none 0 0] 39)).alloc (.cells #[.int .i64 0] 25)).alloc (.cells #[.string s, .int .i64 p] 132)).alloc (.cells #[.int .i64 0, .int .i64 0, .int .i64 0, .int .i64 0, .int .i64 0, .int .i64 0, .int .i64 0, .float .f64 0, .string ⟨#[]⟩, .slice none 0 0, .slice none 0 0, .int .i64 0, .int .i64 0, .float .f64 0, .string ⟨#[]⟩, .slice none 0 0, .slice none 0 0] 39))
 have h0 : RSt w W A s p [.int .i64 0, .int .i64 0, .int .i64 0, .int .i64 0, .int .i64 0, .int .i64 0, .int .i64 0, .float .f64 0, .string ⟨#[]⟩, .slice none 0 0, .slice none 0 0, .int .i64 0, .int .i64 0, .float .f64 0, .string ⟨#[]⟩, .slice none 0 0, .slice none 0 0] := by
  rw [hW,hA]; have b1 := Blk.new (w.alloc (.cells #[.int .i64 0, .int .i64 0, .int .i64 0, .int .i64 0, .int .i64 0, .int .i64 0, .int .i64 0, .float .f64 0, .string ⟨#[]⟩, .slice none 0 0, .slice none 0 0, .int .i64 0, .int .i64 0, .float .f64 0, .string ⟨#[]⟩, .slice none 0 0, .slice none 0 0] 39)) 25 #[.int .i64 0]; have b2 := Blk.new ((w.alloc (.cells #[.int .i64 0, .int .i64 0, .int .i64 0, .int .i64 0, .int .i64 0, .int .i64 0, .int .i64 0, .float .f64 0, .string ⟨#[]⟩, .slice none 0 0, .slice none 0 0, .int .i64 0, .int .i64 0, .float .f64 0, .string ⟨#[]⟩, .slice none 0 0, .slice none 0 0] 39)).alloc (.cells #[.int .i64 0] 25)) 132 #[.string s, .int .i64 p]; have b3 := Blk.new (((w.alloc (.cells #[.int .i64 0, .int .i64 0, .int .i64 0, .int .i64 0, .int .i64 0, .int .i64 0, .int .i64 0, .float .f64 0, .string ⟨#[]⟩, .slice none 0 0, .slice none 0 0, .int .i64 0, .int .i64 0, .float .f64 0, .string ⟨#[]⟩, .slice none 0 0, .slice none 0 0] 39)).alloc (.cells #[.int .i64 0] 25)).alloc (.cells #[.string s, .int .i64 p] 132)) 39 #[.int .i64 0, .int .i64 0, .int .i64 0, .int .i64 0, .int .i64 0, .int .i64 0, .int .i64 0, .float .f64 0, .string ⟨#[]⟩, .slice none 0 0, .slice none 0 0, .int .i64 0, .int .i64 0, .float .f64 0, .string ⟨#[]⟩, .slice none 0 0, .slice none 0 0]; rw [alloc_size'] at b1; rw [alloc_size',alloc_size'] at b2; rw [alloc_size',alloc_size',alloc_size'] at b3; refine ⟨?_,?_, (b1.alloc _).alloc _,Blk.alloc b2 _,b3⟩
  ·exact ((((Below.refl _ w).alloc (Nat.le_refl _) _).alloc (by simp) _).alloc (by simp <;> omega) _).alloc (by simp <;> omega) _
  ·exact (((Blk.new w _ _).alloc _).alloc _).alloc _
 have hd1 : decide ((p : Int) < 0) = false := by simp <;> omega
 have hd2 : decide ((s.size : Int) < (p : Int)) = false := by simp <;> omega
 have hd3 : decide (s.size < p) = false := by simp <;> omega
 obtain ⟨R,hR⟩ := gXe (rdCm s p); rw [<- hR]; have HA := gh hA; have HW := gh hW; have H0 := gh h0; have HE := gh hR; have HP := gh hp; clear hA hW h0 hR hp
 go_enter_defers Tryz.func47,Tryz.ntmps47
 go_wp2_with fail
 rw [<- HW.o, <- HA.o]; have hc0 := prnum_any s p (A + 1 + 1) W hs HP.o H0.o.rd; have HC0 := gh hc0; clear hc0; refine HC0.o.mono ?_; clear HC0
 cases hq : rdN s p with
 | none =>
  rintro e w1 ⟨ho,rfl⟩; have HF := gh (RSt.failed H0.o ho); have HRN : Hid (R = none) := gh (by rw [HE.o]; simp [rdCm,hq])
  clear ho hq; unfold pgave
  go_wp2
  refine leaves_cons (f := 69) (args := #[.pointer (some ⟨A + 1, 0,none⟩)]) (by simp) (by simp [go_sem]) ?_
  refine (pcaught_panicking (A + 1) 5 _ [] _ HF.o.1).mono ?_; rintro e u' w'' ⟨rfl,rfl,rfl⟩; refine leaves_end (res_read A (.int .i64 0) (.int .i64 5) _ _ rfl rfl rfl HF.o.2.2.1 HF.o.2.2.2) ?_; refine ⟨?_,?_⟩
  ·rw [<- HA.o]; exact HF.o.2.1
  ·rw [HRN.o]; rfl
 | some x =>
  obtain ⟨a0,p1⟩ := x; rintro e w1 ⟨ho,rfl,hr⟩; have H1 := gh (RSt.next H0.o ho hr); have HQ0 := gh hq; have HP1 := gh (rdN_le hq); clear ho hr hq; have hc1 := prnum_any s p1 (A + 1 + 1) w1 hs HP1.o H1.o.rd; have HC1 := gh hc1; clear hc1
  go_wp2_with fail
  refine HC1.o.mono ?_; clear HC1
  cases hq : rdN s p1 with
  | none =>
   rintro e w2 ⟨ho,rfl⟩; have HF := gh (RSt.failed H1.o ho); have HRN : Hid (R = none) := gh (by rw [HE.o]; simp [rdCm,hq,HQ0.o])
   clear ho hq; unfold pgave
   go_wp2
   refine leaves_cons (f := 69) (args := #[.pointer (some ⟨A + 1, 0,none⟩)]) (by simp) (by simp [go_sem]) ?_
   refine (pcaught_panicking (A + 1) 5 _ [] _ HF.o.1).mono ?_; rintro e u' w'' ⟨rfl,rfl,rfl⟩; refine leaves_end (res_read A (.int .i64 0) (.int .i64 5) _ _ rfl rfl rfl HF.o.2.2.1 HF.o.2.2.2) ?_; refine ⟨?_,?_⟩
   ·rw [<- HA.o]; exact HF.o.2.1
   ·rw [HRN.o]; rfl
  | some x =>
   obtain ⟨a1,p2⟩ := x; rintro e w2 ⟨ho,rfl,hr⟩; have H2 := gh (RSt.next H1.o ho hr); have HQ1 := gh hq; have HP2 := gh (rdN_le hq); clear ho hr hq; have hc2 := prnum_any s p2 (A + 1 + 1) w2 hs HP2.o H2.o.rd; have HC2 := gh hc2; clear hc2
   go_wp2_with fail
   refine HC2.o.mono ?_; clear HC2
   cases hq : rdN s p2 with
   | none =>
    rintro e w3 ⟨ho,rfl⟩; have HF := gh (RSt.failed H2.o ho); have HRN : Hid (R = none) := gh (by rw [HE.o]; simp [rdCm,hq,HQ0.o,HQ1.o])
    clear ho hq; unfold pgave
    go_wp2
    refine leaves_cons (f := 69) (args := #[.pointer (some ⟨A + 1, 0,none⟩)]) (by simp) (by simp [go_sem]) ?_
    refine (pcaught_panicking (A + 1) 5 _ [] _ HF.o.1).mono ?_; rintro e u' w'' ⟨rfl,rfl,rfl⟩; refine leaves_end (res_read A (.int .i64 0) (.int .i64 5) _ _ rfl rfl rfl HF.o.2.2.1 HF.o.2.2.2) ?_; refine ⟨?_,?_⟩
    ·rw [<- HA.o]; exact HF.o.2.1
    ·rw [HRN.o]; rfl
   | some x =>
    obtain ⟨a2,p3⟩ := x; rintro e w3 ⟨ho,rfl,hr⟩; have H3 := gh (RSt.next H2.o ho hr); have HQ2 := gh hq; have HP3 := gh (rdN_le hq); clear ho hr hq; have hc3 := prnum_any s p3 (A + 1 + 1) w3 hs HP3.o H3.o.rd; have HC3 := gh hc3; clear hc3
    go_wp2_with fail
    refine HC3.o.mono ?_; clear HC3
    cases hq : rdN s p3 with
    | none =>
     rintro e w4 ⟨ho,rfl⟩; have HF := gh (RSt.failed H3.o ho); have HRN : Hid (R = none) := gh (by rw [HE.o]; simp [rdCm,hq,HQ0.o,HQ1.o,HQ2.o])
     clear ho hq; unfold pgave
     go_wp2
     refine leaves_cons (f := 69) (args := #[.pointer (some ⟨A + 1, 0,none⟩)]) (by simp) (by simp [go_sem]) ?_
     refine (pcaught_panicking (A + 1) 5 _ [] _ HF.o.1).mono ?_; rintro e u' w'' ⟨rfl,rfl,rfl⟩; refine leaves_end (res_read A (.int .i64 0) (.int .i64 5) _ _ rfl rfl rfl HF.o.2.2.1 HF.o.2.2.2) ?_; refine ⟨?_,?_⟩
     ·rw [<- HA.o]; exact HF.o.2.1
     ·rw [HRN.o]; rfl
    | some x =>
     obtain ⟨a3,p4⟩ := x; rintro e w4 ⟨ho,rfl,hr⟩; have H4 := gh (RSt.next H3.o ho hr); have HQ3 := gh hq; have HP4 := gh (rdN_le hq); clear ho hr hq; have hc4 := prnum_any s p4 (A + 1 + 1) w4 hs HP4.o H4.o.rd; have HC4 := gh hc4; clear hc4
     go_wp2_with fail
     refine HC4.o.mono ?_; clear HC4
     cases hq : rdN s p4 with
     | none =>
      rintro e w5 ⟨ho,rfl⟩; have HF := gh (RSt.failed H4.o ho); have HRN : Hid (R = none) := gh (by rw [HE.o]; simp [rdCm,hq,HQ0.o,HQ1.o,HQ2.o,HQ3.o])
      clear ho hq; unfold pgave
      go_wp2
      refine leaves_cons (f := 69) (args := #[.pointer (some ⟨A + 1, 0,none⟩)]) (by simp) (by simp [go_sem]) ?_
      refine (pcaught_panicking (A + 1) 5 _ [] _ HF.o.1).mono ?_; rintro e u' w'' ⟨rfl,rfl,rfl⟩; refine leaves_end (res_read A (.int .i64 0) (.int .i64 5) _ _ rfl rfl rfl HF.o.2.2.1 HF.o.2.2.2) ?_; refine ⟨?_,?_⟩
      ·rw [<- HA.o]; exact HF.o.2.1
      ·rw [HRN.o]; rfl
     | some x =>
      obtain ⟨a4',p5⟩ := x; rintro e w5 ⟨ho,rfl,hr⟩; have H5 := gh (RSt.next H4.o ho hr); have HQ4 := gh hq; have HP5 := gh (rdN_le hq); clear ho hr hq; have hs5 := set5of17 H5.o.x (.int .i64 a0) (.int .i64 a1) (.int .i64 a2) (.int .i64 a3) (.int .i64 a4'); obtain ⟨w6,hw6⟩ := gXe ((((((w5.setCell ⟨A + 1 + 1 + 1, 0,none⟩ (.int .i64 a0)).setCell ⟨A + 1 + 1 + 1, 1,none⟩ (.int .i64 a1)).setCell ⟨A + 1 + 1 + 1, 2,none⟩ (.int .i64 a2)).setCell ⟨A + 1 + 1 + 1, 3,none⟩ (.int .i64 a3)).setCell ⟨A + 1 + 1 + 1, 4,none⟩ (.int .i64 a4'))); rw [<- hw6] at hs5; have H6 := gh (RSt.store H5.o hs5.1 hs5.2); have HW6 := gh hw6; clear hs5 hw6; have x0 := H5.o.x.cell 0; have x1 := H5.o.x.cell 1; have x2 := H5.o.x.cell 2; have x3 := H5.o.x.cell 3; have x4 := H5.o.x.cell 4; simp only [gX0,gX1,gX2] at x0 x1 x2 x3 x4; have f0 := H5.o.x.frozen 0; have f1 := H5.o.x.frozen 1; have f2 := H5.o.x.frozen 2; have f3 := H5.o.x.frozen 3; have f4 := H5.o.x.frozen 4
      go_upto_region 7 with fail
      rw [<- HW6.o]; clear x0 f0 x1 f1 x2 f2 x3 f3 x4 f4; have HC5 := gh (prsome_any s p5 (A + 1 + 1) w6 hs HP5.o H6.o.rd)
      go_wp2_with fail
      refine HC5.o.mono ?_; clear HC5
      cases hq : rdSome s p5 with
      | none =>
       rintro e w7 ⟨ho,rfl⟩; have HF := gh (RSt.failed H6.o ho); have HRN : Hid (R = none) := gh (by rw [HE.o]; simp [rdCm,hq,HQ0.o,HQ1.o,HQ2.o,HQ3.o,HQ4.o])
       clear ho hq; unfold pgave
       go_wp2
       refine leaves_cons (f := 69) (args := #[.pointer (some ⟨A + 1, 0,none⟩)]) (by simp) (by simp [go_sem]) ?_
       refine (pcaught_panicking (A + 1) 5 _ [] _ HF.o.1).mono ?_; rintro e u' w'' ⟨rfl,rfl,rfl⟩; refine leaves_end (res_read A (.int .i64 0) (.int .i64 5) _ _ rfl rfl rfl HF.o.2.2.1 HF.o.2.2.2) ?_; refine ⟨?_,?_⟩
       ·rw [<- HA.o]; exact HF.o.2.1
       ·rw [HRN.o]; rfl
      | some x =>
       obtain ⟨v1,p6⟩ := x; rintro e w7 ⟨ho,c1,rfl,hce,hci,hcs,hr⟩; have H7O := gh ho.size; have H7 := gh (RSt.next H6.o ho hr); have HQ5 := gh hq; have HP6 := gh (rdSome_le hq); have hz6 : A + 1 + 1 + 1 < w6.heap.size := H6.o.x.lt; have HCE := gh hce; have HCI := gh hci; have HCS := gh hcs; obtain ⟨a4,b4,k4⟩ := hci.nslice; obtain ⟨a5,b5,k5⟩ := hci.xslice; have hag1 : c1.agg = .agg #[.int .i64 c1.k, .int .i64 c1.n, .float .f64 c1.f, .string c1.s, .slice a4 c1.ns.length b4, .slice a5 c1.xs.length b5] := by unfold Val.agg; rw [k4,k5]
       rw [hag1]; have HK4 := gh k4; have HK5 := gh k5; clear ho hr hq hce hci hcs k4 k5 hag1; have HC6 := gh (prsome_any s p6 (A + 1 + 1) w7 hs HP6.o H7.o.rd)
       go_wp2_with fail
       refine HC6.o.mono ?_; clear HC6
       cases hq : rdSome s p6 with
       | none =>
        rintro e w8 ⟨ho,rfl⟩; have HF := gh (RSt.failed H7.o ho); have HRN : Hid (R = none) := gh (by rw [HE.o]; simp [rdCm,hq,HQ0.o,HQ1.o,HQ2.o,HQ3.o,HQ4.o,HQ5.o])
        clear ho hq; unfold pgave
        go_wp2
        refine leaves_cons (f := 69) (args := #[.pointer (some ⟨A + 1, 0,none⟩)]) (by simp) (by simp [go_sem]) ?_
        refine (pcaught_panicking (A + 1) 5 _ [] _ HF.o.1).mono ?_; rintro e u' w'' ⟨rfl,rfl,rfl⟩; refine leaves_end (res_read A (.int .i64 0) (.int .i64 5) _ _ rfl rfl rfl HF.o.2.2.1 HF.o.2.2.2) ?_; refine ⟨?_,?_⟩
        ·rw [<- HA.o]; exact HF.o.2.1
        ·rw [HRN.o]; rfl
       | some x =>
        obtain ⟨v2,p7⟩ := x; rintro e w8 ⟨ho,c2,rfl,hde,hdi,hds,hr⟩; have H8 := gh (RSt.next H7.o ho hr); have HRN : Hid (R = some (⟨a0,a1,a2,a3,a4',v1,v2⟩,p7)) := gh (by rw [HE.o]; simp [rdCm,hq,HQ0.o,HQ1.o,HQ2.o,HQ3.o,HQ4.o,HQ5.o])
        have hci8 : c1.In w8 := HCI.o.carryS HCS.o (fun b o hb hlt => only_cell ho (by have hb' : w6.heap.size <= b := hb; omega) hlt o) ho.size
        obtain ⟨d4,l4,g4⟩ := hdi.nslice; obtain ⟨d5,l5,g5⟩ := hdi.xslice; have hag2 : c2.agg = .agg #[.int .i64 c2.k, .int .i64 c2.n, .float .f64 c2.f, .string c2.s, .slice d4 c2.ns.length l4, .slice d5 c2.xs.length l5] := by unfold Val.agg; rw [g4,g5]
        rw [hag2]; have hz7 : A + 1 + 1 + 1 < w7.heap.size := H7.o.x.lt; have hst := set12of17 H8.o.x (.int .i64 c1.k) (.int .i64 c1.n) (.float .f64 c1.f) (.string c1.s) (.slice a4 c1.ns.length b4) (.slice a5 c1.xs.length b5) (.int .i64 c2.k) (.int .i64 c2.n) (.float .f64 c2.f) (.string c2.s) (.slice d4 c2.ns.length l4) (.slice d5 c2.xs.length l5); obtain ⟨w9,hw9⟩ := gXe (((((((((((((w8.setCell ⟨A + 1 + 1 + 1, 5,none⟩ (.int .i64 c1.k)).setCell ⟨A + 1 + 1 + 1, 6,none⟩ (.int .i64 c1.n)).setCell ⟨A + 1 + 1 + 1, 7,none⟩ (.float .f64 c1.f)).setCell ⟨A + 1 + 1 + 1, 8,none⟩ (.string c1.s)).setCell ⟨A + 1 + 1 + 1, 9,none⟩ (.slice a4 c1.ns.length b4)).setCell ⟨A + 1 + 1 + 1, 10,none⟩ (.slice a5 c1.xs.length b5)).setCell ⟨A + 1 + 1 + 1, 11,none⟩ (.int .i64 c2.k)).setCell ⟨A + 1 + 1 + 1, 12,none⟩ (.int .i64 c2.n)).setCell ⟨A + 1 + 1 + 1, 13,none⟩ (.float .f64 c2.f)).setCell ⟨A + 1 + 1 + 1, 14,none⟩ (.string c2.s)).setCell ⟨A + 1 + 1 + 1, 15,none⟩ (.slice d4 c2.ns.length l4)).setCell ⟨A + 1 + 1 + 1, 16,none⟩ (.slice d5 c2.xs.length l5))); rw [<- hw9] at hst; have hci9 : c1.In w9 := hci8.carryS HCS.o (fun b o hb hlt => only_cell hst.2 (by have hb' : w6.heap.size <= b := hb; omega) hlt o) hst.2.size
        have hdi9 : c2.In w9 := hdi.carryS hds (fun b o hb hlt => only_cell hst.2 (by have hb' : w7.heap.size <= b := hb; omega) hlt o) hst.2.size
        have h67 : w6.heap.size <= w7.heap.size := H7O.o; have H9 := gh (RSt.store H8.o hst.1 hst.2); have HW9 := gh hw9; have HCI9 := gh hci9; have HDI9 := gh hdi9; have HDS := gh hds; have HDE := gh hde; have G4 := gh g4; have G5 := gh g5; clear ho hr hq hde hdi hds hci8 hag2 hst hw9 hci9 hdi9 g4 g5; have x5 := H8.o.x.cell 5; have x6 := H8.o.x.cell 6; have x7 := H8.o.x.cell 7; have x8 := H8.o.x.cell 8; have x9 := H8.o.x.cell 9; have x10 := H8.o.x.cell 10; have x11 := H8.o.x.cell 11; have x12 := H8.o.x.cell 12; have x13 := H8.o.x.cell 13; have x14 := H8.o.x.cell 14; have x15 := H8.o.x.cell 15; have x16 := H8.o.x.cell 16; simp only [gX0,gX1,gX2] at x5 x6 x7 x8 x9 x10 x11 x12 x13 x14 x15 x16; have f5 := H8.o.x.frozen 5; have f6 := H8.o.x.frozen 6; have f7 := H8.o.x.frozen 7; have f8 := H8.o.x.frozen 8; have f9 := H8.o.x.frozen 9; have f10 := H8.o.x.frozen 10; have f11 := H8.o.x.frozen 11; have f12 := H8.o.x.frozen 12; have f13 := H8.o.x.frozen 13; have f14 := H8.o.x.frozen 14; have f15 := H8.o.x.frozen 15; have f16 := H8.o.x.frozen 16
        go_upto_region 8 with fail
        rw [<- HW9.o]; clear x5 f5 x6 f6 x7 f7 x8 f8 x9 f9 x10 f10 x11 f11 x12 f12 x13 f13 x14 f14 x15 f15 x16 f16; have hst := set17of17 (w := w9) H9.o.res (.int .i64 a0) (.int .i64 a1) (.int .i64 a2) (.int .i64 a3) (.int .i64 a4') (.int .i64 c1.k) (.int .i64 c1.n) (.float .f64 c1.f) (.string c1.s) (.slice a4 c1.ns.length b4) (.slice a5 c1.xs.length b5) (.int .i64 c2.k) (.int .i64 c2.n) (.float .f64 c2.f) (.string c2.s) (.slice d4 c2.ns.length l4) (.slice d5 c2.xs.length l5); obtain ⟨wA,hwA⟩ := gXe ((((((((((((((((((w9.setCell ⟨A, 0,none⟩ (.int .i64 a0)).setCell ⟨A, 1,none⟩ (.int .i64 a1)).setCell ⟨A, 2,none⟩ (.int .i64 a2)).setCell ⟨A, 3,none⟩ (.int .i64 a3)).setCell ⟨A, 4,none⟩ (.int .i64 a4')).setCell ⟨A, 5,none⟩ (.int .i64 c1.k)).setCell ⟨A, 6,none⟩ (.int .i64 c1.n)).setCell ⟨A, 7,none⟩ (.float .f64 c1.f)).setCell ⟨A, 8,none⟩ (.string c1.s)).setCell ⟨A, 9,none⟩ (.slice a4 c1.ns.length b4)).setCell ⟨A, 10,none⟩ (.slice a5 c1.xs.length b5)).setCell ⟨A, 11,none⟩ (.int .i64 c2.k)).setCell ⟨A, 12,none⟩ (.int .i64 c2.n)).setCell ⟨A, 13,none⟩ (.float .f64 c2.f)).setCell ⟨A, 14,none⟩ (.string c2.s)).setCell ⟨A, 15,none⟩ (.slice d4 c2.ns.length l4)).setCell ⟨A, 16,none⟩ (.slice d5 c2.xs.length l5))); rw [<- hwA] at hst; have hXA : Blk wA (A + 1 + 1 + 1) 39 [.int .i64 a0, .int .i64 a1, .int .i64 a2, .int .i64 a3, .int .i64 a4', .int .i64 c1.k, .int .i64 c1.n, .float .f64 c1.f, .string c1.s, .slice a4 c1.ns.length b4, .slice a5 c1.xs.length b5, .int .i64 c2.k, .int .i64 c2.n, .float .f64 c2.f, .string c2.s, .slice d4 c2.ns.length l4, .slice d5 c2.xs.length l5].toArray := Blk.grown (w := w9) H9.o.x hst.2 (by simp <;> omega)
        have hRA : PRd wA (A + 1 + 1) s p7 := Blk.grown (w := w9) H9.o.rd hst.2 (by simp <;> omega)
        have hEA : Blk wA (A + 1) 25 #[.int .i64 0] := Blk.grown (w := w9) H9.o.err hst.2 (by simp)
        have hBA : Below A w wA := Go.Proofs.YtaamihdibpioaaaGreat.Below.only H9.o.below hst.2 (Nat.le_refl _) (Nat.le_of_lt H9.o.res.lt); have hcA : c1.In wA := HCI9.o.carryS HCS.o (fun b o hb hlt => only_cell hst.2 (by have hb' : w6.heap.size <= b := hb; omega) hlt o) hst.2.size
        have hdA : c2.In wA := HDI9.o.carryS HDS.o (fun b o hb hlt => only_cell hst.2 (by have hb' : w7.heap.size <= b := hb; omega) hlt o) hst.2.size
        obtain ⟨wF,hwF⟩ := gXe (wA.setCell ⟨A + 1, 0,none⟩ (.int .i64 0)); have hEF : Blk wF (A + 1) 25 #[.int .i64 0] := by rw [hwF]; exact hEA.set_ 0 _
        have hAF : Blk wF A 39 [.int .i64 a0, .int .i64 a1, .int .i64 a2, .int .i64 a3, .int .i64 a4', .int .i64 c1.k, .int .i64 c1.n, .float .f64 c1.f, .string c1.s, .slice a4 c1.ns.length b4, .slice a5 c1.xs.length b5, .int .i64 c2.k, .int .i64 c2.n, .float .f64 c2.f, .string c2.s, .slice d4 c2.ns.length l4, .slice d5 c2.xs.length l5].toArray := by rw [hwF]; exact Blk.far hst.1 (p := ⟨A + 1, 0,none⟩) (by simp) _
        have hBF : Below A w wF := by rw [hwF]; exact hBA.setCell (p := ⟨A + 1, 0,none⟩) (by simp) _
        have hcF : c1.In wF := hcA.carryS HCS.o (fun b o hb hlt => by rw [hwF]; exact World.cell?_setCell_other wA ⟨A + 1, 0,none⟩ ⟨b,o,none⟩ _ (fun e => by injection e with e _; have hb' : w6.heap.size <= b := hb; omega)) (by rw [hwF]; simp [World.setCell])
        have hdF : c2.In wF := hdA.carryS HDS.o (fun b o hb hlt => by rw [hwF]; exact World.cell?_setCell_other wA ⟨A + 1, 0,none⟩ ⟨b,o,none⟩ _ (fun e => by injection e with e _; have hb' : w7.heap.size <= b := hb; omega)) (by rw [hwF]; simp [World.setCell])
        have HWA := gh hwA; have HXA := gh hXA; have HRA := gh hRA; have HEA := gh hEA; have HWF := gh hwF; have HEF := gh hEF; have HAF := gh hAF; have HBF := gh hBF; have HCF := gh hcF; have HDF := gh hdF; have HX9 := gh (show Blk w9.drew (A + 1 + 1 + 1) 39 [.int .i64 a0, .int .i64 a1, .int .i64 a2, .int .i64 a3, .int .i64 a4', .int .i64 c1.k, .int .i64 c1.n, .float .f64 c1.f, .string c1.s, .slice a4 c1.ns.length b4, .slice a5 c1.xs.length b5, .int .i64 c2.k, .int .i64 c2.n, .float .f64 c2.f, .string c2.s, .slice d4 c2.ns.length l4, .slice d5 c2.xs.length l5].toArray /\ PRd w9.drew (A + 1 + 1) s p7 from ⟨H9.o.x,H9.o.rd⟩)
        have HR9 : Hid (Blk w9 A 39 [.int .i64 0, .int .i64 0, .int .i64 0, .int .i64 0, .int .i64 0, .int .i64 0, .int .i64 0, .float .f64 0, .string ⟨#[]⟩, .slice none 0 0, .slice none 0 0, .int .i64 0, .int .i64 0, .float .f64 0, .string ⟨#[]⟩, .slice none 0 0, .slice none 0 0].toArray) := gh H9.o.res; clear hst hwA hXA hRA hEA hBA hcA hdA hwF hEF hAF hBF hcF hdF; refine wp_region_noPanic ?_; refine wp_region_held_drew (S := (fun Y => Blk Y (A + 1 + 1 + 1) 39 [.int .i64 a0, .int .i64 a1, .int .i64 a2, .int .i64 a3, .int .i64 a4', .int .i64 c1.k, .int .i64 c1.n, .float .f64 c1.f, .string c1.s, .slice a4 c1.ns.length b4, .slice a5 c1.xs.length b5, .int .i64 c2.k, .int .i64 c2.n, .float .f64 c2.f, .string c2.s, .slice d4 c2.ns.length l4, .slice d5 c2.xs.length l5].toArray /\ PRd Y (A + 1 + 1) s p7)) (by kernel_rfl) (HX9.o) (fun hHeld => ?_)
        refine gT (i := 0) (d := some 45) (v := ?_) rfl rfl (by kernel_rfl) (fun _ _ _ h => h) (by rfl) ?_ hHeld ?_
        rotate_left
        ·(intro w yS; (try dsimp only at yS); have hX := yS.1; have x0 := hX.cell 0; have x1 := hX.cell 1; have x2 := hX.cell 2; have x3 := hX.cell 3; have x4 := hX.cell 4; have x5 := hX.cell 5; have x6 := hX.cell 6; have x7 := hX.cell 7; have x8 := hX.cell 8; have x9 := hX.cell 9; have x10 := hX.cell 10; have x11 := hX.cell 11; have x12 := hX.cell 12; have x13 := hX.cell 13; have x14 := hX.cell 14; have x15 := hX.cell 15; have x16 := hX.cell 16; simp only [gX0,gX1,gX2] at x0 x1 x2 x3 x4 x5 x6 x7 x8 x9 x10 x11 x12 x13 x14 x15 x16; have h1 := yS.2.cell 1; simp at h1; clear hX; go_simp; try with_reducible rfl)
        try simp only [Act.put,gX3,gX4,gX5]
        refine gT (i := 1) (d := some 46) (v := ?_) rfl rfl (by kernel_rfl) (fun _ _ _ h => h) (by rfl) ?_ hHeld ?_
        rotate_left
        ·(intro w yS; (try dsimp only at yS); have hX := yS.1; have x0 := hX.cell 0; have x1 := hX.cell 1; have x2 := hX.cell 2; have x3 := hX.cell 3; have x4 := hX.cell 4; have x5 := hX.cell 5; have x6 := hX.cell 6; have x7 := hX.cell 7; have x8 := hX.cell 8; have x9 := hX.cell 9; have x10 := hX.cell 10; have x11 := hX.cell 11; have x12 := hX.cell 12; have x13 := hX.cell 13; have x14 := hX.cell 14; have x15 := hX.cell 15; have x16 := hX.cell 16; simp only [gX0,gX1,gX2] at x0 x1 x2 x3 x4 x5 x6 x7 x8 x9 x10 x11 x12 x13 x14 x15 x16; have h1 := yS.2.cell 1; simp at h1; clear hX; go_simp; try with_reducible rfl)
        try simp only [Act.put,gX3,gX4,gX5]
        refine gT (i := 2) (d := some 47) (v := ?_) rfl rfl (by kernel_rfl) (fun _ _ _ h => h) (by rfl) ?_ hHeld ?_
        rotate_left
        ·(intro w yS; (try dsimp only at yS); have hX := yS.1; have x0 := hX.cell 0; have x1 := hX.cell 1; have x2 := hX.cell 2; have x3 := hX.cell 3; have x4 := hX.cell 4; have x5 := hX.cell 5; have x6 := hX.cell 6; have x7 := hX.cell 7; have x8 := hX.cell 8; have x9 := hX.cell 9; have x10 := hX.cell 10; have x11 := hX.cell 11; have x12 := hX.cell 12; have x13 := hX.cell 13; have x14 := hX.cell 14; have x15 := hX.cell 15; have x16 := hX.cell 16; simp only [gX0,gX1,gX2] at x0 x1 x2 x3 x4 x5 x6 x7 x8 x9 x10 x11 x12 x13 x14 x15 x16; have h1 := yS.2.cell 1; simp at h1; clear hX; go_simp; try with_reducible rfl)
        try simp only [Act.put,gX3,gX4,gX5]
        refine gT (i := 3) (d := some 48) (v := ?_) rfl rfl (by kernel_rfl) (fun _ _ _ h => h) (by rfl) ?_ hHeld ?_
        rotate_left
        ·(intro w yS; (try dsimp only at yS); have hX := yS.1; have x0 := hX.cell 0; have x1 := hX.cell 1; have x2 := hX.cell 2; have x3 := hX.cell 3; have x4 := hX.cell 4; have x5 := hX.cell 5; have x6 := hX.cell 6; have x7 := hX.cell 7; have x8 := hX.cell 8; have x9 := hX.cell 9; have x10 := hX.cell 10; have x11 := hX.cell 11; have x12 := hX.cell 12; have x13 := hX.cell 13; have x14 := hX.cell 14; have x15 := hX.cell 15; have x16 := hX.cell 16; simp only [gX0,gX1,gX2] at x0 x1 x2 x3 x4 x5 x6 x7 x8 x9 x10 x11 x12 x13 x14 x15 x16; have h1 := yS.2.cell 1; simp at h1; clear hX; go_simp; try with_reducible rfl)
        try simp only [Act.put,gX3,gX4,gX5]
        refine gT (i := 4) (d := some 49) (v := ?_) rfl rfl (by kernel_rfl) (fun _ _ _ h => h) (by rfl) ?_ hHeld ?_
        rotate_left
        ·(intro w yS; (try dsimp only at yS); have hX := yS.1; have x0 := hX.cell 0; have x1 := hX.cell 1; have x2 := hX.cell 2; have x3 := hX.cell 3; have x4 := hX.cell 4; have x5 := hX.cell 5; have x6 := hX.cell 6; have x7 := hX.cell 7; have x8 := hX.cell 8; have x9 := hX.cell 9; have x10 := hX.cell 10; have x11 := hX.cell 11; have x12 := hX.cell 12; have x13 := hX.cell 13; have x14 := hX.cell 14; have x15 := hX.cell 15; have x16 := hX.cell 16; simp only [gX0,gX1,gX2] at x0 x1 x2 x3 x4 x5 x6 x7 x8 x9 x10 x11 x12 x13 x14 x15 x16; have h1 := yS.2.cell 1; simp at h1; clear hX; go_simp; try with_reducible rfl)
        try simp only [Act.put,gX3,gX4,gX5]
        have r0 := HR9.o.cell 0; have r1 := HR9.o.cell 1; have r2 := HR9.o.cell 2; have r3 := HR9.o.cell 3; have r4 := HR9.o.cell 4; have r5 := HR9.o.cell 5; have r6 := HR9.o.cell 6; have r7 := HR9.o.cell 7; have r8 := HR9.o.cell 8; have r9 := HR9.o.cell 9; have r10 := HR9.o.cell 10; have r11 := HR9.o.cell 11; have r12 := HR9.o.cell 12; have r13 := HR9.o.cell 13; have r14 := HR9.o.cell 14; have r15 := HR9.o.cell 15; have r16 := HR9.o.cell 16; simp only [gX0,gX1,gX2] at r0 r1 r2 r3 r4 r5 r6 r7 r8 r9 r10 r11 r12 r13 r14 r15 r16; have f0 := HR9.o.frozen 0; have f1 := HR9.o.frozen 1; have f2 := HR9.o.frozen 2; have f3 := HR9.o.frozen 3; have f4 := HR9.o.frozen 4; have f5 := HR9.o.frozen 5; have f6 := HR9.o.frozen 6; have f7 := HR9.o.frozen 7; have f8 := HR9.o.frozen 8; have f9 := HR9.o.frozen 9; have f10 := HR9.o.frozen 10; have f11 := HR9.o.frozen 11; have f12 := HR9.o.frozen 12; have f13 := HR9.o.frozen 13; have f14 := HR9.o.frozen 14; have f15 := HR9.o.frozen 15; have f16 := HR9.o.frozen 16; refine held_only (i := 5) (by kernel_rfl) rfl (by rfl) (fun K hK => ?_)
        go_simp
        rw [<- HWA.o]; refine hK.out _ _ ⟨Blk.drew HXA.o,Blk.drew HRA.o⟩ (fun hHeld => ?_)
        clear hK K; try simp only [Act.put,gX3,gX4,gX5]
        clear r0 f0 r1 f1 r2 f2 r3 f3 r4 f4 r5 f5 r6 f6 r7 f7 r8 f8 r9 f9 r10 f10 r11 f11 r12 f12 r13 f13 r14 f14 r15 f15 r16 f16; refine gT (i := 6) (d := some 5) (v := ?_) rfl rfl (by kernel_rfl) (fun _ _ _ h => h) (by rfl) ?_ hHeld ?_
        rotate_left
        ·(intro w yS; (try dsimp only at yS); go_simp; try with_reducible rfl)
        try simp only [Act.put,gX3,gX4,gX5]
        have e0 := HEA.o.cell 0; have f0 := HEA.o.frozen 0
        simp at e0
        refine held_only (i := 7) (by kernel_rfl) rfl (by rfl) (fun K hK => ?_)
        go_simp
        rw [<- HWF.o]; refine hK.out _ _ ⟨by rw [HWF.o]; exact (HXA.o.far (p := ⟨A + 1, 0,none⟩) (by simp <;> omega) _).drew,by rw [HWF.o]; exact (Blk.far HRA.o (p := ⟨A + 1, 0,none⟩) (by simp <;> omega) _).drew⟩ (fun hHeld => ?_)
        clear hK K; try simp only [Act.put,gX3,gX4,gX5]
        clear e0 f0; refine wpAnyH_done (by kernel_rfl) ?_ _
        refine NoPanic.normal ?_
        go_wp2
        refine leaves_cons (f := 69) (args := #[.pointer (some ⟨A + 1, 0,none⟩)]) (by simp) (by simp [go_sem]) ?_
        refine (pcaught_idle _ _).mono ?_; rintro e u' w'' ⟨rfl,rfl,rfl⟩; refine leaves_end (res_read A (.int .i64 p7) (.int .i64 0) _ _ rfl rfl rfl HAF.o.drew HEF.o.drew) ?_; refine ⟨?_,?_⟩
        ·rw [<- HA.o]; exact HBF.o.drew
        ·rw [HRN.o]
         refine ⟨⟨a0,a1,a2,a3,a4',c1,c2⟩,?_,?_,⟨?_,HCF.o.drewN 1,HDF.o.drewN 1⟩,HCS.o.mono (fun b hb => ?_),HDS.o.mono (fun b hb => ?_)⟩
         ·unfold Cm.agg Cm.cells Val.cells; rw [HK4.o,HK5.o,G4.o,G5.o]; rfl
         ·unfold Cm.erase; rw [HCE.o,HDE.o]
         ·intro y hy
          have b0 := rdN_small HQ0.o; have b1 := rdN_small HQ1.o; have b2 := rdN_small HQ2.o; have b3 := rdN_small HQ3.o; have b4 := rdN_small HQ4.o; simp only [Cm.ints,List.mem_cons,List.not_mem_nil,or_false] at hy
          rcases hy with rfl | rfl | rfl | rfl | rfl <;> exact ⟨by omega,by omega⟩
         ·have hb' : w6.heap.size <= b := hb
          have := HA.o
          omega
         ·have hb' : w7.heap.size <= b := hb
          have := HA.o
          omega
end Go.Proofs.YtaamihdibpioaaaGreat.Pk
namespace Go.Proofs.YtaamihdibpioaaaGreat.Jr
open Go.RowKit Go.Proofs.YtaamihdibpioaaaGreat.Crc Go.Proofs.YtaamihdibpioaaaGreat.Pk
def recOf (label : Int) (p : ByteArray) : Rc := ⟨numOf (p.extract 0 4),label,readC p⟩
def cmdOf : Option (Cm × Nat) -> Cm
 | some (c,_) => c
 | none => Cm.zero
theorem readC_of (p : ByteArray) : readC p = cmdOf (rdCm p (min 4 p.size)) := by
 unfold readC
 cases rdCm p (min 4 p.size) <;> rfl
theorem CmdRead.any {r : Option (Cm × Nat)} {w w' : World} {e : Ending} (h : CmdRead r w e w') :
  Below w.heap.size w w' /\ ∃ (u : Cm) (q k : Int),e = .returned (.tuple #[u.agg, .int .i64 q, .int .i64 k]) /\ u.erase = cmdOf r /\ u.In w' /\ u.Sep (fun b => w.heap.size <= b) := by
 refine ⟨h.1,?_⟩; have h2 := h.2
 cases r with
 | none => exact ⟨Cm.zero, 0, 5,h2,rfl,⟨fun x hx => by simp [Cm.ints] at hx; subst hx; exact ⟨by omega,by omega⟩,zero_in _,zero_in _⟩,zero_sep _,zero_sep _⟩
 | some x =>
  obtain ⟨c,q⟩ := x; obtain ⟨u,h3,h4,h5,h6⟩ := h2; exact ⟨u,q, 0,h3,h4,h5,h6⟩
theorem rec_one {S4 p : ByteArray} {u : Cm} {label : Int} (h : S4 = p.extract 0 4) (hu : u.erase = readC p) : Rc.erase ⟨(numOf S4 : Int), label, u⟩ = recOf label p := by
 unfold recOf Rc.erase; rw [<- h,hu]
def JReadOut (ps : List ByteArray) (label good : Int) (w : World) (e : Ending) (w' : World) : Prop :=
 ∃ (B : Nat) (v : Value) (us : List Rc),w.heap.size <= B /\ e = .returned (.tuple #[v, .int .i64 good]) /\ Below w.heap.size w w' /\ Rowed recE (fun _ => False) B 44 w' us v /\ us.map Rc.erase = ps.map (recOf label)
theorem rec_facts : (Tryz.prog.info? 44).map (fun i => (i.zero,i.size,i.bytes)) = some (some (.agg #[.int .i64 0, .int .i64 0, .int .i64 0, .int .i64 0, .int .i64 0, .int .i64 0, .int .i64 0, .int .i64 0, .int .i64 0, .float .f64 0, .string ByteArray.empty, .slice none 0 0, .slice none 0 0, .int .i64 0, .int .i64 0, .float .f64 0, .string ByteArray.empty, .slice none 0 0, .slice none 0 0]), 19, 232) := by kernel_rfl
theorem jread_any (j d : Nat) (s : Jt) (label good : Int) (ps : List ByteArray) (w : World) (h : JAt w j d s) (hl : i64r label) (ha : allOf (readR s.n s.rows label) = (ps, good)) (hps : ∀ p, p ∈ ps -> 4 <= p.size /\ p.size <= 2000) :
  Calls Tryz.prog 28 #[.pointer (some ⟨j, 0,none⟩), .int .i64 label] w fun e w' => JReadOut ps label good w e w' := by
 have hsf := run_store_flt; have c0 := h.jb.cell 0
 simp at c0
 have HR := gh (read_any d s.n s.rows label w h.db h.dk)
 have hsz : (readR s.n s.rows label).size <= 10000 := by
  unfold readR
  cases hs : isSeg s.n label with
  | false => simp
  | true =>
   have := rowOf_size h.dk label; simp only [cond_true]
   omega
 have hal := all_any (readR s.n s.rows label) w hsz; have hlen := all_len (readR s.n s.rows label); unfold Alled at hal; rw [ha] at hal hlen; simp only at hal hlen; obtain ⟨i0,hi0,hz0,hz1,hz2⟩ := info_parts rec_facts; obtain ⟨n,hn⟩ := gXe (ps.length); rw [<- hn] at hal hlen; have hn1 : n <= 10001 := by omega
 have HAL := gh hal; have HN := gh hn; have HPS := gh hps; have HI0 := gh hi0; have HZ0 := gh hz0; have HZ1 := gh hz1; have HZ2 := gh hz2; have HLB := gh hl; clear hal hn hps hi0 hz0 hz1 hz2 h ha hlen hsz hl
 go_enter Tryz.func28,Tryz.ntmps28
 go_wp2_with fail
 refine HR.o.mono ?_; rintro e w0 ⟨rfl,rfl⟩
 go_wp2_with fail
 refine HAL.o.mono ?_; rintro e w1 ⟨fv,rfl,hown,hb1⟩; obtain ⟨fa,fc,rfl⟩ := row_form hown; have HOW := gh hown; have HB1 := gh hb1; clear hown hb1 c0 HR HAL
 go_wp2_with fail
 go_loopw [4, 25] (fun lv iv wr => ∃ (i : Nat) (us : List Rc),i <= n /\ iv = .int .i64 (i : Int) /\ Hid (us.map Rc.erase = (ps.take i).map (recOf label)) /\ Hid (Rowed recE (fun _ => False) w1.heap.size 44 wr us lv) /\ Hid (Below w1.heap.size w1 wr)) (fun _ iv _ => n - (intOf iv).toNat)
 case atStart => exact ⟨0, [],by omega,rfl,gh rfl,gh (rowed_start _),gh (Below.refl _ _)⟩
 case round =>
  obtain ⟨i,us,hi,rfl,HM,HG,HBL⟩ := hrel
  by_cases hlt : i < n
  ·have hil : i < ps.length := by rw [<- HN.o]; exact hlt
   obtain ⟨p,hp⟩ := gXe (ps[i]'hil)
   obtain ⟨g, rfl, hgl, hcell, hcap⟩ : ∃ g, fa = some ⟨g, 0, none⟩ /\ g < w1.heap.size /\ w1.cell? ⟨g, i, none⟩ = some (.string p) /\ n <= fc := by
    rcases HOW.o.2 with ⟨_,h0⟩ | ⟨g,cap,cur,hv,hb,hg,hrest⟩
    ·omega
    ·injection hv with h1 h2 h3
     subst h1; refine ⟨g,rfl, (show Blk w1 g 9 cur from hg).lt,?_,?_⟩
     ·have := HOW.o.cells (g := g) rfl i (.string p) (by simp [hil, hp])
      rw [Addr.add_lit,Nat.zero_add] at this; exact this
     ·rw [h3]; exact hrest.1
   have hmem : p ∈ ps := by rw [hp]; exact List.getElem_mem hil
   obtain ⟨hp4,hp2⟩ := HPS.o p hmem; have htk : ps.take (i + 1) = ps.take i ++ [p] := by rw [hp,List.take_succ_eq_append_getElem hil]
   have hrc := readcmd_any p 4 wr (by omega) (by omega)
   have hrC : readC p = cmdOf (rdCm p 4) := by rw [readC_of,Nat.min_eq_left hp4]
   obtain ⟨S4,hS4⟩ := gXe (p.extract 0 4); have hS4z : S4.size = 4 := by rw [hS4,ByteArray.size_extract]; omega
   have hcl := (HBL.o.cell (p := ⟨g,i,none⟩) hgl).trans hcell; have hnum := fun W : World => numbered_any S4 W hS4z
   have hnl : numOf S4 < 4294967296 := by
    unfold numOf; have b0 := UInt8.toNat_lt (byteAt S4 0); have b1 := UInt8.toNat_lt (byteAt S4 1); have b2 := UInt8.toNat_lt (byteAt S4 2); have b3 := UInt8.toNat_lt (byteAt S4 3)
    omega
   obtain ⟨ax,cx,rfl⟩ := HG.o.form; have hk0 : (0 : Int) <= (i : Int) := by omega
   have hk1 : (i : Int) < (n : Int) := by omega
   have hmn : min (4 : Int) (p.size : Int) = 4 := by omega
   have hmn2 : ¬ ((p.size : Int) < 4) := by omega
   have HTK := gh htk; have HRC := gh hrc; have HRD := gh hrC; have HS4 := gh hS4; have HNUM := gh hnum; have HNL := gh hnl; have hz1 := HBL.o.size
   have husl : us.length <= 10001 := by
    have := congrArg List.length HM.o; rw [List.length_map,List.length_map,List.length_take] at this
    omega
   clear hp hmem htk hrc hrC hS4 hS4z hnum hnl hil hcell
   go_wp2_with fail
   refine HRC.o.mono ?_; rintro e w3 hr; obtain ⟨hb3,u,q,k,rfl,hue,hui,hus⟩ := CmdRead.any hr; obtain ⟨p4,q4,e4⟩ := hui.2.1.nslice; obtain ⟨p5,q5,e5⟩ := hui.2.1.xslice; obtain ⟨r4,t4,f4⟩ := hui.2.2.nslice; obtain ⟨r5,t5,f5⟩ := hui.2.2.xslice
   have hag : u.agg = .agg #[.int .i64 u.k, .int .i64 u.nd, .int .i64 u.il, .int .i64 u.inn, .int .i64 u.n, .int .i64 u.key.k, .int .i64 u.key.n, .float .f64 u.key.f, .string u.key.s, .slice p4 u.key.ns.length q4, .slice p5 u.key.xs.length q5, .int .i64 u.v.k, .int .i64 u.v.n, .float .f64 u.v.f, .string u.v.s, .slice r4 u.v.ns.length t4, .slice r5 u.v.xs.length t5] := by
    unfold Cm.agg Cm.cells Val.cells; rw [e4,e5,f4,f5]; rfl
   obtain ⟨X,hX⟩ := gXe (w3.heap.size); obtain ⟨W4,hW4⟩ := gXe (w3.alloc (.cells #[.int .i64 u.k, .int .i64 u.nd, .int .i64 u.il, .int .i64 u.inn, .int .i64 u.n, .int .i64 u.key.k, .int .i64 u.key.n, .float .f64 u.key.f, .string u.key.s, .slice p4 u.key.ns.length q4, .slice p5 u.key.xs.length q5, .int .i64 u.v.k, .int .i64 u.v.n, .float .f64 u.v.f, .string u.v.s, .slice r4 u.v.ns.length t4, .slice r5 u.v.xs.length t5] 39)); have hbX : Blk W4 X 39 #[.int .i64 u.k, .int .i64 u.nd, .int .i64 u.il, .int .i64 u.inn, .int .i64 u.n, .int .i64 u.key.k, .int .i64 u.key.n, .float .f64 u.key.f, .string u.key.s, .slice p4 u.key.ns.length q4, .slice p5 u.key.xs.length q5, .int .i64 u.v.k, .int .i64 u.v.n, .float .f64 u.v.f, .string u.v.s, .slice r4 u.v.ns.length t4, .slice r5 u.v.xs.length t5] := by rw [hW4,hX]; exact Blk.new _ _ _
   have hb34 : Below w3.heap.size w3 W4 := by rw [hW4]; exact (Below.refl _ _).alloc (Nat.le_refl _) _
   have hb4 : Below wr.heap.size wr W4 := hb3.trans (hb34.mono hb3.size); have hui4 : u.In W4 := hui.below hb34; have hrow4 : Rowed recE (fun _ => False) w1.heap.size 44 W4 us (.slice ax us.length cx) := HG.o.below hb4
   have hcells : ([.int .i64 (numOf S4), .int .i64 label] ++ u.cells : List Value) = [.int .i64 (numOf S4), .int .i64 label, .int .i64 u.k, .int .i64 u.nd, .int .i64 u.il, .int .i64 u.inn, .int .i64 u.n, .int .i64 u.key.k, .int .i64 u.key.n, .float .f64 u.key.f, .string u.key.s, .slice p4 u.key.ns.length q4, .slice p5 u.key.xs.length q5, .int .i64 u.v.k, .int .i64 u.v.n, .float .f64 u.v.f, .string u.v.s, .slice r4 u.v.ns.length t4, .slice r5 u.v.xs.length t5] := by
    unfold Cm.cells Val.cells; rw [e4,e5,f4,f5]; rfl
   have hown5 := World.ownsRow.alloc (w := W4.drew) hrow4.items (.cells [.int .i64 (numOf S4), .int .i64 label, .int .i64 u.k, .int .i64 u.nd, .int .i64 u.il, .int .i64 u.inn, .int .i64 u.n, .int .i64 u.key.k, .int .i64 u.key.n, .float .f64 u.key.f, .string u.key.s, .slice p4 u.key.ns.length q4, .slice p5 u.key.xs.length q5, .int .i64 u.v.k, .int .i64 u.v.n, .float .f64 u.v.f, .string u.v.s, .slice r4 u.v.ns.length t4, .slice r5 u.v.xs.length t5].toArray 44); have HXW := gh hb3.size; have HB4 := gh hb4; have HUI := gh hui4; have HUS := gh hus; have HUE := gh (hue.trans HRD.o.symm); have HX := gh hX; have HW4 := gh hW4; have HBX := gh hbX; have HROW := gh hrow4; have HCL := gh hcells; have HOW5 := gh hown5
   have HZX : Hid (∀ b, (Value.slice ax us.length cx).ownBlock = some b -> b < wr.heap.size) := gh (fun b hb => by
    rcases HG.o.items.2 with ⟨h,_⟩ | ⟨g',cap,cur,h,_,hg',_⟩
    ·rw [h] at hb; cases hb
    ·rw [h] at hb
     injection hb with hb; subst hb; exact (show Blk wr g' 44 cur from hg').lt)
   rw [hag]; clear hb3 hue hui hus e4 e5 f4 f5 hag hX hW4 hbX hb34 hb4 hui4 hrow4 hcells hown5 hr HRC hcl
   go_upto_region 7 with fail
   rw [<- HW4.o, <- HX.o]; refine wp_region_held_drew (S := (fun Y => Blk Y X 39 #[.int .i64 u.k, .int .i64 u.nd, .int .i64 u.il, .int .i64 u.inn, .int .i64 u.n, .int .i64 u.key.k, .int .i64 u.key.n, .float .f64 u.key.f, .string u.key.s, .slice p4 u.key.ns.length q4, .slice p5 u.key.xs.length q5, .int .i64 u.v.k, .int .i64 u.v.n, .float .f64 u.v.f, .string u.v.s, .slice r4 u.v.ns.length t4, .slice r5 u.v.xs.length t5])) (by kernel_rfl) (HBX.o.drew) (fun hHeld => ?_)
   refine gT (i := 0) (d := some 39) (v := ?_) rfl rfl (by kernel_rfl) (fun _ _ _ h => h) (by rfl) ?_ hHeld ?_
   rotate_left
   ·(intro w yS; (try dsimp only at yS); have hX := yS; have x0 := hX.cell 0; have x1 := hX.cell 1; have x2 := hX.cell 2; have x3 := hX.cell 3; have x4 := hX.cell 4; have x5 := hX.cell 5; have x6 := hX.cell 6; have x7 := hX.cell 7; have x8 := hX.cell 8; have x9 := hX.cell 9; have x10 := hX.cell 10; have x11 := hX.cell 11; have x12 := hX.cell 12; have x13 := hX.cell 13; have x14 := hX.cell 14; have x15 := hX.cell 15; have x16 := hX.cell 16; simp only [gX0,gX1,gX2] at x0 x1 x2 x3 x4 x5 x6 x7 x8 x9 x10 x11 x12 x13 x14 x15 x16; clear hX; go_simp; try with_reducible rfl)
   try simp only [Act.put,gX3,gX4,gX5]
   refine gT (i := 1) (d := some 40) (v := ?_) rfl rfl (by kernel_rfl) (fun _ _ _ h => h) (by rfl) ?_ hHeld ?_
   rotate_left
   ·(intro w yS; (try dsimp only at yS); have hX := yS; have x0 := hX.cell 0; have x1 := hX.cell 1; have x2 := hX.cell 2; have x3 := hX.cell 3; have x4 := hX.cell 4; have x5 := hX.cell 5; have x6 := hX.cell 6; have x7 := hX.cell 7; have x8 := hX.cell 8; have x9 := hX.cell 9; have x10 := hX.cell 10; have x11 := hX.cell 11; have x12 := hX.cell 12; have x13 := hX.cell 13; have x14 := hX.cell 14; have x15 := hX.cell 15; have x16 := hX.cell 16; simp only [gX0,gX1,gX2] at x0 x1 x2 x3 x4 x5 x6 x7 x8 x9 x10 x11 x12 x13 x14 x15 x16; clear hX; go_simp; try with_reducible rfl)
   try simp only [Act.put,gX3,gX4,gX5]
   refine gT (i := 2) (d := some 41) (v := ?_) rfl rfl (by kernel_rfl) (fun _ _ _ h => h) (by rfl) ?_ hHeld ?_
   rotate_left
   ·(intro w yS; (try dsimp only at yS); have hX := yS; have x0 := hX.cell 0; have x1 := hX.cell 1; have x2 := hX.cell 2; have x3 := hX.cell 3; have x4 := hX.cell 4; have x5 := hX.cell 5; have x6 := hX.cell 6; have x7 := hX.cell 7; have x8 := hX.cell 8; have x9 := hX.cell 9; have x10 := hX.cell 10; have x11 := hX.cell 11; have x12 := hX.cell 12; have x13 := hX.cell 13; have x14 := hX.cell 14; have x15 := hX.cell 15; have x16 := hX.cell 16; simp only [gX0,gX1,gX2] at x0 x1 x2 x3 x4 x5 x6 x7 x8 x9 x10 x11 x12 x13 x14 x15 x16; clear hX; go_simp; try with_reducible rfl)
   try simp only [Act.put,gX3,gX4,gX5]
   refine gT (i := 3) (d := some 42) (v := ?_) rfl rfl (by kernel_rfl) (fun _ _ _ h => h) (by rfl) ?_ hHeld ?_
   rotate_left
   ·(intro w yS; (try dsimp only at yS); have hX := yS; have x0 := hX.cell 0; have x1 := hX.cell 1; have x2 := hX.cell 2; have x3 := hX.cell 3; have x4 := hX.cell 4; have x5 := hX.cell 5; have x6 := hX.cell 6; have x7 := hX.cell 7; have x8 := hX.cell 8; have x9 := hX.cell 9; have x10 := hX.cell 10; have x11 := hX.cell 11; have x12 := hX.cell 12; have x13 := hX.cell 13; have x14 := hX.cell 14; have x15 := hX.cell 15; have x16 := hX.cell 16; simp only [gX0,gX1,gX2] at x0 x1 x2 x3 x4 x5 x6 x7 x8 x9 x10 x11 x12 x13 x14 x15 x16; clear hX; go_simp; try with_reducible rfl)
   try simp only [Act.put,gX3,gX4,gX5]
   refine gT (i := 5) (d := some 44) (v := ?_) rfl rfl (by kernel_rfl) (fun _ _ _ h => h) (by rfl) ?_ hHeld ?_
   rotate_left
   ·(intro w yS; (try dsimp only at yS); have hX := yS; have x0 := hX.cell 0; have x1 := hX.cell 1; have x2 := hX.cell 2; have x3 := hX.cell 3; have x4 := hX.cell 4; have x5 := hX.cell 5; have x6 := hX.cell 6; have x7 := hX.cell 7; have x8 := hX.cell 8; have x9 := hX.cell 9; have x10 := hX.cell 10; have x11 := hX.cell 11; have x12 := hX.cell 12; have x13 := hX.cell 13; have x14 := hX.cell 14; have x15 := hX.cell 15; have x16 := hX.cell 16; simp only [gX0,gX1,gX2] at x0 x1 x2 x3 x4 x5 x6 x7 x8 x9 x10 x11 x12 x13 x14 x15 x16; clear hX; go_simp; try with_reducible rfl)
   try simp only [Act.put,gX3,gX4,gX5]
   refine gT (i := 6) (d := some 45) (v := ?_) rfl rfl (by kernel_rfl) (fun _ _ _ h => h) (by rfl) ?_ hHeld ?_
   rotate_left
   ·(intro w yS; (try dsimp only at yS); have hX := yS; have x0 := hX.cell 0; have x1 := hX.cell 1; have x2 := hX.cell 2; have x3 := hX.cell 3; have x4 := hX.cell 4; have x5 := hX.cell 5; have x6 := hX.cell 6; have x7 := hX.cell 7; have x8 := hX.cell 8; have x9 := hX.cell 9; have x10 := hX.cell 10; have x11 := hX.cell 11; have x12 := hX.cell 12; have x13 := hX.cell 13; have x14 := hX.cell 14; have x15 := hX.cell 15; have x16 := hX.cell 16; simp only [gX0,gX1,gX2] at x0 x1 x2 x3 x4 x5 x6 x7 x8 x9 x10 x11 x12 x13 x14 x15 x16; clear hX; go_simp; try with_reducible rfl)
   try simp only [Act.put,gX3,gX4,gX5]
   rw [<- HS4.o]; refine held_only (i := 4) (by kernel_rfl) rfl (by rfl) (fun K hK => ?_)
   go_simp
   go_at_call 48
   refine (HNUM.o _).mono ?_; rintro e w' ⟨rfl,rfl⟩; refine hK.out _ _ (HBX.o.drew) (fun hHeld => ?_)
   clear hK K; try simp only [Act.put,gX3,gX4,gX5]
   refine gT (i := 7) (d := some 46) (v := ?_) rfl rfl (by kernel_rfl) (fun _ _ _ h => h) (by rfl) ?_ hHeld ?_
   rotate_left
   ·(intro w yS; (try dsimp only at yS); have hX := yS; have x0 := hX.cell 0; have x1 := hX.cell 1; have x2 := hX.cell 2; have x3 := hX.cell 3; have x4 := hX.cell 4; have x5 := hX.cell 5; have x6 := hX.cell 6; have x7 := hX.cell 7; have x8 := hX.cell 8; have x9 := hX.cell 9; have x10 := hX.cell 10; have x11 := hX.cell 11; have x12 := hX.cell 12; have x13 := hX.cell 13; have x14 := hX.cell 14; have x15 := hX.cell 15; have x16 := hX.cell 16; simp only [gX0,gX1,gX2] at x0 x1 x2 x3 x4 x5 x6 x7 x8 x9 x10 x11 x12 x13 x14 x15 x16; clear hX; go_simp; try with_reducible rfl)
   try simp only [Act.put,gX3,gX4,gX5]
   refine held_only (i := 8) (by kernel_rfl) rfl (by rfl) (fun K hK => ?_)
   go_simp
   refine hK.out _ _ ((HBX.o.drew).alloc _) (fun hHeld => ?_)
   clear hK K; try simp only [Act.put,gX3,gX4,gX5]
   refine held_only (i := 9) (by kernel_rfl) rfl (by rfl) (fun K hK => ?_)
   have hred := row_reads W4.drew [.int .i64 (numOf S4), .int .i64 label, .int .i64 u.k, .int .i64 u.nd, .int .i64 u.il, .int .i64 u.inn, .int .i64 u.n, .int .i64 u.key.k, .int .i64 u.key.n, .float .f64 u.key.f, .string u.key.s, .slice p4 u.key.ns.length q4, .slice p5 u.key.xs.length q5, .int .i64 u.v.k, .int .i64 u.v.n, .float .f64 u.v.f, .string u.v.s, .slice r4 u.v.ns.length t4, .slice r5 u.v.xs.length t5] 44; refine wp_append_any (W4.drew.alloc (.cells [.int .i64 (numOf S4), .int .i64 label, .int .i64 u.k, .int .i64 u.nd, .int .i64 u.il, .int .i64 u.inn, .int .i64 u.n, .int .i64 u.key.k, .int .i64 u.key.n, .float .f64 u.key.f, .string u.key.s, .slice p4 u.key.ns.length q4, .slice p5 u.key.xs.length q5, .int .i64 u.v.k, .int .i64 u.v.n, .float .f64 u.v.f, .string u.v.s, .slice r4 u.v.ns.length t4, .slice r5 u.v.xs.length t5].toArray 44)) (.tmp 39) (.tmp 47) 30 rfl w1.heap.size 44 i0 (.agg #[.int .i64 0, .int .i64 0, .int .i64 0, .int .i64 0, .int .i64 0, .int .i64 0, .int .i64 0, .int .i64 0, .int .i64 0, .float .f64 0, .string ByteArray.empty, .slice none 0 0, .slice none 0 0, .int .i64 0, .int .i64 0, .float .f64 0, .string ByteArray.empty, .slice none 0 0, .slice none 0 0]) 19 232 Tryz.underlying30 HI0.o HZ0.o HZ1.o HZ2.o rfl (by decide) (.slice ax us.length cx) us.length (recE.row us) rfl HOW5.o (W4.heap.size + 1) (some ⟨W4.heap.size, 0,none⟩) 1 1 [.int .i64 (numOf S4), .int .i64 label, .int .i64 u.k, .int .i64 u.nd, .int .i64 u.il, .int .i64 u.inn, .int .i64 u.n, .int .i64 u.key.k, .int .i64 u.key.n, .float .f64 u.key.f, .string u.key.s, .slice p4 u.key.ns.length q4, .slice p5 u.key.xs.length q5, .int .i64 u.v.k, .int .i64 u.v.n, .float .f64 u.v.f, .string u.v.s, .slice r4 u.v.ns.length t4, .slice r5 u.v.xs.length t5] rfl hred (by rw [<- HCL.o]; exact recE.one ⟨(numOf S4 : Int),label,u⟩) (by unfold maxLen; omega) (by omega) (by have := HB4.o.size; simp; omega) ?_
   intro v' w8 hown' hgrow hor; have hal : Below W4.heap.size W4 (W4.drew.alloc (.cells [.int .i64 (numOf S4), .int .i64 label, .int .i64 u.k, .int .i64 u.nd, .int .i64 u.il, .int .i64 u.inn, .int .i64 u.n, .int .i64 u.key.k, .int .i64 u.key.n, .float .f64 u.key.f, .string u.key.s, .slice p4 u.key.ns.length q4, .slice p5 u.key.xs.length q5, .int .i64 u.v.k, .int .i64 u.v.n, .float .f64 u.v.f, .string u.v.s, .slice r4 u.v.ns.length t4, .slice r5 u.v.xs.length t5].toArray 44)) := (Below.refl W4.heap.size W4).drew.alloc (Nat.le_refl _) _; have hlb := HLB.o; have hnl := HNL.o; have hg8 := Rowed.item (x := (⟨(numOf S4 : Int),label,u⟩ : Rc)) (Z := wr.heap.size) (Rowed.below HROW.o hal) (fun b hb => hb.elim) (by have := HB4.o.size; simp; omega) ⟨⟨by show (-9223372036854775808 : Int) <= (numOf S4 : Int); omega,by show (numOf S4 : Int) <= 9223372036854775807; omega⟩,hlb,HUI.o.below hal⟩ (cmE.mono HUS.o (fun b hb => .inr hb)) (by omega) HZX.o (by rw [<- HCL.o] at hown'; exact hown') hgrow hor
   have hbX8 : Blk w8 X 39 #[.int .i64 u.k, .int .i64 u.nd, .int .i64 u.il, .int .i64 u.inn, .int .i64 u.n, .int .i64 u.key.k, .int .i64 u.key.n, .float .f64 u.key.f, .string u.key.s, .slice p4 u.key.ns.length q4, .slice p5 u.key.xs.length q5, .int .i64 u.v.k, .int .i64 u.v.n, .float .f64 u.v.f, .string u.v.s, .slice r4 u.v.ns.length t4, .slice r5 u.v.xs.length t5] := Blk.grown (Blk.alloc (w := W4.drew) HBX.o (.cells [.int .i64 (numOf S4), .int .i64 label, .int .i64 u.k, .int .i64 u.nd, .int .i64 u.il, .int .i64 u.inn, .int .i64 u.n, .int .i64 u.key.k, .int .i64 u.key.n, .float .f64 u.key.f, .string u.key.s, .slice p4 u.key.ns.length q4, .slice p5 u.key.xs.length q5, .int .i64 u.v.k, .int .i64 u.v.n, .float .f64 u.v.f, .string u.v.s, .slice r4 u.v.ns.length t4, .slice r5 u.v.xs.length t5].toArray 44)) hgrow (fun e => by have h1 := HZX.o X e.symm; have h2 := HBX.o.lt; have h3 := HX.o; have h4 := HB4.o.size; have h5 := HXW.o; omega)
   have hb8 : Below w1.heap.size w1 w8 := ((HBL.o.trans (HB4.o.mono hz1)).trans (hal.mono (by have := HB4.o.size; omega))).grown hgrow (by have := HB4.o.size; simp; omega) (fun k hk => own_ge HROW.o.items hk)
   obtain ⟨ax',cx',rfl⟩ := row_form hown'; have HG8 := gh hg8; have HBX8 := gh hbX8; have HB8 := gh hb8; clear hg8 hbX8 hb8 hown' hgrow hor hal hred; refine hK.out _ _ HBX8.o (fun hHeld => ?_)
   clear hK K; try simp only [Act.put,gX3,gX4,gX5]
   refine gT (i := 10) (d := some 4) (v := ?_) rfl rfl (by kernel_rfl) (fun _ _ _ h => h) (by rfl) ?_ hHeld ?_
   rotate_left
   ·(intro w yS; (try dsimp only at yS); go_simp; try with_reducible rfl)
   try simp only [Act.put,gX3,gX4,gX5]
   refine wpAnyH_done (by kernel_rfl) ?_ _
   have hmapF : (us ++ [(⟨(numOf S4 : Int), label, u⟩ : Rc)]).map Rc.erase = (ps.take (i + 1)).map (recOf label) := by
    rw [HTK.o,List.map_append,List.map_append,HM.o]; exact congrArg (fun r => (ps.take i).map (recOf label) ++ [r]) (rec_one HS4.o HUE.o)
   go_wp2
   go_roundw
   case rel =>
    refine ⟨i + 1,us ++ [⟨(numOf S4 : Int),label,u⟩],by omega,rfl,gh ?_,?_,HB8⟩
    ·exact hmapF
    ·exact HG8
   case measure => simp [intOf]; omega
  ·obtain rfl : i = n := by omega
   have HMF : Hid (us.map Rc.erase = ps.map (recOf label)) := gh (by
    have h1 := HM.o; rw [HN.o,List.take_length] at h1; exact h1)
   have hk1 : ¬ ((i : Int) < (i : Int)) := by omega
   have hz1 := HB1.o.size; obtain ⟨ax,cx,rfl⟩ := HG.o.form
   go_wp2
   go_ret2
   exact ⟨_,_,us,hz1,rfl,HB1.o.trans (HBL.o.mono hz1),HG.o,HMF.o⟩
end Go.Proofs.YtaamihdibpioaaaGreat.Jr
namespace Go.Proofs.YtaamihdibpioaaaGreat.Jr
open Go.RowKit Go.Proofs.YtaamihdibpioaaaGreat.Crc Go.Proofs.YtaamihdibpioaaaGreat.Pk
theorem own_lt {w : World} {base n size k : Nat} {e : TypeId} {v : Value} {xs : List Value} (h : w.ownsRow base e size v n xs) (hk : v.ownBlock = some k) : k < w.heap.size := by
 rcases h.2 with ⟨rfl,_⟩ | ⟨g,cap,cur,rfl,hb,hg,_⟩
 ·simp [Value.ownBlock] at hk
 ·simp [Value.ownBlock] at hk
  rw [<- hk]; exact Blk.lt hg
section
variable {A : Type} {E : Elem A} {S : Nat -> Prop} {B : Nat} {TE : TypeId} {w w' : World} {us : List A} {xv : Value}
theorem Rowed_more {v' : Value} {xs : List A} {Z : Nat} (h : Rowed E S B TE w us xv) (hP : ∀ b, S b -> b < B) (hx : ∀ x, x ∈ xs -> E.In w x /\ E.Sep (fun b => S b \/ Z <= b) x) (hZ : B <= Z) (hxz : ∀ b, xv.ownBlock = some b -> b < Z)
  (ho : w'.ownsRow B TE E.size v' (us.length + xs.length) (E.row us ++ E.row xs)) (hg : w.grownBy w' xv.ownBlock)
  (hor : v'.ownBlock = xv.ownBlock \/ v'.ownBlock = some w.heap.size) : Rowed E S B TE w' (us ++ xs) v' := by
 have hxb : ∀ b,xv.ownBlock = some b -> B <= b := fun b hb => own_ge h.items hb
 refine ⟨by rw [List.length_append,show E.row (us ++ xs) = E.row us ++ E.row xs from by simp [Elem.row]]; exact ho,fun u hu => ?_⟩
 rcases List.mem_append.1 hu with hu | hu
 ·obtain ⟨h1, h2⟩ := h.each u hu
  have h3 := E.and h2 (E.lt h1); refine ⟨E.carry h1 h2 (fun b o hs hlt => World.cell?_of_block (a := ⟨b,o,none⟩) (hg.block b hlt hs.2)) hg.size,E.mono h3 (fun b hb => ⟨hb.1.1,?_⟩)⟩
  rcases hor with h' | h'
  ·rw [h']; exact hb.1.2
  ·rw [h']; intro e; injection e with e; have := hb.2; omega
 ·obtain ⟨hi, hs⟩ := hx u hu
  have h3 := E.and hs (E.lt hi)
  have hne : ∀ b, (S b \/ Z <= b) -> some b ≠ xv.ownBlock := fun b hb e => by
   have h4 := hxz b e.symm; have h5 := hxb b e.symm
   rcases hb with hb | hb
   ·have := hP b hb; omega
   ·omega
  refine ⟨E.carry hi hs (fun b o hs' hlt => World.cell?_of_block (a := ⟨b,o,none⟩) (hg.block b hlt (hne b hs'))) hg.size,E.mono h3 (fun b hb => ⟨by rcases hb.1 with h | h; exact .inl h; exact .inr (by omega),?_⟩)⟩
  rcases hor with h' | h'
  ·rw [h']; exact hne b hb.1
  ·rw [h']; intro e; injection e with e; have := hb.2; omega
end
def SortedOut (B : Nat) (v : Value) (us : List Rc) (w : World) (e : Ending) (w' : World) : Prop :=
 e = .returned (.tuple #[]) /\ ∃ us' : List Rc,us'.Perm us /\ us'.Pairwise (fun a b => a.seq <= b.seq) /\ Rowed recE (fun _ => False) B 44 w' us' v /\ Below B w w'
def SortSpec : Prop := ∀ (B : Nat) (v : Value) (us : List Rc) (w : World), Rowed recE (fun _ => False) B 44 w us v -> us.length <= 100000 -> B <= w.heap.size ->
 Calls Tryz.prog 31 #[v, .func (.func 32) #[] #[]] w fun e w' => SortedOut B v us w e w'
theorem rc_of {n : Nat} {h : He} (hs : h.seq < 4294967296) : recOf h.label h.pay = h.rc := by
 unfold recOf He.rc He.pay; rw [numOf_pay _ hs]
theorem seg_recs {H : List He} (hs : ∀ h, h ∈ H -> h.seq < 4294967296) (i : Nat) : (segOf H i).map (recOf (i : Int)) = (segL H i).map He.rc := by
 unfold segOf; rw [List.map_map]; refine List.map_congr_left (fun h hh => ?_)
 have h1 := (List.mem_filter.1 hh).1; have h2 : h.label = i := by simpa using (List.mem_filter.1 hh).2
 show recOf (i : Int) h.pay = h.rc
 rw [<- h2]; exact rc_of (n := 0) (hs h h1)
def RecsOut (H : List He) (w : World) (e : Ending) (w' : World) : Prop :=
 ∃ (B : Nat) (v : Value) (us : List Rc),w.heap.size <= B /\ B <= w'.heap.size /\ e = .returned v /\ Below w.heap.size w w' /\ Rowed recE (fun _ => False) B 44 w' us v /\ us.map Rc.erase = H.map He.rc
theorem segL_len (H : List He) (i : Nat) : (segL H i).length <= H.length := List.length_filter_le _ _
theorem inSegs_len (H : List He) : ∀ n, (inSegs H n).length <= n * H.length
 | 0 => by simp [inSegs]
 | n + 1 => by
  have ih := inSegs_len H n; have := segL_len H n; simp only [inSegs,List.length_append,Nat.succ_mul]
  omega
theorem records_any (hsort : SortSpec) (j d : Nat) (s : Jt) (H : List He) (r : Nat -> ByteArray) (w : World) (h : JAt w j d s) (hh : Hist s.n s.rows H r) (hs : ∀ h, h ∈ H -> h.seq < 4294967296) (hH : H.length <= 10000) :
  Calls Tryz.prog 14 #[.pointer (some ⟨j, 0,none⟩)] w fun e w' => RecsOut H w e w' := by
 obtain ⟨i0,hi0,hz0,hz1,hz2⟩ := info_parts rec_facts; have c1 := h.jb.cell 1
 simp at c1
 have hn8 := h.dk.n8
 have hrd := fun (i : Nat) (hi : i < s.n) (W : World) (hb : Below w.heap.size w W) => jread_any j d s (i : Int) ((cat (segOf H i)).size : Int) (segOf H i) W (h.below hb) ⟨by omega, by omega⟩ (by
  have e : readR s.n s.rows (i : Int) = rowOf s.rows (i : Int) := by
   unfold readR isSeg; rw [decide_eq_true (by omega)]
   rfl
  rw [e]
  exact hh.all hi) (fun p hp => by
   obtain ⟨x,hx,rfl⟩ := List.mem_map.1 hp; have := hh.ok x (List.mem_filter.1 hx).1; unfold He.pay; rw [payB_size]; have := this.1
   omega)
 have hfin : ∀ us us' : List Rc, us.map Rc.erase = (inSegs H s.n).map He.rc -> us'.Perm us -> us'.Pairwise (fun a b => a.seq <= b.seq) -> us'.map Rc.erase = H.map He.rc := fun us us' h1 h2 h3 => by
  refine rising_same Rc.seq ?_ ?_ ?_
  ·refine (h2.map _).trans ?_
   rw [h1]; exact (inSegs_perm (fun x hx => (hh.ok x hx).2.1)).map _
  ·rw [List.pairwise_map]
   exact hh.up.imp (fun {a b} hab => by show ((a.seq : Nat) : Int) < b.seq; omega)
  ·rw [List.pairwise_map]
   exact h3
 have hsr := seg_recs hs; have hil := inSegs_len H s.n; have hsl := segL_len H; obtain ⟨n,hn⟩ := gXe (s.n)
 have hil2 : ∀ k, k <= 8 -> (inSegs H k).length <= 80000 := fun k hk => by
  have := inSegs_len H k; have := Nat.mul_le_mul hk hH
  omega
 rw [<- hn] at c1 hn8 hrd hfin hil; have HRD := gh hrd; have HFI := gh hfin; have HSR := gh hsr; have HSRT := gh hsort; have HIL := gh hil2; have HI0 := gh hi0; have HZ0 := gh hz0; have HZ1 := gh hz1; have HZ2 := gh hz2; have HSL := gh hsl; have HH := gh hH; clear hrd hfin hsr hsort hil hil2 hi0 hz0 hz1 hz2 h hh hs hn hsl hH
 go_enter Tryz.func14,Tryz.ntmps14
 go_wp2_with fail
 go_loopw [2, 12] (fun lv iv wr => ∃ (i : Nat) (us : List Rc),i <= n /\ iv = .int .i64 (i : Int) /\ Hid (us.map Rc.erase = (inSegs H i).map He.rc) /\ Hid (Rowed recE (fun _ => False) w.heap.size 44 wr us lv) /\ Hid (Below w.heap.size w wr)) (fun _ iv _ => n - (intOf iv).toNat)
 case atStart => exact ⟨0, [],by omega,rfl,gh rfl,gh (rowed_start _),gh (Below.refl _ _)⟩
 case round =>
  obtain ⟨i,us,hi,rfl,HM,HG,HBL⟩ := hrel; obtain ⟨ax,cx,rfl⟩ := HG.o.form
  have husl : us.length <= 80000 := by
   have h1 := congrArg List.length HM.o; have h2 := HIL.o i (by omega)
   rw [List.length_map,List.length_map] at h1
   omega
  by_cases hlt : i < n
  ·have hk1 : (i : Int) < (n : Int) := by omega
   have HR1 := gh (HRD.o i hlt wr HBL.o); have hzr := HBL.o.size
   go_wp2_with fail
   refine HR1.o.mono ?_; rintro e w1 ⟨B1,v1,us1,hB1,rfl,hb1,hr1,hm1⟩
   have hul1 : us1.length <= 10000 := by
    have h1 := congrArg List.length hm1; rw [List.length_map,HSR.o,List.length_map] at h1; have := HSL.o i; have := HH.o
    omega
   obtain ⟨ax1,cx1,rfl⟩ := hr1.form; have hrow1 : Rowed recE (fun _ => False) w.heap.size 44 w1 us (.slice ax us.length cx) := HG.o.below hb1
   have hreads := Reads.of_own hr1.items; have HROW := gh hrow1; have HRE := gh hreads; have HB1 := gh hb1; have HR1' := gh hr1; have HM1 := gh (hm1.trans (HSR.o i)); have HBB := gh hB1; have hz1' := hb1.size; clear hb1 hr1 hm1 hrow1 hreads HR1 hB1
   go_wp2_with (at_builtin; refine wpList_append_any _ rfl (.tmp 21) (.tmp 22) 30 rfl w.heap.size 44 i0 (.agg #[.int .i64 0, .int .i64 0, .int .i64 0, .int .i64 0, .int .i64 0, .int .i64 0, .int .i64 0, .int .i64 0, .int .i64 0, .float .f64 0, .string ByteArray.empty, .slice none 0 0, .slice none 0 0, .int .i64 0, .int .i64 0, .float .f64 0, .string ByteArray.empty, .slice none 0 0, .slice none 0 0]) 19 232 Tryz.underlying30 HI0.o HZ0.o HZ1.o HZ2.o rfl (by decide) _ us.length (recE.row us) rfl HROW.o.items _ ax1 us1.length cx1 (recE.row us1) rfl HRE.o (fun u hu => by
     obtain ⟨x,hx,hu⟩ := List.mem_flatMap.1 hu; exact recE.one x u hu) (by unfold maxLen; omega) (by omega) (by omega) ?_)
   intro v' w8 hown' hgrow hor
   have hg8 := Rowed_more (xs := us1) (Z := B1) HROW.o (fun b hb => hb.elim) (fun x hx => ⟨(HR1'.out.each x hx).1, recE.mono (HR1'.out.each x hx).2 (fun b hb => hb.1)⟩) (by have := HBB.o; omega) (fun b hb => by
    have h1 := own_lt HG.o.items hb; have := HBB.o
    omega) hown' hgrow hor
   have hb8 : Below w.heap.size w w8 := (HBL.o.trans (HB1.o.mono hzr)).grown hgrow (by omega) (fun k hk => own_ge HROW.o.items hk)
   have hmF : (us ++ us1).map Rc.erase = (inSegs H (i + 1)).map He.rc := by
    rw [List.map_append,HM.o,HM1.o, <- List.map_append]
    rfl
   obtain ⟨ax',cx',rfl⟩ := row_form hown'; have HG8 := gh hg8; have HB8 := gh hb8; have HMF := gh hmF; clear hg8 hb8 hmF hown' hgrow hor
   go_wp2
   go_roundw
   case rel => exact ⟨i + 1,us ++ us1,by omega,rfl,HMF,HG8,HB8⟩
   case measure => simp [intOf]; omega
  ·obtain rfl : i = n := by omega
   have hk1 : ¬ ((i : Int) < (i : Int)) := by omega
   have HS := gh (HSRT.o w.heap.size _ us wr HG.o (by omega) HBL.o.size)
   go_wp2_with fail
   refine HS.o.mono ?_; rintro e w2 ⟨rfl,us',hp,hpw,hr2,hb2⟩
   have HF := gh (show Below w.heap.size w w2 /\ Rowed recE (fun _ => False) w.heap.size 44 w2 us' (.slice ax us.length cx) /\ us'.map Rc.erase = H.map He.rc /\ w.heap.size <= w2.heap.size from
    ⟨HBL.o.trans hb2,hr2,HFI.o us us' HM.o hp hpw, (HBL.o.trans hb2).size⟩)
   clear hp hpw hr2 hb2 HS
   go_wp2
   go_ret
   exact ⟨w.heap.size,_,us',Nat.le_refl _,HF.o.2.2.2,rfl,HF.o.1,HF.o.2.1,HF.o.2.2.1⟩
end Go.Proofs.YtaamihdibpioaaaGreat.Jr
namespace Go.Proofs.YtaamihdibpioaaaGreat.Jr
open Go.RowKit Go.Proofs.YtaamihdibpioaaaGreat.Crc Go.Proofs.YtaamihdibpioaaaGreat.Pk
def RecovOut (s : Jt) (H : List He) (j d : Nat) (w : World) (e : Ending) (w' : World) : Prop :=
 ∃ (B : Nat) (v : Value) (us : List Rc),w.heap.size <= B /\ B <= w'.heap.size /\ e = .returned v /\ Keeps2 w w' j d /\ JAt w' j d (jRecover s H) /\ Rowed recE (fun _ => False) B 44 w' us v /\ us.map Rc.erase = H.map He.rc
theorem readR_row {n : Nat} {rows : List ByteArray} {i : Nat} (hi : i < n) : readR n rows (i : Int) = rowOf rows (i : Int) := by
 unfold readR isSeg; rw [decide_eq_true (by omega)]
 rfl
theorem seg_big {n : Nat} {rows : List ByteArray} {H : List He} {r : Nat -> ByteArray} (hh : Hist n rows H r) (i : Nat) : ∀ p, p ∈ segOf H i -> 4 <= p.size /\ p.size <= 2000 := fun p hp => by
 obtain ⟨x,hx,rfl⟩ := List.mem_map.1 hp; have := (hh.ok x (List.mem_filter.1 hx).1).1; unfold He.pay; rw [payB_size]
 omega
theorem last_seq {us : List Rc} {H : List He} (h : us.map Rc.erase = H.map He.rc) {k : Nat} (hk : us.length = k + 1) : ∃ (hu : k < us.length), (us[k]'hu).seq + 1 = (nextOf H : Int) := by
 have hl : H.length = k + 1 := by
  have := congrArg List.length h; rw [List.length_map,List.length_map] at this
  omega
 refine ⟨by omega,?_⟩
 have h1 : (us.map Rc.erase)[k]? = (H.map He.rc)[k]? := by rw [h]
 rw [List.getElem?_map,List.getElem?_map,List.getElem?_eq_getElem (by omega : k < us.length),List.getElem?_eq_getElem (by omega : k < H.length)] at h1
 have h2 : (us[k]'(by omega)).erase = (H[k]'(by omega)).rc := by simpa using h1
 have h3 := congrArg Rc.seq h2; have h4 : (us[k]'(by omega)).seq = ((H[k]'(by omega)).seq : Int) := h3
 have h5 : H.getLast? = some (H[k]'(by omega)) := by
  rw [List.getLast?_eq_getElem?,show H.length - 1 = k by omega]
  exact List.getElem?_eq_getElem (by omega)
 unfold nextOf; rw [h5,h4]
 simp
theorem nextOf_le {H : List He} (hs : ∀ h, h ∈ H -> h.seq < 4294967296) : nextOf H <= 4294967296 := by
 unfold nextOf
 cases h : H.getLast? with
 | none => simp
 | some x =>
  have := hs x (List.mem_of_getLast? h)
  simp only
  omega
theorem row_at {E : Elem Rc} {w : World} {base : Nat} {v : Value} {us : List Rc} (h : w.ownsRow base 44 19 v us.length (recE.row us)) {k : Nat} (hk : k < us.length) :
  ∃ g c,v = .slice (some ⟨g, 0,none⟩) us.length c /\ us.length <= c /\ base <= g /\ g < w.heap.size /\ w.cell? ⟨g,k * 19,none⟩ = some (.int .i64 (us[k]'hk).seq) := by
 have hh := h
 rcases h.2 with ⟨rfl,h0⟩ | ⟨g,cap,cur,rfl,hb,hg,hc,_⟩
 ·omega
 ·refine ⟨g, cap, rfl, hc, hb, Blk.lt hg, ?_⟩
  have hrow : (recE.row us)[k * 19]? = some (.int .i64 (us[k]'hk).seq) := by
   have : ∀ (us : List Rc) (k : Nat) (hk : k < us.length), (recE.row us)[k * 19]? = some (.int .i64 (us[k]'hk).seq) := by
    intro us
    induction us with
    | nil => intro k hk; simp at hk
    | cons u us ih =>
     intro k hk
     cases k with
     | zero => rfl
     | succ k =>
      show (u.cells ++ recE.row us)[(k + 1) * 19]? = _
      rw [List.getElem?_append_right (by rw [Rc.cells_len]; omega),Rc.cells_len,show (k + 1) * 19 - 19 = k * 19 by omega]
      exact ih k (by simpa using hk)
   exact this us k hk
  have := hh.cells (g := g) rfl (k * 19) _ hrow; rw [Addr.add_lit,Nat.zero_add] at this; exact this
theorem recover_any (hsort : SortSpec) (j d : Nat) (s : Jt) (H : List He) (r : Nat -> ByteArray) (w : World) (h : JAt w j d s) (hh : Hist s.n s.rows H r) (hs : ∀ h, h ∈ H -> h.seq < 4294967296) (hH : H.length <= 10000) :
  Calls Tryz.prog 12 #[.pointer (some ⟨j, 0,none⟩)] w fun e w' => RecovOut s H j d w e w' := by
 have c1 := h.jb.cell 1
 simp at c1
 have hn8 := h.dk.n8; have hcut := fun i (hi : i <= s.n) => hist_cut h.dk hh i hi
 have hrd := fun (i : Nat) (hi : i < s.n) (W : World) (hj : JAt W j d ⟨s.n, cutAll s.n s.rows i, s.next, s.torn⟩) => jread_any j d ⟨s.n, cutAll s.n s.rows i, s.next, s.torn⟩ (i : Int) ((cat (segOf H i)).size : Int) (segOf H i) W hj ⟨by omega, by omega⟩ (by
  show allOf (readR s.n (cutAll s.n s.rows i) (i : Int)) = _
  rw [readR_row hi]; exact (hcut i (by omega)).all hi) (seg_big hh i)
 have hct := fun (i : Nat) (hi : i < s.n) (W : World) (hj : JAt W j d ⟨s.n,cutAll s.n s.rows i,s.next,s.torn⟩) => cut_any d s.n (cutAll s.n s.rows i) (i : Int) ((cat (segOf H i)).size : Int) W hj.db hj.dk
 have hnx := fun (i : Nat) (hi : i < s.n) => show cutR s.n (cutAll s.n s.rows i) (i : Int) ((cat (segOf H i)).size : Int) = cutAll s.n s.rows (i + 1) from by
  show _ = cutR s.n (cutAll s.n s.rows i) (i : Int) (allOf (rowOf (cutAll s.n s.rows i) (i : Int))).2
  rw [(hcut i (by omega)).all hi]
 have hrc := fun (W : World) (hj : JAt W j d ⟨s.n,cutAll s.n s.rows s.n,s.next,s.torn⟩) => records_any hsort j d ⟨s.n,cutAll s.n s.rows s.n,s.next,s.torn⟩ H _ W hj (hcut s.n (Nat.le_refl _)) hs hH
 have hck := fun i => cutAll_dk h.dk i
 have h0 : JAt w j d ⟨s.n,cutAll s.n s.rows 0,s.next,s.torn⟩ := h; have HNL := gh (nextOf_le hs); obtain ⟨n,hn⟩ := gXe (s.n); rw [<- hn] at c1 hn8; have hjl := h.jb.lt; have hdl := h.db.lt; have hjd := h.ne; have HRD := gh hrd; have HCT := gh hct; have HNX := gh hnx; have HRC := gh hrc; have HCK := gh hck; have H0 := gh h0; have HN := gh hn; have HHL := gh hH; clear hrd hct hnx hrc hck h0 hn hcut hsort h hh hs hH
 go_enter Tryz.func12,Tryz.ntmps12
 go_wp2_with fail
 go_loopw [13] (fun iv wr => ∃ (i : Nat),i <= n /\ iv = .int .i64 (i : Int) /\ Hid (JAt wr j d ⟨s.n,cutAll s.n s.rows i,s.next,s.torn⟩) /\ Hid (Keeps2 w wr j d)) (fun iv _ => n - (intOf iv).toNat)
 case atStart => exact ⟨0,by omega,rfl,H0,gh (Keeps2.refl _ _ _)⟩
 case round =>
  obtain ⟨i,hi,rfl,HJ,HK⟩ := hrel
  by_cases hlt : i < n
  ·have hk1 : (i : Int) < (n : Int) := by omega
   have his : i < s.n := by rw [<- HN.o]; exact hlt
   have HR1 := gh (HRD.o i his wr HJ.o)
   go_wp2_with fail
   refine HR1.o.mono ?_; rintro e w1 ⟨B1,v1,us1,hB1,rfl,hb1,hr1,hm1⟩; obtain ⟨ax1,cx1,rfl⟩ := hr1.form; have hj1 := HJ.o.below hb1; have HC1 := gh (HCT.o i his w1 hj1); have HJ1 := gh hj1; have HK1 := gh (HK.o.trans (Keeps2.of_below hb1 j d)); have c0 := hj1.jb.cell 0
   simp at c0
   clear hb1 hr1 hm1 hj1 HR1 hB1
   go_wp2_with fail
   refine HC1.o.mono ?_; rintro e w2 ⟨rfl,ho2,hd2⟩; have HK2 := gh (HK1.o.trans (Keeps2.of_only2 ho2)); have hj2 : JAt w2 j d ⟨s.n,cutAll s.n s.rows (i + 1),s.next,s.torn⟩ := ⟨HJ1.o.jb.grown ho2 (by simp; exact hjd),by rw [HNX.o i his] at hd2; exact hd2,HCK.o (i + 1)⟩
   have HJ2 := gh hj2; clear hj2 ho2 hd2 HC1 c0
   go_wp2
   go_roundw
   case rel => exact ⟨i + 1,by omega,rfl,HJ2,HK2⟩
   case measure => simp [intOf]; omega
  ·obtain rfl : i = n := by omega
   have hk1 : ¬ ((i : Int) < (i : Int)) := by omega
   have hjn : JAt wr j d ⟨s.n, cutAll s.n s.rows s.n, s.next, s.torn⟩ := by
    have := HJ.o; rw [HN.o] at this; exact this
   have HRR := gh (HRC.o wr hjn); have HJN := gh hjn; clear hjn
   go_wp2_with fail
   refine HRR.o.mono ?_; rintro e w1 ⟨B,v,us,hB,hB2,rfl,hb1,hr1,hm1⟩; obtain ⟨ax,cx,rfl⟩ := hr1.form; have hj1 := HJN.o.below hb1; have hK1 := HK.o.trans (Keeps2.of_below hb1 j d)
   have hul : us.length <= 10000 := by
    have := congrArg List.length hm1; rw [List.length_map,List.length_map] at this; have := HHL.o
    omega
   have hzr := HK.o.size; have hjB : j < B := by omega
   have j2 := hj1.jb.cell 2; have g2 := hj1.jb.frozen 2; have j3 := hj1.jb.cell 3; have g3 := hj1.jb.frozen 3
   simp at j2 j3
   obtain ⟨W2,hW2⟩ := gXe ((w1.setCell ⟨j, 3,none⟩ (.bool false)).setCell ⟨j, 2,none⟩ (.int .i64 1)); have hjb2 : Blk W2 j 68 #[.pointer (some ⟨d, 0,none⟩), .int .i64 s.n, .int .i64 1, .bool false] := by rw [hW2]; exact (hj1.jb.set_ 3 (.bool false)).set_ 2 (.int .i64 1)
   have hdb2 : Blk W2 d 92 (diskCells s.n (cutAll s.n s.rows s.n)) := by rw [hW2]; exact (hj1.db.far (p := ⟨j, 3,none⟩) (Ne.symm hjd) _).far (p := ⟨j, 2,none⟩) (Ne.symm hjd) _
   have hK2 : Keeps2 w W2 j d := by rw [hW2]; exact hK1.trans (Keeps2.of_only1 (((Only.refl _ _).set_ (p := ⟨j, 3,none⟩) (.inl rfl) _).set_ (p := ⟨j, 2,none⟩) (.inl rfl) _))
   have hr2 : Rowed recE (fun _ => False) B 44 W2 us (.slice ax us.length cx) := by
    rw [hW2]; exact (hr1.set_ (p := ⟨j, 3,none⟩) (fun b hb => hb.elim) hjB _).set_ (p := ⟨j, 2,none⟩) (fun b hb => hb.elim) hjB _
   have hz2 : W2.heap.size = w1.heap.size := by rw [hW2]; simp [World.setCell]
   have hdk := hj1.dk; have HW2 := gh hW2; have HJB := gh hjb2; have HDB := gh hdb2; have HK2 := gh hK2; have HR2 := gh hr2; have HM := gh hm1; have HDK := gh hdk; have HBw : Hid (w.heap.size <= B /\ B <= W2.heap.size) := gh ⟨by omega,by omega⟩
   clear hW2 hjb2 hdb2 hK2 hr2 hm1 hdk hb1 hr1 hj1 hK1 hB hB2 HRR hz2
   go_upto_region 11 with fail
   rw [<- HW2.o]; clear j2 g2 j3 g3; obtain ⟨m,hm⟩ := gXe (us.length)
   by_cases h0 : us.length = 0
   ·have hnx : nextOf H = 1 := by
     have := congrArg List.length HM.o; rw [List.length_map,List.length_map,h0] at this; rw [List.eq_nil_of_length_eq_zero this.symm]
     rfl
    have HJF : Hid (JAt W2 j d (jRecover s H)) := gh (by
     refine ⟨?_,HDB.o,HDK.o⟩
     show Blk W2 j 68 #[_,_, .int .i64 ((nextOf H : Nat) : Int),_]
     rw [hnx]; exact HJB.o)
    have hr := HR2.o; rw [h0] at hr ⊢; have HR3 := gh hr; clear hm hnx hr
    go_wp2
    go_ret
    exact ⟨B,_,us,HBw.o.1,HBw.o.2,rfl,HK2.o,HJF.o,HR3.o,HM.o⟩
   ·obtain ⟨k, hk⟩ : ∃ k, us.length = k + 1 := ⟨us.length - 1, by omega⟩
    obtain ⟨hku,hseq⟩ := last_seq HM.o hk; obtain ⟨g,c,hv,hcap,hgB,hgl,hcell⟩ := row_at (E := recE) HR2.o.items hku; injection hv with hv1 hv2 hv3; subst hv1 hv3; obtain ⟨q,hq⟩ := gXe ((us[k]'hku).seq); rw [<- hq] at hseq hcell; have hr := HR2.o; rw [hk] at hr hcap ⊢; have HR3 := gh hr; have j2 := HJB.o.cell 2; have g2 := HJB.o.frozen 2
    simp at j2
    have hnl := HNL.o; have hq1 : -9223372036854775808 <= q + 1 := by omega
    have hq2 : q + 1 <= 9223372036854775807 := by omega
    have hw1 : IntKind.i64.wrap (q + 1) = q + 1 := IntWalk.i64_in _ ⟨hq1,hq2⟩; have hkl : k <= 9999 := by omega
    have hk0 : (0 : Int) < ((k : Int) + 1) := by omega
    have hjW : j < W2.heap.size := HJB.o.lt
    have HJF : Hid (JAt (W2.setCell ⟨j, 2, none⟩ (.int .i64 (q + 1))) j d (jRecover s H) /\ Keeps2 w (W2.setCell ⟨j, 2, none⟩ (.int .i64 (q + 1))) j d /\ Rowed recE (fun _ => False) B 44 (W2.setCell ⟨j, 2, none⟩ (.int .i64 (q + 1))) us (.slice (some ⟨g, 0, none⟩) (k + 1) cx)) := gh (by
     refine ⟨⟨?_,HDB.o.far (p := ⟨j, 2,none⟩) (Ne.symm hjd) _,HDK.o⟩,HK2.o.trans (Keeps2.of_only1 ((Only.refl _ _).set_ (p := ⟨j, 2,none⟩) (.inl rfl) _)),HR3.o.set_ (p := ⟨j, 2,none⟩) (fun b hb => hb.elim) hjB _⟩
     show Blk _ j 68 #[_,_, .int .i64 ((nextOf H : Nat) : Int),_]
     rw [<- hseq]; exact HJB.o.set_ 2 _)
    have HBz : Hid (B <= (W2.setCell ⟨j, 2,none⟩ (.int .i64 (q + 1))).heap.size) := gh (by simp [World.setCell]; exact HBw.o.2)
    clear hm hk hku hseq hq hr h0 hul HRD HCT HNX HRC HCK hnl HNL
    go_wp2
    go_ret
    exact ⟨B,_,us,HBw.o.1,HBz.o,rfl,HJF.o.2.1,HJF.o.1,HJF.o.2.2,HM.o⟩
end Go.Proofs.YtaamihdibpioaaaGreat.Jr
namespace Go.Proofs.YtaamihdibpioaaaGreat.Jr
open Go.RowKit Go.Proofs.YtaamihdibpioaaaGreat.Crc Go.Proofs.YtaamihdibpioaaaGreat.Pk
def tickC : Cm := ⟨4, 0, 0, 0, 0,Val.zero,Val.zero⟩
theorem tick_in (w : World) : tickC.In w := ⟨fun x hx => by
 simp only [tickC,Cm.ints,List.mem_cons,List.not_mem_nil,or_false] at hx
 rcases hx with rfl | rfl | rfl | rfl | rfl <;> exact ⟨by omega,by omega⟩,zero_in _,zero_in _⟩
theorem tick_enc : tickC.enc = some [4, 0, 0, 0, 0, 0, 0] := by
 have h1 : ub (Int.toNat 4) = [4] := by rw [ub_small (by decide)]; rfl
 have h2 : ub (Int.toNat 0) = [0] := by rw [ub_small (by decide)]; rfl
 have hs : someB Val.zero = some [0] := by
  unfold someB; rw [if_pos (show Val.zero.k = 0 from rfl),show Val.zero.noneB = true from by decide +kernel]
  rfl
 have hn : numsB tickC.ints = [4, 0, 0, 0, 0] := by
  simp only [numsB,tickC,Cm.ints,List.flatMap_cons,List.flatMap_nil,h1,h2]
  rfl
 unfold Cm.enc; have hA : tickC.ints.all numOk = true := by decide
 rw [hA]; simp only [cond_true]
 show (match someB Val.zero with | none => none | some a => match someB Val.zero with | none => none | some b => some (numsB tickC.ints ++ a ++ b)) = _
 rw [hs,hn]
 rfl
theorem tick_any (w : World) : Calls Tryz.prog 21 #[] w fun e w' => e = .returned tickC.agg /\ Below w.heap.size w w' := by
 have hsf := run_store_flt; have hag : tickC.agg = .agg #[.int .i64 4, .int .i64 0, .int .i64 0, .int .i64 0, .int .i64 0, .int .i64 0, .int .i64 0, .float .f64 0, .string ByteArray.empty, .slice none 0 0, .slice none 0 0, .int .i64 0, .int .i64 0, .float .f64 0, .string ByteArray.empty, .slice none 0 0, .slice none 0 0] := rfl; rw [hag]; obtain ⟨W,hW⟩ := gXe (w.alloc (.cells #[.int .i64 4, .int .i64 0, .int .i64 0, .int .i64 0, .int .i64 0, .int .i64 0, .int .i64 0, .float .f64 0, .string ⟨#[]⟩, .slice none 0 0, .slice none 0 0, .int .i64 0, .int .i64 0, .float .f64 0, .string ⟨#[]⟩, .slice none 0 0, .slice none 0 0] 39)); have hb : Below w.heap.size w W := by rw [hW]; exact (Below.refl _ _).alloc (Nat.le_refl _) _
 have hblk : Blk W w.heap.size 39 #[.int .i64 4, .int .i64 0, .int .i64 0, .int .i64 0, .int .i64 0, .int .i64 0, .int .i64 0, .float .f64 0, .string ⟨#[]⟩, .slice none 0 0, .slice none 0 0, .int .i64 0, .int .i64 0, .float .f64 0, .string ⟨#[]⟩, .slice none 0 0, .slice none 0 0] := by rw [hW]; exact Blk.new _ _ _
 have HB := gh hb; have HK := gh hblk; have HW := gh hW; clear hb hblk hW hag
 go_enter Tryz.func21,Tryz.ntmps21
 go_wp2
 rw [<- HW.o]; have e0 := HK.o.cell 0; have e1 := HK.o.cell 1; have e2 := HK.o.cell 2; have e3 := HK.o.cell 3; have e4 := HK.o.cell 4; have e5 := HK.o.cell 5; have e6 := HK.o.cell 6; have e7 := HK.o.cell 7; have e8 := HK.o.cell 8; have e9 := HK.o.cell 9; have e10 := HK.o.cell 10; have e11 := HK.o.cell 11; have e12 := HK.o.cell 12; have e13 := HK.o.cell 13; have e14 := HK.o.cell 14; have e15 := HK.o.cell 15; have e16 := HK.o.cell 16; simp only [gX0,gX1,gX2] at e0 e1 e2 e3 e4 e5 e6 e7 e8 e9 e10 e11 e12 e13 e14 e15 e16; refine bodyPost_ret (v := .agg #[.int .i64 4, .int .i64 0, .int .i64 0, .int .i64 0, .int .i64 0, .int .i64 0, .int .i64 0, .float .f64 0, .string ⟨#[]⟩, .slice none 0 0, .slice none 0 0, .int .i64 0, .int .i64 0, .float .f64 0, .string ⟨#[]⟩, .slice none 0 0, .slice none 0 0]) (by simp [results,Tryz.results21,go_sem,e0,e1,e2,e3,e4,e5,e6,e7,e8,e9,e10,e11,e12,e13,e14,e15,e16]) rfl ?_
 exact ⟨rfl,HB.o⟩
end Go.Proofs.YtaamihdibpioaaaGreat.Jr
namespace Go.Proofs.YtaamihdibpioaaaGreat.Rf
open Go.RowKit Go.Proofs.YtaamihdibpioaaaGreat.Pk
def OutAt (w : World) (o : Nat) (r : Option (List UInt8)) (m : Nat) : Prop := ∃ (S : ByteArray) (b : Bool), Blk w o 150 #[.string S, .bool b] /\ S.size <= m /\ match r with
 | some l => S = strB l /\ b = false
 | none => b = true
def OutDid (r : Option (List UInt8)) (m o : Nat) (w : World) (e : Ending) (w' : World) : Prop := e = .returned (.tuple #[]) /\ Only w w' o /\ OutAt w' o r m
def addR (r : Option (List UInt8)) (x : Option (List UInt8)) : Option (List UInt8) := match r, x with
 | some l,some a => some (l ++ a)
 | _,_ => none
def numR (n : Int) : Option (List UInt8) := bif numOk n then some (ub n.toNat) else none
theorem outAt_add {w : World} {o : Nat} {r : Option (List UInt8)} {S : ByteArray} {b : Bool} {m k : Nat} {a : List UInt8} (h : Blk w o 150 #[.string (S ++ strB a), .bool b]) (hz : S.size <= m) (hr : match (motive := Option (List UInt8) -> Prop) r with | some l => S = strB l /\ b = false | none => b = true) (ha : a.length <= k) :
  OutAt w o (addR r (some a)) (m + k) := by
 refine ⟨_,b,h,by rw [ByteArray.size_append,strB_size]; omega,?_⟩
 cases r with
 | none => exact hr
 | some l =>
  obtain ⟨rfl,rfl⟩ := hr; exact ⟨by rw [strB_append],rfl⟩
theorem outAt_bad {w : World} {o : Nat} {r : Option (List UInt8)} {S : ByteArray} {m k : Nat} (h : Blk w o 150 #[.string S, .bool true]) (hz : S.size <= m) : OutAt w o (addR r none) (m + k) := by
 refine ⟨S,true,h,by omega,?_⟩
 cases r <;> rfl
theorem onum_any (o : Nat) (r : Option (List UInt8)) (m : Nat) (n : Int) (w : World) (h : OutAt w o r m) (hm : m <= 1000000) :
  Calls Tryz.prog 86 #[.pointer (some ⟨o, 0,none⟩), .int .i64 n] w fun e w' => OutDid (addR r (numR n)) (m + 10) o w e w' := by
 obtain ⟨S,b,hb,hz,hr⟩ := h; have c0 := hb.cell 0; have c1 := hb.cell 1; have f0 := hb.frozen 0; have f1 := hb.frozen 1
 simp at c0 c1
 obtain ⟨R,hR⟩ := gXe (addR r (numR n)); rw [<- hR]; have hlt := hb.lt; have HB := gh hb; have HR := gh hR; have HRR := gh hr; clear hb hR hr
 have hbad : numOk n = false -> OutAt (w.setCell ⟨o, 1, none⟩ (.bool true)) o R (m + 10) := fun h => by
  rw [HR.o,show numR n = none by unfold numR; rw [h]; rfl]
  exact outAt_bad (S := S) (HB.o.set_ 1 _) hz
 have HBAD := gh hbad; clear hbad
 by_cases h0 : n < 0
 ·have i0 : decide (n < 0) = true := by simpa using h0
  have HF := gh (HBAD.o (by unfold numOk; rw [decide_eq_false (by omega)]; rfl))
  go_enter Tryz.func86,Tryz.ntmps86
  go_wp2
  go_end0
  exact ⟨rfl, (Only.refl w o).set_ (p := ⟨o, 1,none⟩) (.inl rfl) _,HF.o⟩
 ·by_cases h1 : 10000 < n
  ·have i0 : decide (n < 0) = false := by simpa using h0
   have i1 : decide (10000 < n) = true := by simpa using h1
   have HF := gh (HBAD.o (by unfold numOk; rw [decide_eq_false (by omega : ¬ n <= 10000)]; simp))
   go_enter Tryz.func86,Tryz.ntmps86
   go_wp2
   go_end0
   exact ⟨rfl, (Only.refl w o).set_ (p := ⟨o, 1,none⟩) (.inl rfl) _,HF.o⟩
  ·have i0 : decide (n < 0) = false := by simpa using h0
   have i1 : decide (10000 < n) = false := by simpa using h1
   obtain ⟨k,rfl⟩ := Int.eq_ofNat_of_zero_le (by omega : 0 <= n)
   have hcv : IntKind.u64.wrap (k : Int) = k := by rw [IntKind.wrap_u64]; omega
   have hok0 : numOk (k : Int) = true := by unfold numOk; rw [decide_eq_true (by omega : (0 : Int) <= (k : Int)),decide_eq_true (by omega : (k : Int) <= 10000)]; rfl
   have hok : numR (k : Int) = some (ub k) := by unfold numR; rw [hok0]; rfl
   have hcat : ¬ 9223372036854775807 < S.size + (uintS k).size := by
    have h3 : (uintS k).size = (ub k).length := by rw [<- size_list]; simp [uintS]
    have := ub_len64 (n := k) (by omega)
    omega
   have HU := gh (wuint5_any k w.drew (by omega))
   have hul := ub_len64 (n := k) (by omega)
   have HOK := gh hok; have HUL := gh hul; clear hok hok0 HBAD h0 h1 hul
   go_enter Tryz.func86,Tryz.ntmps86
   go_wp2_with fail
   go_region_law (first
    | (go_simp; go_at_call 112; refine HU.o.mono ?_; rintro e w1 ⟨rfl, hb1⟩;
       have hb1' : Below w.heap.size w w1 := (Below.refl w.heap.size w).drew.trans hb1;
       have hB1 := HB.o.below hb1' hlt;
       have k0 := hB1.cell 0; have g0 := hB1.frozen 0;
       simp at k0;
       have HF := gh (show Only w (w1.setCell ⟨o, 0, none⟩ (.string (S ++ strB (ub k)))) o /\ OutAt (w1.setCell ⟨o, 0, none⟩ (.string (S ++ strB (ub k)))) o R (m + 10) from
        ⟨(Only.of_below hb1' o).set_ (p := ⟨o, 0,none⟩) (.inl rfl) _,by rw [HR.o,HOK.o]; exact outAt_add (hB1.set_ 0 _) hz HRR.o HUL.o⟩);
       clear hb1 hb1' hB1 c0 c1 f0 f1)
    | fail)
   all_goals
    go_wp2
    go_end0
    exact ⟨rfl,HF.o.1,HF.o.2⟩
theorem none_any (v : Val) (w : World) (hv : v.In w) : Calls Tryz.prog 113 #[v.agg] w fun e w' => BoolBelow v.noneB w e w' := by
 have hsf := run_store_flt; have hxr := fun (W : World) (hb : Below w.heap.size w W) => rvarx_rightf v W (varX_in (hv.below hb))
 have hxag : (varX v).agg = .agg #[.int .i64 2, .string ⟨#[120]⟩, .int .i64 v.k, .int .i64 v.n, .float .f64 v.f, .string v.s,v.na.val v.ns.length,v.xa.val v.xs.length, .slice none 0 0, .slice none 0 0] := rfl; rw [hxag] at hxr; obtain ⟨p4,q4,e4⟩ := hv.nslice; obtain ⟨p5,q5,e5⟩ := hv.xslice; obtain ⟨W,hW⟩ := gXe ((w.alloc (.cells #[.int .i64 v.k, .int .i64 v.n, .float .f64 v.f, .string v.s,v.na.val v.ns.length,v.xa.val v.xs.length] 37)).alloc (.cells #[.int .i64 2, .string ⟨#[120]⟩, .int .i64 v.k, .int .i64 v.n, .float .f64 v.f, .string v.s,v.na.val v.ns.length,v.xa.val v.xs.length, .slice none 0 0, .slice none 0 0] 169)); have hb : Below w.heap.size w W := by rw [hW]; exact ((Below.refl _ _).alloc (Nat.le_refl _) _).alloc (by simp) _
 unfold Val.agg; rw [e4,e5] at hxr hW ⊢; have HX := gh (hxr W hb); have HB := gh hb; have HW := gh hW; clear hxr hW hb e4 e5 hxag hv
 go_enter Tryz.func113,Tryz.ntmps113
 go_wp2_with fail
 rw [<- HW.o]; refine HX.o.mono ?_; rintro e w1 ⟨rfl,hb1⟩; have HF := gh (HB.o.trans (hb1.mono HB.o.size)); clear hb1
 go_wp2
 go_ret
 exact ⟨rfl,HF.o⟩
theorem in_only {v : Val} {B o : Nat} {w w' : World} (h : v.In w) (hs : v.Sep (fun b => b < B)) (hB : B <= o) (ho : Only w w' o) : v.In w' :=
 h.carryS hs (fun b c hb hlt => only_cell ho (by have hb' : b < B := hb; omega) hlt c) ho.size
def valR (v : Val) : Option (List UInt8) := bif v.RightB then some v.enc else none
theorem oval_any (o B : Nat) (r : Option (List UInt8)) (m : Nat) (v : Val) (w : World) (h : OutAt w o r m) (hm : m <= 1000000) (hv : v.In w) (hs : v.Sep (fun b => b < B)) (hB : B <= o) :
  Calls Tryz.prog 114 #[.pointer (some ⟨o, 0,none⟩),v.agg] w fun e w' => OutDid (addR r (valR v)) (m + 60000) o w e w' := by
 obtain ⟨S,b,hb,hz,hr⟩ := h; obtain ⟨p4,q4,e4⟩ := hv.nslice; obtain ⟨p5,q5,e5⟩ := hv.xslice; obtain ⟨T,hT⟩ := gXe (w.heap.size); obtain ⟨W,hW⟩ := gXe (w.alloc (.cells #[.int .i64 v.k, .int .i64 v.n, .float .f64 v.f, .string v.s,v.na.val v.ns.length,v.xa.val v.xs.length] 37)); have hbW : Below w.heap.size w W := by rw [hW]; exact (Below.refl _ _).alloc (Nat.le_refl _) _
 have hbT : Blk W T 37 #[.int .i64 v.k, .int .i64 v.n, .float .f64 v.f, .string v.s,v.na.val v.ns.length,v.xa.val v.xs.length] := by rw [hW,hT]; exact Blk.new _ _ _
 have hrt := rrightf_any v W (hv.below hbW); have hen := fun (hR : v.RightB = true) => Val.enc_bound v hR (hv.below hbW)
 have hwv := fun (W' : World) (hb : Below W.heap.size W W') (hR : v.RightB = true) => rwvalue_any v.sz v 1 W' (Nat.le_refl _) ((hv.below hbW).below hb) (right_sz hR).2 (by have := Val.enc_bound v hR (hv.below hbW); omega)
 obtain ⟨R,hR⟩ := gXe (addR r (valR v)); obtain ⟨RB,hRB⟩ := gXe (v.RightB); obtain ⟨E,hE⟩ := gXe (v.enc); have hR2 : R = addR r (bif RB then some E else none) := by rw [hR,hRB,hE]; rfl
 rw [<- hR]; rw [<- hRB] at hrt hen; rw [<- hE] at hen; simp only [<- hRB, <- hE] at hwv; unfold Val.agg at hrt hwv ⊢; rw [e4,e5] at hbT hW hrt ⊢; simp only [e4,e5] at hwv; have hlt := hb.lt; have hoT : o ≠ T := by omega
 have hbo : Blk W o 150 #[.string S, .bool b] := hb.below hbW hlt; have hTW : T < W.heap.size := hbT.lt; have hoW : o < W.heap.size := hbo.lt; have HT := gh hT; have HW := gh hW; have HBW := gh hbW; have HBT := gh hbT; have HBO := gh hbo; have HRT := gh hrt; have HWV := gh hwv; have HEN := gh hen; have HR := gh hR2; have HRR := gh hr; have t0 := hbT.cell 0; have t1 := hbT.cell 1; have t2 := hbT.cell 2; have t3 := hbT.cell 3; have t4 := hbT.cell 4; have t5 := hbT.cell 5; simp only [gX0,gX1,gX2] at t0 t1 t2 t3 t4 t5; clear hT hW hbW hbT hbo hrt hwv hen hR hR2 hRB hE hb hr e4 e5 hv hs hlt
 go_enter Tryz.func114,Tryz.ntmps114
 go_wp2_with fail
 rw [<- HW.o, <- HT.o]
 go_wp2_with fail
 refine HRT.o.mono ?_; rintro e w1 ⟨rfl,hb1⟩; have hO1 := HBO.o.below hb1 hoW; have hT1 := HBT.o.below hb1 hTW; have HB1 := gh hb1; have HO1 := gh hO1; have HT1 := gh hT1; have hz1 := hb1.size; clear hb1 hO1 hT1 t0 t1 t2 t3 t4 t5
 cases RB with
 | false =>
  have c1 := HO1.o.cell 1; have f1 := HO1.o.frozen 1
  simp at c1
  have HF := gh (show Only w (w1.setCell ⟨o, 1, none⟩ (.bool true)) o /\ OutAt (w1.setCell ⟨o, 1, none⟩ (.bool true)) o R (m + 60000) from
   ⟨(Only.of_below (HBW.o.trans (HB1.o.mono HBW.o.size)) o).set_ (p := ⟨o, 1,none⟩) (.inl rfl) _,by rw [HR.o]; exact outAt_bad (S := S) (HO1.o.set_ 1 _) hz⟩)
  go_wp2
  go_end0
  exact ⟨rfl,HF.o.1,HF.o.2⟩
 | true =>
  have t0 := HT1.o.cell 0; have t1 := HT1.o.cell 1; have t2 := HT1.o.cell 2; have t3 := HT1.o.cell 3; have t4 := HT1.o.cell 4; have t5 := HT1.o.cell 5; simp only [gX0,gX1,gX2] at t0 t1 t2 t3 t4 t5; have c0 := HO1.o.cell 0
  simp at c0
  have HU := gh (HWV.o w1.drew (HB1.o.drew) (by trivial))
  have hel := HEN.o rfl; have HEL := gh hel; have hcat : ¬ 9223372036854775807 < S.size + (strB E).size := by rw [strB_size]; omega
  have hol := HO1.o.lt; clear hel
  go_wp2_with fail
  go_region_law (first
   | (go_simp; go_at_call 133; refine HU.o.mono ?_; rintro e w2 ⟨rfl, hb2⟩;
      have hb2' : Below w1.heap.size w1 w2 := (Below.refl w1.heap.size w1).drew.trans hb2;
      have hO2 := HO1.o.below hb2' hol;
      have k0 := hO2.cell 0; have g0 := hO2.frozen 0;
      simp at k0;
      have HF := gh (show Only w (w2.setCell ⟨o, 0, none⟩ (.string (S ++ strB E))) o /\ OutAt (w2.setCell ⟨o, 0, none⟩ (.string (S ++ strB E))) o R (m + 60000) from
       ⟨(Only.of_below (HBW.o.trans ((HB1.o.trans (hb2'.mono hz1)).mono HBW.o.size)) o).set_ (p := ⟨o, 0,none⟩) (.inl rfl) _,by rw [HR.o]; exact outAt_add (hO2.set_ 0 _) hz HRR.o HEL.o⟩);
      clear hb2 hb2' hO2 c0)
   | fail)
  all_goals
   go_wp2
   go_end0
   exact ⟨rfl,HF.o.1,HF.o.2⟩
end Go.Proofs.YtaamihdibpioaaaGreat.Rf
namespace Go.Proofs.YtaamihdibpioaaaGreat.Jf
open Go.RowKit Go.Proofs.YtaamihdibpioaaaGreat.Jr Go.Proofs.YtaamihdibpioaaaGreat.Crc Go.Proofs.YtaamihdibpioaaaGreat.Pk
def insR (x : Rc) : List Rc -> List Rc
 | [] => [x]
 | u :: L => if u.seq < x.seq then u :: insR x L else x :: u :: L
theorem insR_at {x : Rc} : ∀ {L : List Rc} {k : Nat}, k <= L.length -> (∀ j (h : j < L.length), j < k -> (L[j]'h).seq < x.seq) -> (∀ h : k < L.length, ¬ (L[k]'h).seq < x.seq) -> insR x L = L.take k ++ x :: L.drop k
 | [],k,hk,_,_ => by simp at hk; subst hk; rfl
 | u :: L, 0, _, _, h2 => by
  have := h2 (by simp)
  simp only [List.getElem_cons_zero] at this
  simp [insR,this]
 | u :: L, k + 1, hk, h1, h2 => by
  have h0 : u.seq < x.seq := h1 0 (by simp) (by omega)
  have ih := insR_at (x := x) (L := L) (k := k) (by simpa using hk) (fun j hj hjk => h1 (j + 1) (by simpa using hj) (by omega)) (fun h => h2 (by simpa using h))
  simp [insR,h0,ih]
theorem insR_erase (x : Rc) : ∀ L : List Rc, (insR x L).map Rc.erase = insR x.erase (L.map Rc.erase)
 | [] => rfl
 | u :: L => by
  have e1 : u.erase.seq = u.seq := rfl; have e2 : x.erase.seq = x.seq := rfl; simp only [insR,List.map_cons,e1,e2]
  split
  ·rw [List.map_cons,insR_erase x L]
  ·rfl
theorem insR_perm (x : Rc) : ∀ L : List Rc, (insR x L).Perm (x :: L)
 | [] => List.Perm.refl _
 | u :: L => by
  unfold insR
  split
  ·exact ((insR_perm x L).cons u).trans (List.Perm.swap x u L)
  ·exact List.Perm.refl _
theorem insR_sorted {x : Rc} : ∀ {L : List Rc}, L.Pairwise (fun a b => a.seq <= b.seq) -> (insR x L).Pairwise (fun a b => a.seq <= b.seq)
 | [],_ => by simp [insR]
 | u :: L, h => by
  rw [List.pairwise_cons] at h; unfold insR
  split
  ·rename_i hlt
   rw [List.pairwise_cons]; refine ⟨fun b hb => ?_,insR_sorted h.2⟩
   have := (insR_perm x L).subset hb
   rcases List.mem_cons.1 this with rfl | hb'
   ·omega
   ·exact h.1 b hb'
  ·rename_i hge
   rw [List.pairwise_cons]; refine ⟨fun b hb => ?_,by rw [List.pairwise_cons]; exact h⟩
   rcases List.mem_cons.1 hb with rfl | hb'
   ·omega
   ·have := h.1 b hb'; omega
def insAll (rs : List Rc) : List Rc := rs.foldl (fun L x => insR x L) []
theorem insAll_snoc (rs : List Rc) (x : Rc) : insAll (rs ++ [x]) = insR x (insAll rs) := by
 unfold insAll; rw [List.foldl_append]
 rfl
theorem foldl_perm : ∀ (rs L : List Rc), (rs.foldl (fun L x => insR x L) L).Perm (rs ++ L)
 | [],L => List.Perm.refl _
 | x :: rs, L => by
  show (rs.foldl _ (insR x L)).Perm _
  refine (foldl_perm rs (insR x L)).trans ?_; refine ((insR_perm x L).append_left rs).trans ?_; exact List.perm_middle
theorem foldl_sorted : ∀ (rs L : List Rc), L.Pairwise (fun a b => a.seq <= b.seq) -> (rs.foldl (fun L x => insR x L) L).Pairwise (fun a b => a.seq <= b.seq)
 | [],L,h => h
 | x :: rs,L,h => foldl_sorted rs (insR x L) (insR_sorted h)
theorem insAll_len (rs : List Rc) : (insAll rs).length = rs.length := by
 have := (foldl_perm rs []).length_eq
 simpa [insAll] using this
theorem insAll_all {H : List He} {n : Nat} (hl : ∀ x, x ∈ H -> x.label < n) (hu : H.Pairwise fun a b => a.seq < b.seq) : insAll ((inSegs H n).map He.rc) = H.map He.rc := by
 refine rising_same Rc.seq ?_ ?_ ?_
 ·have h1 : (insAll ((inSegs H n).map He.rc)).Perm ((inSegs H n).map He.rc ++ []) := foldl_perm _ _
  rw [List.append_nil] at h1; exact h1.trans ((inSegs_perm hl).map He.rc)
 ·rw [List.pairwise_map]
  refine hu.imp ?_; intro a b h
  show (a.seq : Int) < (b.seq : Int)
  omega
 ·exact foldl_sorted _ [] List.Pairwise.nil
end Go.Proofs.YtaamihdibpioaaaGreat.Jf
namespace Go.Proofs.YtaamihdibpioaaaGreat.Ri
open Go.RowKit Go.Proofs.YtaamihdibpioaaaGreat.Pk
def RSt (w : World) (g : Nat) (s : ByteArray) : Option Nat -> Prop
 | some p => p <= s.size /\ RAt w g s p 0 0
 | none => ∃ (p : Nat) (k : Int),k ≠ 0 /\ RAt w g s p k 0
theorem RSt.lt {w : World} {g : Nat} {s : ByteArray} {o : Option Nat} (h : RSt w g s o) : g < w.heap.size := by
 cases o with
 | some p => exact Blk.lt h.2
 | none => obtain ⟨p,k,_,h⟩ := h; exact Blk.lt h
theorem RSt.below {w w' : World} {g : Nat} {s : ByteArray} {o : Option Nat} (h : RSt w g s o) (hb : Below w.heap.size w w') : RSt w' g s o := by
 have hl := h.lt
 cases o with
 | some p => exact ⟨h.1,Blk.below h.2 hb hl⟩
 | none => obtain ⟨p,k,hk,h⟩ := h; exact ⟨p,k,hk,Blk.below h hb hl⟩
theorem RSt.only {w w' : World} {g x : Nat} {s : ByteArray} {o : Option Nat} (h : RSt w g s o) (hb : Only w w' x) (hx : g ≠ x) : RSt w' g s o := by
 cases o with
 | some p => exact ⟨h.1,Blk.grown h.2 hb (by simpa using hx)⟩
 | none => obtain ⟨p,k,hk,h⟩ := h; exact ⟨p,k,hk,Blk.grown h hb (by simpa using hx)⟩
def numR (s : ByteArray) (o : Option Nat) : Option (Nat × Nat) := o.bind (rdN s)
def fstN : Option (Nat × Nat) -> Nat
 | some (n,_) => n
 | none => 0
def sndN {A : Type} : Option (A × Nat) -> Option Nat
 | some (_,q) => some q
 | none => none
def NumD (s : ByteArray) (o : Option Nat) (g : Nat) (w : World) (e : Ending) (w' : World) : Prop :=
 e = .returned (.int .i64 (fstN (numR s o))) /\ RSt w' g s (sndN (numR s o)) /\ Only w w' g
theorem fuint_old (s : ByteArray) (p : Nat) (k parts : Int) (g : Nat) (w : World) (h : RAt w g s p k parts) (hk : k ≠ 0) :
  Calls Tryz.prog 89 #[.pointer (some ⟨g, 0,none⟩)] w fun e w' => e = .returned (.int .u64 0) /\ w = w' := by
 have H := gh h; have HK := gh hk; clear h hk
 go_enter Tryz.func89,Tryz.ntmps89
 go_wp2_with fail
 go_loopw [3, 4] (fun nv iv wr => nv = .int .u64 0 /\ iv = .int .i64 0 /\ Hid (w = wr)) (fun _ iv _ => 0)
 case atStart => exact ⟨rfl,rfl,gh rfl⟩
 case round =>
  obtain ⟨rfl,rfl,HW⟩ := hrel; obtain rfl := HW.o; have HB := gh (fbyte_old k s p parts g w H.o HK.o)
  go_wp2_with fail
  refine HB.o.mono ?_; rintro e w2 ⟨rfl,rfl⟩; have c2 := H.o.cell 2
  simp at c2
  have i1 : (k != 0) = true := by simpa using HK.o
  go_wp2
  go_ret
  exact ⟨rfl,rfl⟩
theorem inok_any (s : ByteArray) (o : Option Nat) (g : Nat) (w : World) (h : RSt w g s o) :
  Calls Tryz.prog 58 #[.agg #[.pointer (some ⟨g, 0,none⟩)]] w fun e w' => e = .returned (.bool o.isSome) /\ Below w.heap.size w w' := by
 obtain ⟨W,hW⟩ := gXe (w.alloc (.cells #[.pointer (some ⟨g, 0,none⟩)] 112)); have hb : Below w.heap.size w W := by rw [hW]; exact (Below.refl _ _).alloc (Nat.le_refl _) _
 have hi : Blk W w.heap.size 112 #[.pointer (some ⟨g, 0,none⟩)] := by rw [hW]; exact Blk.new _ _ _
 have c0 := hi.cell 0
 simp at c0
 have hs := h.below hb; have HW := gh hW; have HB := gh hb; clear hW hb hi
 cases o with
 | some p =>
  have d2 := Blk.cell hs.2 2
  simp at d2
  clear hs h
  go_enter Tryz.func58,Tryz.ntmps58
  go_upto_region 1 with fail
  rw [<- HW.o]
  go_wp2
  go_ret
  exact ⟨rfl,HB.o⟩
 | none =>
  obtain ⟨p,k,hk,hr⟩ := hs; have d2 := hr.cell 2
  simp at d2
  have i1 : (k == 0) = false := by simpa using hk
  clear hr h hk
  go_enter Tryz.func58,Tryz.ntmps58
  go_upto_region 1 with fail
  rw [<- HW.o]
  go_wp2
  go_ret
  exact ⟨rfl,HB.o⟩
theorem infail_any (s : ByteArray) (p : Nat) (g : Nat) (w : World) (h : RAt w g s p 0 0) :
  Calls Tryz.prog 90 #[.agg #[.pointer (some ⟨g, 0,none⟩)]] w fun e w' => e = .returned (.tuple #[]) /\ RSt w' g s none /\ Only w w' g := by
 obtain ⟨W,hW⟩ := gXe (w.alloc (.cells #[.pointer (some ⟨g, 0,none⟩)] 112)); have hb : Below w.heap.size w W := by rw [hW]; exact (Below.refl _ _).alloc (Nat.le_refl _) _
 have hi : Blk W w.heap.size 112 #[.pointer (some ⟨g, 0,none⟩)] := by rw [hW]; exact Blk.new _ _ _
 have c0 := hi.cell 0
 simp at c0
 have hs : RAt W g s p 0 0 := Blk.below h hb h.lt; have d2 := hs.cell 2; have f2 := hs.frozen 2
 simp at d2
 have HF := gh (show RSt (W.setCell ⟨g, 2, none⟩ (.int .i64 5)) g s none /\ Only w (W.setCell ⟨g, 2, none⟩ (.int .i64 5)) g from
  ⟨⟨p, 5,by decide,Blk.set_ hs 2 _⟩, (Only.of_below hb g).set_ (p := ⟨g, 2,none⟩) (.inl rfl) _⟩)
 have HW := gh hW; clear hW hb hi hs h
 go_enter Tryz.func90,Tryz.ntmps90
 go_upto_region 1 with fail
 rw [<- HW.o]
 go_wp2
 go_end0
 exact ⟨rfl,HF.o⟩
theorem innum_any (s : ByteArray) (o : Option Nat) (g : Nat) (w : World) (hs : s.size <= 100000) (h : RSt w g s o) :
  Calls Tryz.prog 59 #[.agg #[.pointer (some ⟨g, 0,none⟩)]] w fun e w' => NumD s o g w e w' := by
 obtain ⟨W,hW⟩ := gXe (w.alloc (.cells #[.pointer (some ⟨g, 0,none⟩)] 112)); have hb : Below w.heap.size w W := by rw [hW]; exact (Below.refl _ _).alloc (Nat.le_refl _) _
 obtain ⟨B,hB⟩ := gXe (w.heap.size); have hi : Blk W B 112 #[.pointer (some ⟨g, 0,none⟩)] := by rw [hW,hB]; exact Blk.new _ _ _
 have c0 := hi.cell 0
 simp at c0
 have hst := h.below hb; have hgB : g < B := by rw [hB]; exact h.lt
 have HW := gh hW; have HB := gh hb; have HBE := gh hB; have HI := gh hi; clear hW hb hi h hB
 cases o with
 | none =>
  obtain ⟨p,k,hk,hr⟩ := hst; have HC := gh (fuint_old s p k 0 g W hr hk); have HF : Hid (RSt W g s none) := gh ⟨p,k,hk,hr⟩; clear hr hk
  go_enter Tryz.func59,Tryz.ntmps59
  go_upto_region 1 with fail
  rw [<- HW.o, <- HBE.o]
  go_wp2_with fail
  refine HC.o.mono ?_; rintro e w2 ⟨rfl,rfl⟩
  go_wp2
  go_ret
  exact ⟨rfl,HF.o,Only.of_below HB.o g⟩
 | some p =>
  obtain ⟨hp,hr⟩ := hst; have hc := fuint_any s p 0 g W hs hp hr; have hE : numR s (some p) = (match readU s p 0 0 with | .ok (n,q) => if n <= 10000 then some (n,q) else none | .error _ => none) := rfl
  have hq := fun n q (hu : readU s p 0 0 = .ok (n,q)) => (readU_lt s p 0 0 (by simp) (by omega) n q hu).2.2
  have hke := fun k (hu : readU s p 0 0 = .error k) => readU_err s p 0 0 k hu
  have hnb := fun n q (hu : readU s p 0 0 = .ok (n,q)) => (readU_lt s p 0 0 (by simp) (by omega) n q hu).1
  obtain ⟨R,hR⟩ := gXe (numR s (some p)); rw [<- hR] at hE; have HR := gh hR; clear hR hr hp
  cases hu : readU s p 0 0 with
  | error k =>
   rw [hu] at hc hE; simp only at hE; have hk : k ≠ 0 := by rcases hke k hu with rfl | rfl <;> decide
   have HC := gh hc; have HK := gh hk; have HE := gh hE; clear hc hk hE hq hke hnb hu
   go_enter Tryz.func59,Tryz.ntmps59
   go_upto_region 1 with fail
   rw [<- HW.o, <- HBE.o]
   go_wp2_with fail
   refine HC.o.mono ?_; rintro e w2 ⟨ho,rfl,q,hq,ha⟩; have HF : Hid (RSt w2 g s none) := gh ⟨q,k,HK.o,ha⟩; have HO := gh ((Only.of_below HB.o g).trans ho); clear ho ha hq
   go_wp2
   go_ret
   unfold NumD; rw [<- HR.o,HE.o]; exact ⟨rfl,HF.o,HO.o⟩
  | ok x =>
   obtain ⟨n,q⟩ := x; rw [hu] at hc hE; simp only at hE; have hq' := hq n q hu; have hn' := hnb n q hu; clear hq hke hnb hu
   by_cases hn : n <= 10000
   ·rw [if_pos hn] at hE
    have j1 : decide ((10000 : Int) < (n : Int)) = false := by simp; omega
    have hcv : IntKind.i64.wrap (n : Int) = n := IntWalk.i64_in _ (by omega)
    have HC := gh hc; have HE := gh hE; clear hc hE hn hn'
    go_enter Tryz.func59,Tryz.ntmps59
    go_upto_region 1 with fail
    rw [<- HW.o, <- HBE.o]
    go_wp2_with fail
    refine HC.o.mono ?_; rintro e w2 ⟨ho,rfl,ha⟩; have HF : Hid (RSt w2 g s (some q)) := gh ⟨hq',ha⟩; have HO := gh ((Only.of_below HB.o g).trans ho); clear ho ha hq'
    go_wp2
    go_ret
    unfold NumD; rw [<- HR.o,HE.o]; exact ⟨rfl,HF.o,HO.o⟩
   ·rw [if_neg hn] at hE
    have j1 : decide ((10000 : Int) < (n : Int)) = true := by simp; omega
    have HC := gh hc; have HE := gh hE; clear hc hE hn
    go_enter Tryz.func59,Tryz.ntmps59
    go_upto_region 1 with fail
    rw [<- HW.o, <- HBE.o]
    go_wp2_with fail
    refine HC.o.mono ?_; rintro e w2 ⟨ho,rfl,ha⟩; have HI2 := (Blk.grown HI.o ho (by simp; omega)).cell 0
    simp at HI2
    have HFL := gh (infail_any s q g w2 ha); have HO := gh ((Only.of_below HB.o g).trans ho); clear ho ha c0
    go_wp2_with fail
    refine HFL.o.mono ?_; rintro e w3 ⟨rfl,hf,ho⟩; have HF := gh hf; have HO3 := gh (HO.o.trans ho); clear hf ho
    go_wp2
    go_ret
    unfold NumD; rw [<- HR.o,HE.o]; exact ⟨rfl,HF.o,HO3.o⟩
end Go.Proofs.YtaamihdibpioaaaGreat.Ri
