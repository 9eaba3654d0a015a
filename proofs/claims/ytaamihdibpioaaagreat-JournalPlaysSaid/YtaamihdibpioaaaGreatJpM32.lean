/- The statements of layer 18: what is awake, in plain terms. No program in sight. -/
import Derived.Test.YtaamihdibpioaaaGreatJpM31
import Derived.Laws.StructEq
set_option maxRecDepth 100000
set_option maxHeartbeats 40000000
namespace Go.Proofs.YtaamihdibpioaaaGreat.Jr
open Go.RowKit Go.Proofs.YtaamihdibpioaaaGreat.Crc Go.Proofs.YtaamihdibpioaaaGreat.Pk
theorem cat_le {L : Nat} : ∀ ps : List ByteArray, (∀ p, p ∈ ps -> p.size <= 2000 /\ p.size <= L) -> (cat ps).size <= ps.length * (L + 6)
 | [],_ => by simp [cat]
 | p :: ps, h => by
  have ih := cat_le ps (fun q hq => h q (by simp [hq]))
  have h1 := h p (by simp)
  have h2 := frame_lenAt h1.1
  show (frameOf p ++ cat ps).size <= _
  rw [ByteArray.size_append,h2,List.length_cons,Nat.succ_mul]
  omega
theorem jE_ok {s : Jt} {H : List He} {r : Nat -> ByteArray} {label : Int} {l : List UInt8} {L : Nat} (h : Good s H r) (ht : s.torn = false) (hs : isSeg s.n label = true) (hl : l.length + 4 <= 2000) (hH : ∀ x, x ∈ H -> x.bytes.length <= L) (hz : H.length * (L + 10) + (l.length + 10) <= 4000) : jE s label (some l) = 0 := by
 have hg := h.dk.at_ hs; obtain ⟨k,rfl,hk,_,_,_⟩ := hg; unfold jE; rw [ht,hs]; simp only [cond_false,cond_true]; rw [if_neg (by omega)]
 unfold tearE; rw [hs]; have hrow := h.hist.rows k hk; rw [h.clean ht k hk] at hrow
 have hc : (cat (segOf H k)).size <= (segOf H k).length * (L + 4 + 6) := cat_le _ (fun p hp => by
  obtain ⟨x,hx,rfl⟩ := List.mem_map.1 hp; have h1 := (List.mem_filter.1 hx).1; have h2 := (h.hist.ok x h1).1; have h3 := hH x h1; unfold He.pay; rw [payB_size]
  omega)
 have hlen : (segOf H k).length <= H.length := by
  unfold segOf segL; rw [List.length_map]; exact List.length_filter_le _ _
 have hm : (segOf H k).length * (L + 4 + 6) <= H.length * (L + 10) := Nat.mul_le_mul hlen (by omega)
 have hf : fits s.rows (k : Int) (frameOf (payB s.next l)) = true := by
  unfold fits; rw [hrow]; have hfl := frame_lenAt (p := payB s.next l) (by rw [payB_size]; omega)
  rw [payB_size] at hfl; simp only [ByteArray.size_append,ByteArray.size_empty,decide_eq_true_eq]
  omega
 rw [hf]
 rfl
def tickB : List UInt8 := [4, 0, 0, 0, 0, 0, 0]
def tickE : Option (List UInt8) := some tickB
def hs1 : List He := [⟨1, 1,tickB⟩]
def hs2 : List He := [⟨1, 1,tickB⟩,⟨2, 0,tickB⟩]
def hs3 : List He := [⟨1, 1,tickB⟩,⟨2, 0,tickB⟩,⟨3, 0,tickB⟩]
theorem ticks_len : ∀ x, x ∈ hs3 -> x.bytes.length <= 7 := by
 intro x hx; simp only [hs3,List.mem_cons,List.not_mem_nil,or_false] at hx
 rcases hx with rfl | rfl | rfl <;> decide
theorem tick_frame (s : Jt) : (jF s tickE).size = 17 := by
 unfold jF tickE
 show (frameOf (payB s.next tickB)).size = 17
 rw [frame_lenAt (by rw [payB_size]; decide),payB_size]
 rfl
structure AwakeP (S1 S2 S3 S4 S5 : Jt) : Prop where
 e0 : jE (jNew 2) 1 tickE = 0
 s1 : jWrite (jNew 2) 1 tickE = S1
 n1 : S1.next < 1000000000
 e1 : jE S1 0 tickE = 0
 s2 : jWrite S1 0 tickE = S2
 n2 : S2.next < 1000000000
 g2 : ∃ r,Good S2 hs2 r
 e2 : jE S2 0 tickE = 0
 s3 : jCrash S2 0 tickE 3 = S3
 n3 : S3.next < 1000000000
 g3 : ∃ r,Good S3 hs2 r
 e3 : jE S3 0 tickE = 14
 s3' : jWrite S3 0 tickE = S3
 s4 : jRecover S3 hs2 = S4
 n4 : S4.next < 1000000000
 e4 : jE S4 0 tickE = 0
 s5 : jCrash S4 0 tickE 99 = S5
 g5 : ∃ r,Good S5 hs3 r
theorem awake_plain : ∃ S1 S2 S3 S4 S5, AwakeP S1 S2 S3 S4 S5 := by
 have g0 := good_new (n := 2) (by decide) (by decide)
 have hseg : ∀ i : Int, (i = 0 \/ i = 1) -> isSeg 2 i = true := fun i hi => by
  unfold isSeg
  rcases hi with rfl | rfl <;> decide
 have e0 : jE (jNew 2) 1 tickE = 0 := jE_ok (L := 7) g0 rfl (hseg 1 (.inr rfl)) (by decide) (fun x hx => by simp at hx) (by decide)
 obtain ⟨S1,h1⟩ := gXe (jWrite (jNew 2) 1 tickE); have g1 : Good S1 hs1 (fun _ => ByteArray.empty) := by rw [h1]; exact good_write g0 e0
 have f1 : S1.n = 2 /\ S1.next = 2 /\ S1.torn = false := by rw [h1]; unfold jWrite; rw [if_pos e0]; exact ⟨rfl,rfl,rfl⟩
 have e1 : jE S1 0 tickE = 0 := jE_ok (L := 7) g1 f1.2.2 (by rw [f1.1]; exact hseg 0 (.inl rfl)) (by decide) (fun x hx => ticks_len x (by simp only [hs1,hs3,List.mem_cons,List.not_mem_nil,or_false] at hx ⊢; exact .inl hx)) (by decide)
 obtain ⟨S2,h2⟩ := gXe (jWrite S1 0 tickE)
 have g2 : Good S2 hs2 (fun _ => ByteArray.empty) := by
  have := good_write g1 e1; rw [h2]; rw [f1.2.1] at this; exact this
 have f2 : S2.n = 2 /\ S2.next = 3 /\ S2.torn = false := by rw [h2]; unfold jWrite; rw [if_pos e1]; exact ⟨f1.1,by show S1.next + 1 = 3; rw [f1.2.1],f1.2.2⟩
 have hin2 : ∀ x, x ∈ hs2 -> x.bytes.length <= 7 := fun x hx => ticks_len x (by
  simp only [hs2,hs3,List.mem_cons,List.not_mem_nil,or_false] at hx ⊢
  rcases hx with h | h
  ·exact .inl h
  ·exact .inr (.inl h))
 have e2 : jE S2 0 tickE = 0 := jE_ok (L := 7) g2 f2.2.2 (by rw [f2.1]; exact hseg 0 (.inl rfl)) (by decide) hin2 (by decide)
 obtain ⟨S3,h3⟩ := gXe (jCrash S2 0 tickE 3)
 have g3 : ∃ r, Good S3 hs2 r := by
  obtain ⟨r',hr⟩ := good_crash (keep := 3) g2 e2; rw [tick_frame,if_neg (by decide)] at hr
  rw [h3]; exact ⟨r',hr⟩
 have f3 : S3.n = 2 /\ S3.next = 3 /\ S3.torn = true := by rw [h3]; unfold jCrash; rw [if_pos e2]; exact ⟨f2.1,f2.2.1,rfl⟩
 have e3 : jE S3 0 tickE = 14 := by unfold jE; rw [f3.2.2]; rfl
 have s3' : jWrite S3 0 tickE = S3 := by unfold jWrite; rw [if_neg (by rw [e3]; decide)]
 obtain ⟨S4,h4⟩ := gXe (jRecover S3 hs2); obtain ⟨r3,gr3⟩ := g3; have g4 : Good S4 hs2 (fun _ => ByteArray.empty) := by rw [h4]; exact good_recover gr3
 have f4 : S4.n = 2 /\ S4.next = 3 /\ S4.torn = false := by rw [h4]; exact ⟨f3.1,rfl,rfl⟩
 have e4 : jE S4 0 tickE = 0 := jE_ok (L := 7) g4 f4.2.2 (by rw [f4.1]; exact hseg 0 (.inl rfl)) (by decide) hin2 (by decide)
 obtain ⟨S5,h5⟩ := gXe (jCrash S4 0 tickE 99)
 have g5 : ∃ r, Good S5 hs3 r := by
  obtain ⟨r',hr⟩ := good_crash (keep := 99) g4 e4; rw [tick_frame,if_pos (by decide),f4.2.1] at hr
  rw [h5]; exact ⟨r',hr⟩
 exact ⟨S1,S2,S3,S4,S5,e0,h1.symm,by rw [f1.2.1]; decide,e1,h2.symm,by rw [f2.2.1]; decide,⟨_,g2⟩,e2,h3.symm,by rw [f3.2.1]; decide,⟨_,gr3⟩,e3,s3',h4.symm,by rw [f4.2.1]; decide,e4,h5.symm,g5⟩
end Go.Proofs.YtaamihdibpioaaaGreat.Jr
namespace Go.Proofs.YtaamihdibpioaaaGreat.Rf
open Go.RowKit Go.Proofs.YtaamihdibpioaaaGreat.Pk
theorem none_addR (x : Option (List UInt8)) : addR none x = none := rfl
theorem addR_addR (r : Option (List UInt8)) (a : List UInt8) (x : Option (List UInt8)) : addR (addR r (some a)) x = addR r (x.map (a ++ ·)) := by
 cases r <;> cases x <;> simp [addR]
theorem osome_any (o B : Nat) (r : Option (List UInt8)) (m : Nat) (v : Val) (w : World) (h : OutAt w o r m) (hm : m <= 900000) (hv : v.In w) (hs : v.Sep (fun b => b < B)) (hB : B <= o) :
  Calls Tryz.prog 87 #[.pointer (some ⟨o, 0,none⟩),v.agg] w fun e w' => OutDid (addR r (someB v)) (m + 60001) o w e w' := by
 obtain ⟨S,b,hb,hz,hr⟩ := h; obtain ⟨p4,q4,e4⟩ := hv.nslice; obtain ⟨p5,q5,e5⟩ := hv.xslice; obtain ⟨T,hT⟩ := gXe (w.heap.size); obtain ⟨W,hW⟩ := gXe (w.alloc (.cells #[.int .i64 v.k, .int .i64 v.n, .float .f64 v.f, .string v.s,v.na.val v.ns.length,v.xa.val v.xs.length] 37)); have hbW : Below w.heap.size w W := by rw [hW]; exact (Below.refl _ _).alloc (Nat.le_refl _) _
 have hbT : Blk W T 37 #[.int .i64 v.k, .int .i64 v.n, .float .f64 v.f, .string v.s,v.na.val v.ns.length,v.xa.val v.xs.length] := by rw [hW,hT]; exact Blk.new _ _ _
 have hlt := hb.lt; have hoT : o ≠ T := by omega
 have hbo : Blk W o 150 #[.string S, .bool b] := hb.below hbW hlt; have hTW : T < W.heap.size := hbT.lt; have hoW : o < W.heap.size := hbo.lt; have hno := fun (W' : World) (hb : Below W.heap.size W W') => none_any v W' ((hv.below hbW).below hb)
 have hov := fun (r : Option (List UInt8)) (m : Nat) (hm : m <= 1000000) (W' : World) (ho : Only W W' o) (h : OutAt W' o r m) => oval_any o B r m v W' h hm (in_only (hv.below hbW) hs hB ho) hs hB
 obtain ⟨R,hR⟩ := gXe (addR r (someB v)); rw [<- hR]; have hcat0 : ¬ 9223372036854775807 < S.size + (⟨#[0]⟩ : ByteArray).size := by have e : (⟨#[0]⟩ : ByteArray).size = 1 := rfl; omega
 have hcat1 : ¬ 9223372036854775807 < S.size + (⟨#[1]⟩ : ByteArray).size := by have e : (⟨#[1]⟩ : ByteArray).size = 1 := rfl; omega
 unfold Val.agg at hno hov ⊢; rw [e4,e5] at hbT hW ⊢; simp only [e4,e5] at hno hov; have HR := gh hR; have t0 := hbT.cell 0; have t1 := hbT.cell 1; have t2 := hbT.cell 2; have t3 := hbT.cell 3; have t4 := hbT.cell 4; have t5 := hbT.cell 5; simp only [gX0,gX1,gX2] at t0 t1 t2 t3 t4 t5; have c0 := hbo.cell 0; have c1 := hbo.cell 1; have f0 := hbo.frozen 0; have f1 := hbo.frozen 1
 simp at c0 c1
 have HT := gh hT; have HW := gh hW; have HBW := gh hbW; have HBT := gh hbT; have HBO := gh hbo; have HNO := gh hno; have HOV := gh hov; have HRR := gh hr; clear hR hT hW hbW hbT hbo hno hov hb hr e4 e5 hv hs hlt
 by_cases hk : v.k = 0
 ·have HS : Hid (someB v = bif v.noneB then some [0] else none) := gh (by unfold someB; rw [if_pos hk])
  rw [hk] at t0; simp only [hk] at HBT HW HNO ⊢; clear hk HOV
  cases b with
  | true =>
   have HRN : Hid (r = none) := gh (by
    have h := HRR.o
    cases r with
    | none => rfl
    | some l => exact absurd h.2 (by decide))
   have hO1 := HBO.o.set_ 1 (.bool true); have k0 := hO1.cell 0; have g0 := hO1.frozen 0
   simp at k0
   have HF := gh (show Only w ((W.setCell ⟨o, 1, none⟩ (.bool true)).setCell ⟨o, 0, none⟩ (.string (S ++ ⟨#[0]⟩))) o /\ OutAt ((W.setCell ⟨o, 1, none⟩ (.bool true)).setCell ⟨o, 0, none⟩ (.string (S ++ ⟨#[0]⟩))) o R (m + 60001) from
    ⟨((Only.of_below HBW.o o).set_ (p := ⟨o, 1, none⟩) (.inl rfl) _).set_ (p := ⟨o, 0, none⟩) (.inl rfl) _, by
     rw [HR.o,HRN.o,none_addR]; exact ⟨_,true,hO1.set_ 0 _,by rw [ByteArray.size_append]; show S.size + 1 <= _; omega,rfl⟩⟩)
   clear hO1
   go_enter Tryz.func87,Tryz.ntmps87
   go_upto_region 1 with fail
   rw [<- HW.o, <- HT.o]
   go_wp2_with fail
   go_end0
   exact ⟨rfl,HF.o.1,HF.o.2⟩
  | false =>
   have HN := gh (HNO.o W (Below.refl _ _)); obtain ⟨NB,hNB⟩ := gXe (v.noneB); rw [<- hNB] at HN HS; clear hNB HNO
   go_enter Tryz.func87,Tryz.ntmps87
   go_upto_region 1 with fail
   rw [<- HW.o, <- HT.o]
   go_wp2_with fail
   refine HN.o.mono ?_; rintro e w1 ⟨rfl,hb1⟩; have hO1 := HBO.o.below hb1 hoW; have hO2 := hO1.set_ 1 (.bool (!NB)); have HO1 := gh hO1; have HO2 := gh hO2
   have HF := gh (show Only w ((w1.setCell ⟨o, 1, none⟩ (.bool (!NB))).setCell ⟨o, 0, none⟩ (.string (S ++ ⟨#[0]⟩))) o /\ OutAt ((w1.setCell ⟨o, 1, none⟩ (.bool (!NB))).setCell ⟨o, 0, none⟩ (.string (S ++ ⟨#[0]⟩))) o R (m + 60001) from
    ⟨((Only.of_below (HBW.o.trans (hb1.mono HBW.o.size)) o).set_ (p := ⟨o, 1, none⟩) (.inl rfl) _).set_ (p := ⟨o, 0, none⟩) (.inl rfl) _, by
     rw [HR.o,HS.o]; refine ⟨_, !NB,hO2.set_ 0 _,by rw [ByteArray.size_append]; show S.size + 1 <= _; omega,?_⟩
     have h := HRR.o
     cases r with
     | none => exact absurd (show (false : Bool) = true from h) (by decide)
     | some l =>
      cases NB with
      | false => rfl
      | true => exact ⟨by rw [h.1]; exact strB_append l [0],rfl⟩⟩)
   clear hb1 hO1 hO2 c0 c1 f0 f1; have c1 := HO1.o.cell 1; have f1 := HO1.o.frozen 1; have k0 := HO2.o.cell 0; have g0 := HO2.o.frozen 0
   simp at c1 k0
   go_wp2_with fail
   go_end0
   exact ⟨rfl,HF.o.1,HF.o.2⟩
 ·have HS : Hid (someB v = bif v.RightB then some (1 :: v.enc) else none) := gh (by unfold someB; rw [if_neg hk])
  have i1 : (v.k == 0) = false := by simpa using hk
  have hO1 := HBO.o.set_ 0 (.string (S ++ ⟨#[1]⟩)); obtain ⟨W2,hW2⟩ := gXe (W.setCell ⟨o, 0,none⟩ (.string (S ++ ⟨#[1]⟩))); rw [<- hW2] at hO1; have hon : Only W W2 o := by rw [hW2]; exact (Only.refl _ _).set_ (p := ⟨o, 0,none⟩) (.inl rfl) _
  have hoa : OutAt W2 o (addR r (some [1])) (m + 1) := outAt_add (a := [1]) hO1 hz HRR.o (by simp)
  have hT2 := HBT.o.grown hon (by simp; omega)
  have HC := gh (HOV.o (addR r (some [1])) (m + 1) (by omega) W2 hon hoa)
  have HRF : Hid (R = addR (addR r (some [1])) (valR v)) := gh (by
   rw [HR.o,HS.o,addR_addR]; unfold valR
   cases v.RightB <;> rfl)
  have HT2 := gh hT2; have HW2 := gh hW2; have HON := gh hon; clear hk hO1 hW2 hon hoa hT2 HOV HNO
  go_enter Tryz.func87,Tryz.ntmps87
  go_upto_region 1 with fail
  rw [<- HW.o, <- HT.o]
  go_upto_region 5 with fail
  rw [<- HW2.o]; clear t0 t1 t2 t3 t4 t5 c0 c1 f0 f1; have t0 := HT2.o.cell 0; have t1 := HT2.o.cell 1; have t2 := HT2.o.cell 2; have t3 := HT2.o.cell 3; have t4 := HT2.o.cell 4; have t5 := HT2.o.cell 5; simp only [gX0,gX1,gX2] at t0 t1 t2 t3 t4 t5
  go_wp2_with fail
  refine HC.o.mono ?_; rintro e w3 ⟨rfl,ho3,hoa3⟩; have HF := gh (And.intro ((Only.of_below HBW.o o).trans (HON.o.trans ho3)) hoa3); clear ho3 hoa3
  go_wp2
  go_end0
  rw [HRF.o]; exact ⟨rfl,HF.o.1,HF.o.2⟩
end Go.Proofs.YtaamihdibpioaaaGreat.Rf
namespace Go.Proofs.YtaamihdibpioaaaGreat.Rf
open Go.RowKit Go.Proofs.YtaamihdibpioaaaGreat.Pk
theorem OutAt.mono {w : World} {o : Nat} {r : Option (List UInt8)} {m k : Nat} (h : OutAt w o r m) (hk : m <= k) : OutAt w o r k := by
 obtain ⟨S,b,h1,h2,h3⟩ := h; exact ⟨S,b,h1,by omega,h3⟩
theorem enc_add (c : Cm) : addR (addR (addR (addR (addR (addR (addR (some []) (numR c.k)) (numR c.nd)) (numR c.il)) (numR c.inn)) (numR c.n)) (someB c.key)) (someB c.v) = c.enc := by
 unfold Cm.enc numR Cm.ints; simp only [List.all_cons,List.all_nil,Bool.and_true]
 cases h1 : numOk c.k <;> cases h2 : numOk c.nd <;> cases h3 : numOk c.il <;> cases h4 : numOk c.inn <;> cases h5 : numOk c.n <;> try rfl
 simp only [cond_true,Bool.and_self]
 cases someB c.key with
 | none => rfl
 | some a =>
  cases someB c.v with
  | none => rfl
  | some b => simp [addR,numsB]
theorem cmd_blk {c : Cm} {w : World} {C : Nat} {p4 p5 r4 r5 : Option Addr} {q4 q5 t4 t5 : Nat} (hC : Blk w C 39 c.cells.toArray)
  (e4 : c.key.na.val c.key.ns.length = .slice p4 c.key.ns.length q4) (e5 : c.key.xa.val c.key.xs.length = .slice p5 c.key.xs.length q5) (f4 : c.v.na.val c.v.ns.length = .slice r4 c.v.ns.length t4) (f5 : c.v.xa.val c.v.xs.length = .slice r5 c.v.xs.length t5) :
  Blk w C 39 #[.int .i64 c.k, .int .i64 c.nd, .int .i64 c.il, .int .i64 c.inn, .int .i64 c.n, .int .i64 c.key.k, .int .i64 c.key.n, .float .f64 c.key.f, .string c.key.s, .slice p4 c.key.ns.length q4, .slice p5 c.key.xs.length q5, .int .i64 c.v.k, .int .i64 c.v.n, .float .f64 c.v.f, .string c.v.s, .slice r4 c.v.ns.length t4, .slice r5 c.v.xs.length t5] := by
 have := hC; unfold Cm.cells Val.cells at this; rw [e4,e5,f4,f5] at this; exact this
theorem rcmd_any (c : Cm) (w : World) (hc : c.In w) : Calls Tryz.prog 53 #[c.agg] w fun e w' => Cmded c.enc w e w' := by
 obtain ⟨p4,q4,e4⟩ := hc.2.1.nslice; obtain ⟨p5,q5,e5⟩ := hc.2.1.xslice; obtain ⟨r4,t4,f4⟩ := hc.2.2.nslice; obtain ⟨r5,t5,f5⟩ := hc.2.2.xslice; obtain ⟨C,hC⟩ := gXe (w.heap.size); obtain ⟨W,hW⟩ := gXe ((w.alloc (.cells c.cells.toArray 39)).alloc (.cells #[.string ⟨#[]⟩, .bool false] 150)); have hb : Below w.heap.size w W := by rw [hW]; exact ((Below.refl _ _).alloc (Nat.le_refl _) _).alloc (by simp) _
 have hbc : Blk W C 39 c.cells.toArray := by rw [hW,hC]; exact (Blk.new _ _ _).alloc _
 have hbo : Blk W (C + 1) 150 #[.string ⟨#[]⟩, .bool false] := by
  rw [hW,hC]; have := Blk.new (w.alloc (.cells c.cells.toArray 39)) 150 #[.string ⟨#[]⟩, .bool false]; rw [alloc_size'] at this; exact this
 have ho0 : OutAt W (C + 1) (some []) 0 := ⟨_,false,hbo,Nat.le_refl _,rfl,rfl⟩; have hcW := hc.below hb; have hsk : c.key.Sep (fun b => b < C) := hc.2.1.sep.mono (fun b hb => by rw [hC]; exact hb)
 have hsv : c.v.Sep (fun b => b < C) := hc.2.2.sep.mono (fun b hb => by rw [hC]; exact hb)
 have hcell : ∀ w',Only W w' (C + 1) -> Blk w' C 39 #[.int .i64 c.k, .int .i64 c.nd, .int .i64 c.il, .int .i64 c.inn, .int .i64 c.n, .int .i64 c.key.k, .int .i64 c.key.n, .float .f64 c.key.f, .string c.key.s, .slice p4 c.key.ns.length q4, .slice p5 c.key.xs.length q5, .int .i64 c.v.k, .int .i64 c.v.n, .float .f64 c.v.f, .string c.v.s, .slice r4 c.v.ns.length t4, .slice r5 c.v.xs.length t5] := fun w' ho => cmd_blk (hbc.grown ho (by simp)) e4 e5 f4 f5
 have hks := fun (r : Option (List UInt8)) (m : Nat) (hm : m <= 900000) (w' : World) (ho : Only W w' (C + 1)) (h : OutAt w' (C + 1) r m) => osome_any (C + 1) C r m c.key w' h hm (in_only hcW.2.1 hsk (Nat.le_succ _) ho) hsk (Nat.le_succ _)
 have hvs := fun (r : Option (List UInt8)) (m : Nat) (hm : m <= 900000) (w' : World) (ho : Only W w' (C + 1)) (h : OutAt w' (C + 1) r m) => osome_any (C + 1) C r m c.v w' h hm (in_only hcW.2.2 hsv (Nat.le_succ _) ho) hsv (Nat.le_succ _)
 have hkag : c.key.agg = .agg #[.int .i64 c.key.k, .int .i64 c.key.n, .float .f64 c.key.f, .string c.key.s, .slice p4 c.key.ns.length q4, .slice p5 c.key.xs.length q5] := by unfold Val.agg; rw [e4,e5]
 have hvag : c.v.agg = .agg #[.int .i64 c.v.k, .int .i64 c.v.n, .float .f64 c.v.f, .string c.v.s, .slice r4 c.v.ns.length t4, .slice r5 c.v.xs.length t5] := by unfold Val.agg; rw [f4,f5]
 rw [hkag] at hks; rw [hvag] at hvs; obtain ⟨R,hR⟩ := gXe (c.enc); have hE := enc_add c; rw [<- hR] at hE ⊢; obtain ⟨KS,hKS⟩ := gXe (someB c.key); obtain ⟨VS,hVS⟩ := gXe (someB c.v); rw [<- hKS, <- hVS] at hE; simp only [<- hKS] at hks; simp only [<- hVS] at hvs; unfold Cm.cells Val.cells at hW; unfold Cm.agg Cm.cells Val.cells; rw [e4,e5,f4,f5] at hW ⊢; have H0 := gh ho0; have HW := gh hW; have HB := gh hb; have HC := gh hC; have HCE := gh hcell; have HK := gh hks; have HV := gh hvs; have HE := gh hE; have O0 := gh (Only.refl W (C + 1)); clear ho0 hW hb hC hbc hbo hcW hsk hsv hcell hks hvs hR hE hKS hVS hkag hvag e4 e5 f4 f5 hc; simp only [List.cons_append,List.nil_append] at HW ⊢
 go_enter Tryz.func53,Tryz.ntmps53
 go_upto_region 2 with fail
 rw [<- HW.o, <- HC.o]; have hX := HCE.o W O0.o; have x0 := hX.cell 0; simp only [gX0,gX1,gX2] at x0; clear hX; have HN := gh (onum_any (C + 1) (some []) 0 c.k W H0.o (by omega))
 go_wp2_with fail
 refine HN.o.mono ?_; rintro e w1 ⟨rfl,ho,hoa⟩; have O1 := gh (O0.o.trans ho); have H1 := gh hoa; clear ho hoa HN x0; have hX := HCE.o w1 O1.o; have x1 := hX.cell 1; simp only [gX0,gX1,gX2] at x1; clear hX; have HN := gh (onum_any (C + 1) (addR (some []) (numR c.k)) 10 c.nd w1 H1.o (by omega))
 go_wp2_with fail
 refine HN.o.mono ?_; rintro e w2 ⟨rfl,ho,hoa⟩; have O2 := gh (O1.o.trans ho); have H2 := gh hoa; clear ho hoa HN x1; have hX := HCE.o w2 O2.o; have x2 := hX.cell 2; simp only [gX0,gX1,gX2] at x2; clear hX; have HN := gh (onum_any (C + 1) (addR (addR (some []) (numR c.k)) (numR c.nd)) 20 c.il w2 H2.o (by omega))
 go_wp2_with fail
 refine HN.o.mono ?_; rintro e w3 ⟨rfl,ho,hoa⟩; have O3 := gh (O2.o.trans ho); have H3 := gh hoa; clear ho hoa HN x2; have hX := HCE.o w3 O3.o; have x3 := hX.cell 3; simp only [gX0,gX1,gX2] at x3; clear hX; have HN := gh (onum_any (C + 1) (addR (addR (addR (some []) (numR c.k)) (numR c.nd)) (numR c.il)) 30 c.inn w3 H3.o (by omega))
 go_wp2_with fail
 refine HN.o.mono ?_; rintro e w4 ⟨rfl,ho,hoa⟩; have O4 := gh (O3.o.trans ho); have H4 := gh hoa; clear ho hoa HN x3; have hX := HCE.o w4 O4.o; have x4 := hX.cell 4; simp only [gX0,gX1,gX2] at x4; clear hX; have HN := gh (onum_any (C + 1) (addR (addR (addR (addR (some []) (numR c.k)) (numR c.nd)) (numR c.il)) (numR c.inn)) 40 c.n w4 H4.o (by omega))
 go_wp2_with fail
 refine HN.o.mono ?_; rintro e w5 ⟨rfl,ho,hoa⟩; have O5 := gh (O4.o.trans ho); have H5 := gh hoa; clear ho hoa HN x4; have hX := HCE.o w5 O5.o; have x5 := hX.cell 5; have x6 := hX.cell 6; have x7 := hX.cell 7; have x8 := hX.cell 8; have x9 := hX.cell 9; have x10 := hX.cell 10; simp only [gX0,gX1,gX2] at x5 x6 x7 x8 x9 x10; clear hX; have HN := gh (HK.o (addR (addR (addR (addR (addR (some []) (numR c.k)) (numR c.nd)) (numR c.il)) (numR c.inn)) (numR c.n)) 50 (by omega) w5 O5.o H5.o)
 go_wp2_with fail
 refine HN.o.mono ?_; rintro e w6 ⟨rfl,ho,hoa⟩; have O6 := gh (O5.o.trans ho); have H6 := gh hoa; clear ho hoa HN x5 x6 x7 x8 x9 x10; have hX := HCE.o w6 O6.o; have x11 := hX.cell 11; have x12 := hX.cell 12; have x13 := hX.cell 13; have x14 := hX.cell 14; have x15 := hX.cell 15; have x16 := hX.cell 16; simp only [gX0,gX1,gX2] at x11 x12 x13 x14 x15 x16; clear hX; have HN := gh (HV.o (addR (addR (addR (addR (addR (addR (some []) (numR c.k)) (numR c.nd)) (numR c.il)) (numR c.inn)) (numR c.n)) KS) 60051 (by omega) w6 O6.o H6.o)
 go_wp2_with fail
 refine HN.o.mono ?_; rintro e w7 ⟨rfl,ho,hoa⟩; have O7 := gh (O6.o.trans ho); have H7 := gh hoa; clear ho hoa HN x11 x12 x13 x14 x15 x16; have h7 := H7.o; rw [HE.o] at h7; obtain ⟨S,b,hb,hz,hr⟩ := h7; have c0 := hb.cell 0; have c1 := hb.cell 1
 simp at c0 c1
 have HF := gh (HB.o.trans (O7.o.below (by have := HC.o; omega) HB.o.size))
 have HRR := gh hr; clear hb hr
 cases R with
 | none =>
  have e : b = true := HRR.o; subst e
  go_wp2
  go_ret2
  exact ⟨HF.o,rfl⟩
 | some l =>
  obtain ⟨rfl,rfl⟩ := HRR.o
  go_wp2
  go_ret2
  exact ⟨HF.o,rfl⟩
def Cm.smallB (c : Cm) : Bool := c.key.smallB && c.v.smallB
def Cm.rsame (a b : Cm) : Bool := decide (a.ints = b.ints) && a.key.rsame b.key && a.v.rsame b.v
end Go.Proofs.YtaamihdibpioaaaGreat.Rf
namespace Go.Proofs.YtaamihdibpioaaaGreat.Rf
open Go.RowKit Go.Proofs.YtaamihdibpioaaaGreat.Pk
def cmSmall (c : Cm) : Bool := c.key.smallB && c.v.smallB
def cmSame (a b : Cm) : Bool := decide (a.ints = b.ints) && a.key.rsame b.key && a.v.rsame b.v
theorem inst_eq (a b c d : Int) (W : World) : (binOp .eql 32 (.agg #[.int .i64 a, .int .i64 b]) (.agg #[.int .i64 c, .int .i64 d])).run Tryz.prog W = .ok (.bool (decide (a = c) && decide (b = d))) W := by
 have hS : Tryz.prog.underlying 32 = some (.struct (Tryz.prog.fieldsOf 32)) := by kernel_rfl
 have hp : Tryz.prog.stoodInHeld 32 = false := by kernel_rfl
 have hF : (Tryz.prog.fieldsOf 32).toList.map (fun f => (f.name == "_", f.type, f.offset)) = [(false, 3, 0), (false, 3, 1)] := by kernel_rfl
 have hi : Tryz.prog.underlying 3 = some (.int .i64) := Tryz.underlying3; rw [run_eql_struct,show (10000 : Nat) = 9998 + 1 + 1 from rfl,run_equalIn_agg W 9999 32 _ _ hS hp]
 obtain ⟨f1, f2, hl⟩ : ∃ f1 f2, (Tryz.prog.fieldsOf 32).toList = [f1, f2] := by
  match h : (Tryz.prog.fieldsOf 32).toList with
  | [f1,f2] => exact ⟨f1,f2,rfl⟩
  | [] => rw [h] at hF; simp at hF
  | [_] => rw [h] at hF; simp at hF
  | _ :: _ :: _ :: _ => rw [h] at hF; simp at hF
 rw [hl] at hF ⊢; simp only [List.map_cons, List.map_nil, List.cons.injEq, Prod.mk.injEq, and_true] at hF; obtain ⟨⟨n1, t1, o1⟩, n2, t2, o2⟩ := hF; have n1' : f1.name ≠ "_" := by simpa using n1
 have n2' : f2.name ≠ "_" := by simpa using n2
 simp only [Op.eqFields,n1',n2',ne_eq,not_false_eq_true,if_true,t1,o1,t2,o2,Sem.run_bind]
 by_cases h1 : a = c <;> by_cases h2 : b = d <;> simp [h1,h2,part,run_equalIn_int _ _ _ _ _ _ _ hi,Sem.run_pure]
theorem rsame_def (a b : Cm) : cmSame a b = (decide (a.k = b.k) && (decide (a.nd = b.nd) && ((decide (a.il = b.il) && decide (a.inn = b.inn)) && (decide (a.n = b.n) && (a.key.rsame b.key && a.v.rsame b.v))))) := by
 unfold cmSame Cm.ints
 by_cases h1 : a.k = b.k <;> by_cases h2 : a.nd = b.nd <;> by_cases h3 : a.il = b.il <;> by_cases h4 : a.inn = b.inn <;> by_cases h5 : a.n = b.n <;> simp [h1,h2,h3,h4,h5]
theorem samec_any (a b : Cm) (w : World) (ha : a.In w) (hb : b.In w) : Calls Tryz.prog 13 #[a.agg, b.agg] w fun e w' => BoolBelow (cmSame a b) w e w' := by
 obtain ⟨p4,q4,e1⟩ := ha.2.1.nslice; obtain ⟨p5,q5,e2⟩ := ha.2.1.xslice; obtain ⟨r4,t4,e3⟩ := ha.2.2.nslice; obtain ⟨r5,t5,e4⟩ := ha.2.2.xslice; obtain ⟨P4,Q4,f1⟩ := hb.2.1.nslice; obtain ⟨P5,Q5,f2⟩ := hb.2.1.xslice; obtain ⟨R4,T4,f3⟩ := hb.2.2.nslice; obtain ⟨R5,T5,f4⟩ := hb.2.2.xslice; obtain ⟨C,hC⟩ := gXe (w.heap.size); obtain ⟨W,hW⟩ := gXe ((w.alloc (.cells a.cells.toArray 39)).alloc (.cells b.cells.toArray 39)); have hbW : Below w.heap.size w W := by rw [hW]; exact ((Below.refl _ _).alloc (Nat.le_refl _) _).alloc (by simp) _
 have hba : Blk W C 39 a.cells.toArray := by rw [hW,hC]; exact (Blk.new _ _ _).alloc _
 have hbb : Blk W (C + 1) 39 b.cells.toArray := by
  rw [hW,hC]; have := Blk.new (w.alloc (.cells a.cells.toArray 39)) 39 b.cells.toArray; rw [alloc_size'] at this; exact this
 have haW := ha.below hbW; have hbW' := hb.below hbW; have hcell : ∀ w',Below W.heap.size W w' -> Blk w' C 39 #[.int .i64 a.k, .int .i64 a.nd, .int .i64 a.il, .int .i64 a.inn, .int .i64 a.n, .int .i64 a.key.k, .int .i64 a.key.n, .float .f64 a.key.f, .string a.key.s, .slice p4 a.key.ns.length q4, .slice p5 a.key.xs.length q5, .int .i64 a.v.k, .int .i64 a.v.n, .float .f64 a.v.f, .string a.v.s, .slice r4 a.v.ns.length t4, .slice r5 a.v.xs.length t5] /\ Blk w' (C + 1) 39 #[.int .i64 b.k, .int .i64 b.nd, .int .i64 b.il, .int .i64 b.inn, .int .i64 b.n, .int .i64 b.key.k, .int .i64 b.key.n, .float .f64 b.key.f, .string b.key.s, .slice P4 b.key.ns.length Q4, .slice P5 b.key.xs.length Q5, .int .i64 b.v.k, .int .i64 b.v.n, .float .f64 b.v.f, .string b.v.s, .slice R4 b.v.ns.length T4, .slice R5 b.v.xs.length T5] := fun w' ho => ⟨cmd_blk (hba.below ho hba.lt) e1 e2 e3 e4,cmd_blk (hbb.below ho hbb.lt) f1 f2 f3 f4⟩
 have hk := fun (w' : World) (ho : Below W.heap.size W w') => rsamev_any a.key b.key w' (haW.2.1.below ho) (hbW'.2.1.below ho)
 have hv := fun (w' : World) (ho : Below W.heap.size W w') => rsamev_any a.v b.v w' (haW.2.2.below ho) (hbW'.2.2.below ho)
 rw [show a.key.agg = .agg #[.int .i64 a.key.k, .int .i64 a.key.n, .float .f64 a.key.f, .string a.key.s, .slice p4 a.key.ns.length q4, .slice p5 a.key.xs.length q5] from by unfold Val.agg; rw [e1, e2],
  show b.key.agg = .agg #[.int .i64 b.key.k, .int .i64 b.key.n, .float .f64 b.key.f, .string b.key.s, .slice P4 b.key.ns.length Q4, .slice P5 b.key.xs.length Q5] from by unfold Val.agg; rw [f1,f2]] at hk
 rw [show a.v.agg = .agg #[.int .i64 a.v.k, .int .i64 a.v.n, .float .f64 a.v.f, .string a.v.s, .slice r4 a.v.ns.length t4, .slice r5 a.v.xs.length t5] from by unfold Val.agg; rw [e3, e4],
  show b.v.agg = .agg #[.int .i64 b.v.k, .int .i64 b.v.n, .float .f64 b.v.f, .string b.v.s, .slice R4 b.v.ns.length T4, .slice R5 b.v.xs.length T5] from by unfold Val.agg; rw [f3,f4]] at hv
 have hR := rsame_def a b; obtain ⟨R,hR0⟩ := gXe (cmSame a b); rw [<- hR0] at hR ⊢; obtain ⟨KS,hKS⟩ := gXe (a.key.rsame b.key); obtain ⟨VS,hVS⟩ := gXe (a.v.rsame b.v); rw [<- hKS, <- hVS] at hR; simp only [<- hKS] at hk; simp only [<- hVS] at hv; obtain ⟨II,hII⟩ := gXe ((decide (a.il = b.il) && decide (a.inn = b.inn))); have hin := fun W => inst_eq a.il a.inn b.il b.inn W
 simp only [<- hII] at hin hR; unfold Cm.cells Val.cells at hW; unfold Cm.agg Cm.cells Val.cells; rw [e1,e2,e3,e4,f1,f2,f3,f4] at hW; rw [e1,e2,e3,e4,f1,f2,f3,f4]; simp only [List.cons_append,List.nil_append] at hW ⊢; have HW := gh hW; have HB := gh hbW; have HC := gh hC; have HX := gh hcell; have HK := gh hk; have HV := gh hv; have HR := gh hR; clear hW hbW hC hba hbb haW hbW' hcell hk hv hR hR0 hKS hVS hII e1 e2 e3 e4 f1 f2 f3 f4 ha hb
 go_enter Tryz.func13,Tryz.ntmps13
 try simp only [lapp_cons,lapp_nil]
 go_upto_region 1 with fail
 rw [<- HW.o, <- HC.o]; obtain ⟨hX,hY⟩ := HX.o W (Below.refl _ _); have x0 := hX.cell 0; have x1 := hX.cell 1; have x2 := hX.cell 2; have x3 := hX.cell 3; have x4 := hX.cell 4; have x5 := hX.cell 5; have x6 := hX.cell 6; have x7 := hX.cell 7; have x8 := hX.cell 8; have x9 := hX.cell 9; have x10 := hX.cell 10; have y0 := hY.cell 0; have y1 := hY.cell 1; have y2 := hY.cell 2; have y3 := hY.cell 3; have y4 := hY.cell 4; have y5 := hY.cell 5; have y6 := hY.cell 6; have y7 := hY.cell 7; have y8 := hY.cell 8; have y9 := hY.cell 9; have y10 := hY.cell 10; simp only [gX0,gX1,gX2] at x0 y0 x1 y1 x2 y2 x3 y3 x4 y4 x5 y5 x6 y6 x7 y7 x8 y8 x9 y9 x10 y10; clear hX hY
 by_cases c1 : a.k = b.k
 rotate_left
 ·have t0 : ((a.k : Int) == b.k) = false := by simpa using c1
  have HRF := gh (show R = false from by rw [HR.o]; simp [c1])
  clear c1
  go_wp2
  go_ret
  exact ⟨by rw [HRF.o]; rfl,HB.o⟩
 have t0 : ((a.k : Int) == b.k) = true := by simpa using c1
 by_cases c2 : a.nd = b.nd
 rotate_left
 ·have t1 : ((a.nd : Int) == b.nd) = false := by simpa using c2
  have HRF := gh (show R = false from by rw [HR.o]; simp [c2])
  clear c2
  go_wp2
  go_ret
  exact ⟨by rw [HRF.o]; rfl,HB.o⟩
 have t1 : ((a.nd : Int) == b.nd) = true := by simpa using c2
 cases hI : II
 ·rw [hI] at hin
  have HRF := gh (show R = false from by rw [HR.o]; simp [hI])
  clear hI
  go_wp2
  go_ret
  exact ⟨by rw [HRF.o]; rfl,HB.o⟩
 rw [hI] at hin
 by_cases c4 : a.n = b.n
 rotate_left
 ·have t3 : ((a.n : Int) == b.n) = false := by simpa using c4
  have HRF := gh (show R = false from by rw [HR.o]; simp [c4])
  clear c4
  go_wp2
  go_ret
  exact ⟨by rw [HRF.o]; rfl,HB.o⟩
 have t3 : ((a.n : Int) == b.n) = true := by simpa using c4
 have HR1 := gh (show R = (KS && VS) from by rw [HR.o,hI]; simp [c1,c2,c4])
 clear HR hI c1 c2 c4
 go_wp2_with fail
 refine (HK.o W (Below.refl _ _)).mono ?_; rintro e w1 ⟨rfl,hb1⟩; have HB1 := gh hb1; obtain ⟨hX,hY⟩ := HX.o w1 hb1; clear hb1 x5 x6 x7 x8 x9 x10 y5 y6 y7 y8 y9 y10; have x11 := hX.cell 11; have x12 := hX.cell 12; have x13 := hX.cell 13; have x14 := hX.cell 14; have x15 := hX.cell 15; have x16 := hX.cell 16; have y11 := hY.cell 11; have y12 := hY.cell 12; have y13 := hY.cell 13; have y14 := hY.cell 14; have y15 := hY.cell 15; have y16 := hY.cell 16; simp only [gX0,gX1,gX2] at x11 y11 x12 y12 x13 y13 x14 y14 x15 y15 x16 y16; clear hX hY
 cases KS with
 | false =>
  have HRF := gh (show R = false from by rw [HR1.o]; simp)
  go_wp2
  go_ret
  exact ⟨by rw [HRF.o]; rfl,HB.o.trans (HB1.o.mono HB.o.size)⟩
 | true =>
  have HRF := gh (show R = VS from by rw [HR1.o]; simp)
  go_wp2_with fail
  refine (HV.o w1 HB1.o).mono ?_; rintro e w2 ⟨rfl,hb2⟩; have HB2 := gh (HB.o.trans ((HB1.o.mono HB.o.size).trans (hb2.mono (Nat.le_trans HB.o.size HB1.o.size)))); clear hb2
  go_wp2
  go_ret
  exact ⟨by rw [HRF.o]; rfl,HB2.o⟩
theorem smallc_any (a : Cm) (w : World) (ha : a.In w) : Calls Tryz.prog 24 #[a.agg] w fun e w' => BoolBelow (cmSmall a) w e w' := by
 obtain ⟨p4,q4,e1⟩ := ha.2.1.nslice; obtain ⟨p5,q5,e2⟩ := ha.2.1.xslice; obtain ⟨r4,t4,e3⟩ := ha.2.2.nslice; obtain ⟨r5,t5,e4⟩ := ha.2.2.xslice; obtain ⟨C,hC⟩ := gXe (w.heap.size); obtain ⟨W,hW⟩ := gXe (w.alloc (.cells a.cells.toArray 39)); have hbW : Below w.heap.size w W := by rw [hW]; exact (Below.refl _ _).alloc (Nat.le_refl _) _
 have hba : Blk W C 39 a.cells.toArray := by rw [hW,hC]; exact Blk.new _ _ _
 have haW := ha.below hbW; have hcell : ∀ w',Below W.heap.size W w' -> Blk w' C 39 #[.int .i64 a.k, .int .i64 a.nd, .int .i64 a.il, .int .i64 a.inn, .int .i64 a.n, .int .i64 a.key.k, .int .i64 a.key.n, .float .f64 a.key.f, .string a.key.s, .slice p4 a.key.ns.length q4, .slice p5 a.key.xs.length q5, .int .i64 a.v.k, .int .i64 a.v.n, .float .f64 a.v.f, .string a.v.s, .slice r4 a.v.ns.length t4, .slice r5 a.v.xs.length t5] := fun w' ho => cmd_blk (hba.below ho hba.lt) e1 e2 e3 e4
 have hk := fun (w' : World) (ho : Below W.heap.size W w') => small_any a.key w' (haW.2.1.below ho)
 have hv := fun (w' : World) (ho : Below W.heap.size W w') => small_any a.v w' (haW.2.2.below ho)
 rw [show a.key.agg = .agg #[.int .i64 a.key.k, .int .i64 a.key.n, .float .f64 a.key.f, .string a.key.s, .slice p4 a.key.ns.length q4, .slice p5 a.key.xs.length q5] from by unfold Val.agg; rw [e1,e2]] at hk
 rw [show a.v.agg = .agg #[.int .i64 a.v.k, .int .i64 a.v.n, .float .f64 a.v.f, .string a.v.s, .slice r4 a.v.ns.length t4, .slice r5 a.v.xs.length t5] from by unfold Val.agg; rw [e3,e4]] at hv
 unfold cmSmall; obtain ⟨KS,hKS⟩ := gXe (a.key.smallB); obtain ⟨VS,hVS⟩ := gXe (a.v.smallB); rw [<- hKS, <- hVS]; simp only [<- hKS] at hk; simp only [<- hVS] at hv; unfold Cm.cells Val.cells at hW; unfold Cm.agg Cm.cells Val.cells; rw [e1,e2,e3,e4] at hW; rw [e1,e2,e3,e4]; simp only [List.cons_append,List.nil_append] at hW ⊢; have HW := gh hW; have HB := gh hbW; have HC := gh hC; have HX := gh hcell; have HK := gh hk; have HV := gh hv; clear hW hbW hC hba haW hcell hk hv hKS hVS e1 e2 e3 e4 ha
 go_enter Tryz.func24,Tryz.ntmps24
 go_upto_region 1 with fail
 rw [<- HW.o, <- HC.o]; have hX := HX.o W (Below.refl _ _); have x5 := hX.cell 5; have x6 := hX.cell 6; have x7 := hX.cell 7; have x8 := hX.cell 8; have x9 := hX.cell 9; have x10 := hX.cell 10; simp only [gX0,gX1,gX2] at x5 x6 x7 x8 x9 x10; clear hX
 go_wp2_with fail
 refine (HK.o W (Below.refl _ _)).mono ?_; rintro e w1 ⟨rfl,hb1⟩; have HB1 := gh hb1; have hX := HX.o w1 hb1; clear hb1 x5 x6 x7 x8 x9 x10; have x11 := hX.cell 11; have x12 := hX.cell 12; have x13 := hX.cell 13; have x14 := hX.cell 14; have x15 := hX.cell 15; have x16 := hX.cell 16; simp only [gX0,gX1,gX2] at x11 x12 x13 x14 x15 x16; clear hX
 cases KS with
 | false =>
  go_wp2
  go_ret
  exact ⟨by simp,HB.o.trans (HB1.o.mono HB.o.size)⟩
 | true =>
  go_wp2_with fail
  refine (HV.o w1 HB1.o).mono ?_; rintro e w2 ⟨rfl,hb2⟩; have HB2 := gh (HB.o.trans ((HB1.o.mono HB.o.size).trans (hb2.mono (Nat.le_trans HB.o.size HB1.o.size)))); clear hb2
  go_wp2
  go_ret
  exact ⟨by simp,HB2.o⟩
end Go.Proofs.YtaamihdibpioaaaGreat.Rf
namespace Go.Proofs.YtaamihdibpioaaaGreat.Jr
open Go.RowKit Go.Proofs.YtaamihdibpioaaaGreat.Crc Go.Proofs.YtaamihdibpioaaaGreat.Pk Go.Proofs.YtaamihdibpioaaaGreat.Rf
structure KeptIs (w : World) (H : List He) (ks : List Rc) : Prop where
 len : ks.length = H.length
 each : ∀ k (h1 : k < ks.length) (h2 : k < H.length), (ks[k]'h1).seq = 0 /\ (ks[k]'h1).label = ((H[k]'h2).label : Int) /\ (ks[k]'h1).c.enc = some (H[k]'h2).bytes /\ (ks[k]'h1).c.In w
theorem KeptIs.nil (w : World) : KeptIs w [] [] := ⟨rfl,fun k h1 => absurd h1 (by simp)⟩
theorem KeptIs.below {w w' : World} {H : List He} {ks : List Rc} (h : KeptIs w H ks) (hb : Below w.heap.size w w') : KeptIs w' H ks :=
 ⟨h.len,fun k h1 h2 => ⟨(h.each k h1 h2).1, (h.each k h1 h2).2.1, (h.each k h1 h2).2.2.1, (h.each k h1 h2).2.2.2.below hb⟩⟩
theorem nextOf_bound {H : List He} {m : Nat} (h : ∀ x, x ∈ H -> x.seq < m) (hm : 1 <= m) : nextOf H <= m := by
 unfold nextOf
 cases hl : H.getLast? with
 | none => exact hm
 | some x => exact h x (List.mem_of_getLast? hl)
end Go.Proofs.YtaamihdibpioaaaGreat.Jr
namespace Go.Proofs.YtaamihdibpioaaaGreat.Jr
open Go.RowKit Go.Proofs.YtaamihdibpioaaaGreat.Crc Go.Proofs.YtaamihdibpioaaaGreat.Pk Go.Proofs.YtaamihdibpioaaaGreat.Rf
theorem cat_sizes : ∀ ps : List ByteArray, (∀ p, p ∈ ps -> p.size <= 2000) -> (cat ps).size = (ps.map fun p => p.size + 6).sum
 | [],_ => rfl
 | p :: ps, h => by
  show (frameOf p ++ cat ps).size = _
  rw [ByteArray.size_append,frame_lenAt (h p (by simp)),cat_sizes ps (fun q hq => h q (by simp [hq]))]
  simp
theorem row_size {s : Jt} {H : List He} {r : Nat -> ByteArray} (hG : Good s H r) (ht : s.torn = false) {i : Nat} (hi : i < s.n) : (rowOf s.rows (i : Int)).size = ((segL H i).map fun h => h.bytes.length + 10).sum := by
 have e : cat (segOf H i) ++ ByteArray.empty = cat (segOf H i) := by simp
 rw [hG.hist.rows i hi,hG.clean ht i hi,e,cat_sizes]
 ·unfold segOf
  rw [List.map_map]
  have e2 : (segL H i).map ((fun p => p.size + 6) ∘ He.pay) = (segL H i).map (fun h => h.bytes.length + 10) := by
   apply List.map_congr_left
   intro h _
   show (He.pay h).size + 6 = h.bytes.length + 10
   unfold He.pay; rw [payB_size]
   omega
  rw [e2]
 ·intro p hp
  obtain ⟨x,hx,rfl⟩ := List.mem_map.1 hp; have := (hG.hist.ok x (List.mem_filter.1 hx).1).1; unfold He.pay; rw [payB_size]
  omega
structure JInv (s : Jt) (H : List He) (i : Nat) : Prop where
 n : s.n = 3
 torn : s.torn = false
 good : ∃ r,Good s H r
 next : s.next <= i + 1
 len : H.length <= i
theorem JInv.more {s : Jt} {H : List He} {i : Nat} (h : JInv s H i) : JInv s H (i + 1) := ⟨h.n,h.torn,h.good,by have := h.next; omega,by have := h.len; omega⟩
theorem JInv.new : JInv (jNew 3) [] 0 := ⟨rfl,rfl,⟨_,good_new (by decide) (by decide)⟩,Nat.le_refl _,Nat.le_refl _⟩
theorem JInv.seqs {s : Jt} {H : List He} {i : Nat} (h : JInv s H i) : ∃ r, Hist s.n s.rows H r /\ ∀ x, x ∈ H -> x.seq < i + 1 := by
 obtain ⟨r,hG⟩ := h.good; refine ⟨r,hG.hist,fun x hx => ?_⟩
 have := hG.below x hx; have := h.next; rw [h.torn] at *
 simp at *
 omega
structure Ap (w : World) (lab : Nat) (Ha Hb : List He) : Prop where
 labs : ∀ h,h ∈ Hb -> h.label = lab
 ex : ∃ cs : List Cm, (∀ c,c ∈ cs -> c.In w) /\ cs.map Cm.enc = (segL Ha lab).map (fun h => some h.bytes) /\ cs.map Cm.enc = Hb.map (fun h => some h.bytes)
theorem Ap.nil (w : World) (lab : Nat) : Ap w lab [] [] := ⟨fun h hh => by simp at hh, [],fun c hc => by simp at hc,rfl,rfl⟩
theorem Ap.seg {w : World} {lab : Nat} {Ha Hb : List He} (h : Ap w lab Ha Hb) : segL Hb lab = Hb := List.filter_eq_self.2 (fun a ha => by simp [h.labs a ha])
theorem Ap.sizes {w : World} {lab : Nat} {Ha Hb : List He} (h : Ap w lab Ha Hb) : ((segL Ha lab).map fun h => h.bytes.length + 10).sum = ((segL Hb lab).map fun h => h.bytes.length + 10).sum := by
 obtain ⟨cs,_,h1,h2⟩ := h.ex; rw [h.seg]; have e := h1.symm.trans h2; have := congrArg (fun l => (l.map fun (o : Option (List UInt8)) => (o.getD []).length + 10).sum) e
 simpa [List.map_map,Function.comp_def] using this
theorem Ap.rows {w : World} {lab : Nat} {Ha Hb : List He} {a b : Jt} {i : Nat} (h : Ap w lab Ha Hb) (ha : JInv a Ha i) (hb : JInv b Hb i) (hl : lab < 3) : (rowOf a.rows (lab : Int)).size = (rowOf b.rows (lab : Int)).size := by
 obtain ⟨ra,hga⟩ := ha.good; obtain ⟨rb,hgb⟩ := hb.good; rw [row_size hga ha.torn (by rw [ha.n]; exact hl),row_size hgb hb.torn (by rw [hb.n]; exact hl),h.sizes]
theorem Ap.both {w : World} {lab : Nat} {Ha Hb : List He} (h : Ap w lab Ha Hb) {c : Cm} (hc : c.In w) {m n : Nat} (P Q : Prop) [Decidable P] [Decidable Q] (hPQ : P ↔ Q) (he : P -> ∃ l, c.enc = some l) :
  Ap w lab (if P then Ha ++ [⟨m,lab,c.enc.getD []⟩] else Ha) (if Q then Hb ++ [⟨n,lab,c.enc.getD []⟩] else Hb) := by
 by_cases hP : P
 ·rw [if_pos hP, if_pos (hPQ.1 hP)]
  obtain ⟨l,hl⟩ := he hP; obtain ⟨cs,h1,h2,h3⟩ := h.ex; refine ⟨fun x hx => ?_,cs ++ [c],fun x hx => ?_,?_,?_⟩
  ·rcases List.mem_append.1 hx with hx | hx
   ·exact h.labs x hx
   ·obtain rfl : x = _ := by simpa using hx
    rfl
  ·rcases List.mem_append.1 hx with hx | hx
   ·exact h1 x hx
   ·obtain rfl : x = c := by simpa using hx
    exact hc
  ·rw [segL_snoc,if_pos rfl,List.map_append,List.map_append,h2]; simp [hl]
  ·rw [List.map_append,List.map_append,h3]; simp [hl]
 ·rw [if_neg hP, if_neg (fun hq => hP (hPQ.2 hq))]
  exact h
theorem Ap.other {w : World} {lab : Nat} {Ha Hb : List He} (h : Ap w lab Ha Hb) {x : He} (hx : x.label ≠ lab) (P : Prop) [Decidable P] : Ap w lab (if P then Ha ++ [x] else Ha) Hb := by
 by_cases hP : P
 ·rw [if_pos hP]
  obtain ⟨cs,h1,h2,h3⟩ := h.ex; exact ⟨h.labs,cs,h1,by rw [segL_snoc,if_neg hx]; exact h2,h3⟩
 ·rw [if_neg hP]
  exact h
structure Crashed (a : Jt) (label keep : Int) (c : Cm) (Ha' : List He) (i : Nat) : Prop where
 hist : ∃ r,Hist (jCrash a label c.enc keep).n (jCrash a label c.enc keep).rows Ha' r
 seqs : ∀ h,h ∈ Ha' -> h.seq < i + 1 + 1
 len : Ha'.length <= i + 1
 inv : JInv (jRecover (jCrash a label c.enc keep) Ha') Ha' (i + 1)
end Go.Proofs.YtaamihdibpioaaaGreat.Jr
namespace Go.Proofs.YtaamihdibpioaaaGreat.Ri
open Go.RowKit Go.Proofs.YtaamihdibpioaaaGreat.Pk
def valR (s : ByteArray) (o : Option Nat) : Option (Val × Nat) := o.bind (rdVal s)
def someR (s : ByteArray) (o : Option Nat) : Option (Val × Nat) := o.bind (rdSome s)
def fstV : Option (Val × Nat) -> Val
 | some (v,_) => v
 | none => Val.zero
def ValD (r : Option (Val × Nat)) (s : ByteArray) (g : Nat) (w : World) (e : Ending) (w' : World) : Prop :=
 ∃ u : Val,e = .returned u.agg /\ u.erase = fstV r /\ u.In w' /\ u.Sep (fun b => w.heap.size <= b) /\ RSt w' g s (sndN r) /\ Only w w' g
def VOutF (r : Except Int (Val × Nat)) (u : Val) (q k : Int) : Prop := match r with
 | .ok (v,q') => k = 0 /\ q = q' /\ u.erase = v
 | .error k' => k = k' /\ q = 0 /\ u = Val.zero
theorem readVSep_anyF {r : Except Int (Val × Nat)} {w w' : World} {e : Ending} (h : ReadVSep r w e w') :
  Below w.heap.size w w' /\ ∃ (u : Val) (q k : Int),e = .returned (.tuple #[u.agg, .int .i64 q, .int .i64 k]) /\ u.In w' /\ u.Sep (fun b => w.heap.size <= b) /\ VOutF r u q k := by
 refine ⟨h.1,?_⟩; have h2 := h.2
 cases r with
 | error k => exact ⟨Val.zero, 0,k,h2,zero_in _,zero_sep _,rfl,rfl,rfl⟩
 | ok x =>
  obtain ⟨v,q⟩ := x; obtain ⟨u,h3,h4,h5,h6⟩ := h2; exact ⟨u,q, 0,h3,h5,h6,rfl,rfl,h4⟩
def VRelF (r : Except Int (Val × Nat)) (W : World) (a3 a4 a5 : Value) (wx : World) : Prop :=
 ∃ (V : Nat) (u : Val) (q k : Int),a3 = .pointer (some ⟨V, 0,none⟩) /\ a4 = .int .i64 q /\ a5 = .int .i64 k /\ W.heap.size <= V /\ Below W.heap.size W wx /\ Blk wx V 37 u.cells.toArray /\ u.In wx /\ u.Sep (fun b => W.heap.size <= b) /\ VOutF r u q k
theorem vrelF_new {r : Except Int (Val × Nat)} {W w6 : World} {u : Val} {q k : Int} {a4 a5 : Option Addr} {b4 b5 : Nat} (hb : Below W.heap.size W w6) (k4 : u.na.val u.ns.length = .slice a4 u.ns.length b4) (k5 : u.xa.val u.xs.length = .slice a5 u.xs.length b5) (hi : u.In w6) (hs : u.Sep (fun b => W.heap.size <= b)) (ho : VOutF r u q k) :
  VRelF r W (.pointer (some ⟨w6.heap.size, 0,none⟩)) (.int .i64 q) (.int .i64 k) (w6.alloc (.cells #[.int .i64 u.k, .int .i64 u.n, .float .f64 u.f, .string u.s, .slice a4 u.ns.length b4, .slice a5 u.xs.length b5] 37)) := by
 have hal : Below w6.heap.size w6 (w6.alloc (.cells #[.int .i64 u.k, .int .i64 u.n, .float .f64 u.f, .string u.s, .slice a4 u.ns.length b4, .slice a5 u.xs.length b5] 37)) := (Below.refl _ _).alloc (Nat.le_refl _) _; refine ⟨_,u,q,k,rfl,rfl,rfl,hb.size,hb.trans (hal.mono hb.size),?_,hi.below hal,hs,ho⟩; unfold Val.cells; rw [k4,k5]; exact Blk.new _ _ _
theorem vrelF_set {r : Except Int (Val × Nat)} {W w6 : World} {u : Val} {q k : Int} {X : Nat} {a4 a5 : Option Addr} {b4 b5 : Nat} (hb : Below W.heap.size W w6) (hX : X = W.heap.size) (hX6 : Blk w6 X 37 #[.int .i64 0, .int .i64 0, .float .f64 0, .string ⟨#[]⟩, .slice none 0 0, .slice none 0 0]) (k4 : u.na.val u.ns.length = .slice a4 u.ns.length b4) (k5 : u.xa.val u.xs.length = .slice a5 u.xs.length b5) (hi : u.In w6) (hs : u.Sep (fun b => X + 1 <= b)) (ho : VOutF r u q k) :
  VRelF r W (.pointer (some ⟨X, 0,none⟩)) (.int .i64 q) (.int .i64 k) ((((((w6.setCell ⟨X, 0,none⟩ (.int .i64 u.k)).setCell ⟨X, 1,none⟩ (.int .i64 u.n)).setCell ⟨X, 2,none⟩ (.float .f64 u.f)).setCell ⟨X, 3,none⟩ (.string u.s)).setCell ⟨X, 4,none⟩ (.slice a4 u.ns.length b4)).setCell ⟨X, 5,none⟩ (.slice a5 u.xs.length b5)) := by
 have b2 : Blk w6 X 37 [.int .i64 0, .int .i64 0, .float .f64 0, .string ⟨#[]⟩, .slice none 0 0, .slice none 0 0].toArray := hX6; have hst := stored6' b2 (.int .i64 u.k) (.int .i64 u.n) (.float .f64 u.f) (.string u.s) (.slice a4 u.ns.length b4) (.slice a5 u.xs.length b5); refine ⟨X,u,q,k,rfl,rfl,rfl,by omega,Go.Proofs.YtaamihdibpioaaaGreat.Below.only hb hst.2 (by omega) hb.size,?_,hi.carryS hs (fun b o hb' hlt => only_cell hst.2 (by have hb2 : X + 1 <= b := hb'; omega) hlt o) hst.2.size,hs.mono (fun b hb => by have hb2 : X + 1 <= b := hb; omega),ho⟩
 unfold Val.cells; rw [k4,k5]; exact hst.1
theorem zero_erase : Val.zero.erase = Val.zero := rfl
theorem readVAt_gt {s : ByteArray} {p q : Nat} {v : Val} (hp : p <= s.size) (h : readVAt s (p : Int) = .ok (v, q)) : p < q /\ q <= s.size := by
 unfold readVAt at h; rw [if_pos (by omega),Int.toNat_natCast] at h
 have := readV_lt hp h; exact ⟨this.1,this.2.1⟩
def RStE (s : ByteArray) (P : Nat) (k : Int) : Option Nat -> Prop
 | some q => k = 0 /\ P = q /\ q <= s.size
 | none => k ≠ 0
theorem RStE.st {s : ByteArray} {P : Nat} {k : Int} {o : Option Nat} {W : World} {g : Nat} (h : RStE s P k o) (hb : Blk W g 116 #[.string s, .int .i64 P, .int .i64 k, .int .i64 0]) : RSt W g s o := by
 cases o with
 | some q =>
  obtain ⟨rfl,rfl,h3⟩ := h; exact ⟨h3,hb⟩
 | none => exact ⟨P,k,h,hb⟩
theorem inval_any (s : ByteArray) (o : Option Nat) (g : Nat) (w : World) (hs : s.size <= 100000) (h : RSt w g s o) :
  Calls Tryz.prog 92 #[.agg #[.pointer (some ⟨g, 0,none⟩)]] w fun e w' => ValD (valR s o) s g w e w' := by
 have hsf := run_store_flt; obtain ⟨B,hB⟩ := gXe (w.heap.size); obtain ⟨R,hR⟩ := gXe (w.heap.size + 1); obtain ⟨W,hW⟩ := gXe ((w.alloc (.cells #[.pointer (some ⟨g, 0,none⟩)] 112)).alloc (.cells #[.int .i64 0, .int .i64 0, .float .f64 0, .string ⟨#[]⟩, .slice none 0 0, .slice none 0 0] 37)); have hb : Below w.heap.size w W := by rw [hW]; exact ((Below.refl _ _).alloc (Nat.le_refl _) _).alloc (by simp) _
 have hi : Blk W B 112 #[.pointer (some ⟨g, 0,none⟩)] := by rw [hW,hB]; exact (Blk.new _ _ _).alloc _
 have bm : Blk W R 37 [.int .i64 0, .int .i64 0, .float .f64 0, .string ⟨#[]⟩, .slice none 0 0, .slice none 0 0].toArray := by rw [hW,hR]; have := Blk.new (w.alloc (.cells #[.pointer (some ⟨g, 0,none⟩)] 112)) 37 #[.int .i64 0, .int .i64 0, .float .f64 0, .string ⟨#[]⟩, .slice none 0 0, .slice none 0 0]; rw [alloc_size'] at this; exact this
 have hWs : W.heap.size = R + 1 := by rw [hW,hR]; simp
 have hgB : g < B := by rw [hB]; exact h.lt
 have hBR : R = B + 1 := by rw [hR,hB]
 have hst := h.below hb; have HOK := gh (inok_any s o g W hst); have HW := gh hW; have HB := gh hb; have HBE := gh hB; have HRE := gh hR; have HI := gh hi; have BM := gh bm; have HST := gh hst; have HWS := gh hWs; have HBR := gh hBR; clear hW hb hi bm hWs h hst hR hB hBR; have c0 := HI.o.cell 0
 simp at c0
 go_enter Tryz.func92,Tryz.ntmps92
 go_upto_region 1 with fail
 rw [<- HBE.o]
 try rw [show B + 1 = R from HBR.o.symm]
 rw [<- HW.o]
 go_wp2_with fail
 refine HOK.o.mono ?_; rintro e w2 ⟨rfl,hb2⟩; have hi2 := HI.o.below hb2 HI.o.lt; have bm2 := BM.o.below hb2 BM.o.lt; have hst2 := HST.o.below hb2; have hz2 := hb2.size; have hBB := HB.o.trans (hb2.mono HB.o.size); have HI2 := gh hi2; have BM2 := gh bm2; have HB2 := gh hBB; have HZ2 := gh hz2; have HST2 := gh hst2; clear hb2 hi2 bm2 hst2 hz2 hBB c0 HOK
 cases o with
 | none =>
  have hst := stored6' BM2.o (.int .i64 0) (.int .i64 0) (.float .f64 0) (.string ⟨#[]⟩) (.slice none 0 0) (.slice none 0 0); obtain ⟨W5,hW5⟩ := gXe (((((((w2.setCell ⟨R, 0,none⟩ (.int .i64 0)).setCell ⟨R, 1,none⟩ (.int .i64 0)).setCell ⟨R, 2,none⟩ (.float .f64 0)).setCell ⟨R, 3,none⟩ (.string ⟨#[]⟩)).setCell ⟨R, 4,none⟩ (.slice none 0 0)).setCell ⟨R, 5,none⟩ (.slice none 0 0))); rw [<- hW5] at hst; have hO5 : Only w W5 g := only_far (Only.of_below HB2.o g) hst.2 (by have := HRE.o; omega)
  have r0 := BM2.o.cell 0; have r1 := BM2.o.cell 1; have r2 := BM2.o.cell 2; have r3 := BM2.o.cell 3; have r4 := BM2.o.cell 4; have r5 := BM2.o.cell 5; simp only [gX0,gX1,gX2] at r0 r1 r2 r3 r4 r5; have f0 := BM2.o.frozen 0; have f1 := BM2.o.frozen 1; have f2 := BM2.o.frozen 2; have f3 := BM2.o.frozen 3; have f4 := BM2.o.frozen 4; have f5 := BM2.o.frozen 5; have HF := gh (show RSt W5 g s none from HST2.o.only hst.2 (by have := HBR.o; omega))
  have HW5 := gh hW5; have HR5 := gh hst.1; have HO5 := gh hO5; clear hst hW5 hO5
  go_wp2_with fail
  rw [<- HW5.o]; clear r0 r1 r2 r3 r4 r5 f0 f1 f2 f3 f4 f5; have e0 := HR5.o.cell 0; have e1 := HR5.o.cell 1; have e2 := HR5.o.cell 2; have e3 := HR5.o.cell 3; have e4 := HR5.o.cell 4; have e5 := HR5.o.cell 5; simp only [gX0,gX1,gX2] at e0 e1 e2 e3 e4 e5; refine bodyPost_ret (v := .agg #[.int .i64 0, .int .i64 0, .float .f64 0, .string ⟨#[]⟩, .slice none 0 0, .slice none 0 0]) (by simp [results,Tryz.results92,go_sem,e0,e1,e2,e3,e4,e5]) rfl ?_
  exact ⟨Val.zero,rfl,zero_erase,zero_in _,zero_sep _,HF.o,HO5.o⟩
 | some p =>
  have hp := HST2.o.1; have hra := HST2.o.2; have HRD := gh (fun (W' : World) (hb : Below w2.heap.size w2 W') => rreadval_sep s p W' hs)
  have hE : valR s (some p) = optV (readVAt s (p : Int)) := rfl; have hne := fun k (hk : readVAt s (p : Int) = .error k) => readVAt_err hk
  have hle := fun v q (hk : readVAt s (p : Int) = .ok (v,q)) => rdVal_le (s := s) (p := p) (v := v) (q := q) hp (by unfold rdVal; rw [hk]; rfl)
  have hgt := fun v q (hk : readVAt s (p : Int) = .ok (v,q)) => (readVAt_gt (s := s) (p := p) (v := v) (q := q) hp hk).1
  obtain ⟨RV,hRV⟩ := gXe (readVAt s (p : Int)); rw [<- hRV] at HRD hE hne hle hgt; have h0 := Blk.cell hra 0; have h1 := Blk.cell hra 1
  simp at h0 h1
  have hb0 := HI2.o.cell 0
  simp at hb0
  have hgW : g < w2.heap.size := Blk.lt hra; have hBW : B < w2.heap.size := HI2.o.lt; have HE := gh hE; have HNE := gh hne; have HLE := gh hle; have HGT := gh hgt; have HRA := gh hra; have hp2 : (p : Int) <= 100000 := by omega
  clear hE hne hle hgt hRV hra
  go_wp2_with fail
  go_cut [3, 4, 5] (fun a3 a4 a5 wx => VRelF RV w2 a3 a4 a5 wx)
  case first =>
   refine wp_region_held_drew (S := (fun X => Below w2.heap.size w2 X)) (by kernel_rfl) ((Below.refl w2.heap.size w2).drew) (fun hHeld => ?_)
   refine gT (i := 0) (d := some 11) (v := ?_) rfl rfl (by kernel_rfl) (fun _ _ _ h => h) (by rfl) ?_ hHeld ?_
   rotate_left
   ·(intro w yS; (try dsimp only at yS); have hS0 := (yS.cell (p := ⟨g, 0,none⟩) hgW).trans h0; have hS1 := (yS.cell (p := ⟨g, 1,none⟩) hgW).trans h1; have hS2 := (yS.cell (p := ⟨B, 0,none⟩) hBW).trans hb0; go_simp; try with_reducible rfl)
   try simp only [Act.put,gX3,gX4,gX5]
   refine gT (i := 1) (d := some 12) (v := ?_) rfl rfl (by kernel_rfl) (fun _ _ _ h => h) (by rfl) ?_ hHeld ?_
   rotate_left
   ·(intro w yS; (try dsimp only at yS); have hS0 := (yS.cell (p := ⟨g, 0,none⟩) hgW).trans h0; have hS1 := (yS.cell (p := ⟨g, 1,none⟩) hgW).trans h1; have hS2 := (yS.cell (p := ⟨B, 0,none⟩) hBW).trans hb0; go_simp; try with_reducible rfl)
   try simp only [Act.put,gX3,gX4,gX5]
   refine gT (i := 2) (d := some 13) (v := ?_) rfl rfl (by kernel_rfl) (fun _ _ _ h => h) (by rfl) ?_ hHeld ?_
   rotate_left
   ·(intro w yS; (try dsimp only at yS); have hS0 := (yS.cell (p := ⟨g, 0,none⟩) hgW).trans h0; have hS1 := (yS.cell (p := ⟨g, 1,none⟩) hgW).trans h1; have hS2 := (yS.cell (p := ⟨B, 0,none⟩) hBW).trans hb0; go_simp; try with_reducible rfl)
   try simp only [Act.put,gX3,gX4,gX5]
   refine gT (i := 3) (d := some 14) (v := ?_) rfl rfl (by kernel_rfl) (fun _ _ _ h => h) (by rfl) ?_ hHeld ?_
   rotate_left
   ·(intro w yS; (try dsimp only at yS); have hS0 := (yS.cell (p := ⟨g, 0,none⟩) hgW).trans h0; have hS1 := (yS.cell (p := ⟨g, 1,none⟩) hgW).trans h1; have hS2 := (yS.cell (p := ⟨B, 0,none⟩) hBW).trans hb0; go_simp; try with_reducible rfl)
   try simp only [Act.put,gX3,gX4,gX5]
   refine gT (i := 4) (d := some 15) (v := ?_) rfl rfl (by kernel_rfl) (fun _ _ _ h => h) (by rfl) ?_ hHeld ?_
   rotate_left
   ·(intro w yS; (try dsimp only at yS); have hS0 := (yS.cell (p := ⟨g, 0,none⟩) hgW).trans h0; have hS1 := (yS.cell (p := ⟨g, 1,none⟩) hgW).trans h1; have hS2 := (yS.cell (p := ⟨B, 0,none⟩) hBW).trans hb0; go_simp; try with_reducible rfl)
   try simp only [Act.put,gX3,gX4,gX5]
   refine gT (i := 5) (d := some 16) (v := ?_) rfl rfl (by kernel_rfl) (fun _ _ _ h => h) (by rfl) ?_ hHeld ?_
   rotate_left
   ·(intro w yS; (try dsimp only at yS); have hS0 := (yS.cell (p := ⟨g, 0,none⟩) hgW).trans h0; have hS1 := (yS.cell (p := ⟨g, 1,none⟩) hgW).trans h1; have hS2 := (yS.cell (p := ⟨B, 0,none⟩) hBW).trans hb0; go_simp; try with_reducible rfl)
   try simp only [Act.put,gX3,gX4,gX5]
   refine gT (i := 6) (d := some 17) (v := ?_) rfl rfl (by kernel_rfl) (fun _ _ _ h => h) (by rfl) ?_ hHeld ?_
   rotate_left
   ·(intro w yS; (try dsimp only at yS); have hS0 := (yS.cell (p := ⟨g, 0,none⟩) hgW).trans h0; have hS1 := (yS.cell (p := ⟨g, 1,none⟩) hgW).trans h1; have hS2 := (yS.cell (p := ⟨B, 0,none⟩) hBW).trans hb0; go_simp; try with_reducible rfl)
   try simp only [Act.put,gX3,gX4,gX5]
   refine gT (i := 7) (d := some 18) (v := ?_) rfl rfl (by kernel_rfl) (fun _ _ _ h => h) (by rfl) ?_ hHeld ?_
   rotate_left
   ·(intro w yS; (try dsimp only at yS); have hS0 := (yS.cell (p := ⟨g, 0,none⟩) hgW).trans h0; have hS1 := (yS.cell (p := ⟨g, 1,none⟩) hgW).trans h1; have hS2 := (yS.cell (p := ⟨B, 0,none⟩) hBW).trans hb0; go_simp; try with_reducible rfl)
   try simp only [Act.put,gX3,gX4,gX5]
   refine gT (i := 8) (d := some 19) (v := ?_) rfl rfl (by kernel_rfl) (fun _ _ _ h => h) (by rfl) ?_ hHeld ?_
   rotate_left
   ·(intro w yS; (try dsimp only at yS); have hS0 := (yS.cell (p := ⟨g, 0,none⟩) hgW).trans h0; have hS1 := (yS.cell (p := ⟨g, 1,none⟩) hgW).trans h1; have hS2 := (yS.cell (p := ⟨B, 0,none⟩) hBW).trans hb0; go_simp; try with_reducible rfl)
   try simp only [Act.put,gX3,gX4,gX5]
   refine gT (i := 9) (d := some 20) (v := ?_) rfl rfl (by kernel_rfl) (fun _ _ _ h => h) (by rfl) ?_ hHeld ?_
   rotate_left
   ·(intro w yS; (try dsimp only at yS); have hS0 := (yS.cell (p := ⟨g, 0,none⟩) hgW).trans h0; have hS1 := (yS.cell (p := ⟨g, 1,none⟩) hgW).trans h1; have hS2 := (yS.cell (p := ⟨B, 0,none⟩) hBW).trans hb0; go_simp; try with_reducible rfl)
   try simp only [Act.put,gX3,gX4,gX5]
   refine held_two (i := 10) (j := 15) (by kernel_rfl) rfl rfl (by rfl) (by rfl) (fun K hK => ?_) (fun K hK => ?_)
   ·go_simp
    go_at_call 116
    refine (HRD.o _ ((Below.refl w2.heap.size w2).drew)).mono ?_; rintro e w6 hrv; obtain ⟨hb6,u,q,k,rfl,hui,hus,hvo⟩ := readVSep_anyF hrv; obtain ⟨a4,b4,k4⟩ := hui.nslice; obtain ⟨a5,b5,k5⟩ := hui.xslice; unfold Val.agg; rw [k4,k5]; have hb6' : Below w2.heap.size w2 w6 := (Below.refl w2.heap.size w2).drew.trans hb6; have HB6 := gh hb6'; have HFIN := gh (vrelF_new (W := w2) hb6' k4 k5 hui hus hvo); clear hb6 hb6' hui hus hvo k4 k5 hrv; refine hK.out _ _ (HB6.o) (fun hHeld => ?_)
    clear hK K; try simp only [Act.put,gX3,gX4,gX5]
    refine gT (i := 11) (d := some 10) (v := ?_) rfl rfl (by kernel_rfl) (fun _ _ _ h => h) (by rfl) ?_ hHeld ?_
    rotate_left
    ·(intro w yS; (try dsimp only at yS); go_simp; try with_reducible rfl)
    try simp only [Act.put,gX3,gX4,gX5]
    refine gT (i := 12) (d := some 22) (v := ?_) rfl rfl (by kernel_rfl) (fun _ _ _ h => h) (by rfl) ?_ hHeld ?_
    rotate_left
    ·(intro w yS; (try dsimp only at yS); go_simp; try with_reducible rfl)
    try simp only [Act.put,gX3,gX4,gX5]
    refine gT (i := 13) (d := some 23) (v := ?_) rfl rfl (by kernel_rfl) (fun _ _ _ h => h) (by rfl) ?_ hHeld ?_
    rotate_left
    ·(intro w yS; (try dsimp only at yS); go_simp; try with_reducible rfl)
    try simp only [Act.put,gX3,gX4,gX5]
    refine gT (i := 14) (d := some 24) (v := ?_) rfl rfl (by kernel_rfl) (fun _ _ _ h => h) (by rfl) ?_ hHeld ?_
    rotate_left
    ·(intro w yS; (try dsimp only at yS); go_simp; try with_reducible rfl)
    try simp only [Act.put,gX3,gX4,gX5]
    refine held_only (i := 15) (by kernel_rfl) rfl (by rfl) (fun K hK => ?_)
    go_simp
    refine hK.out _ _ (HB6.o.alloc HB6.o.size _) (fun hHeld => ?_)
    clear hK K; try simp only [Act.put,gX3,gX4,gX5]
    have hn6 := Blk.new w6 37 #[.int .i64 0, .int .i64 0, .float .f64 0, .string ⟨#[]⟩, .slice none 0 0, .slice none 0 0]; have z0 := hn6.cell 0; have z1 := hn6.cell 1; have z2 := hn6.cell 2; have z3 := hn6.cell 3; have z4 := hn6.cell 4; have z5 := hn6.cell 5; have y0 := hn6.frozen 0; have y1 := hn6.frozen 1; have y2 := hn6.frozen 2; have y3 := hn6.frozen 3; have y4 := hn6.frozen 4; have y5 := hn6.frozen 5
    simp at z0 z1 z2 z3 z4 z5
    clear hn6; refine held_only (i := 16) (by kernel_rfl) rfl (by rfl) (fun K hK => ?_)
    go_simp
    refine hK.out _ _ (HB6.o.alloc HB6.o.size _) (fun hHeld => ?_)
    clear hK K; try simp only [Act.put,gX3,gX4,gX5]
    clear z0 z1 z2 z3 z4 z5 y0 y1 y2 y3 y4 y5; refine gT (i := 17) (d := some 4) (v := ?_) rfl rfl (by kernel_rfl) (fun _ _ _ h => h) (by rfl) ?_ hHeld ?_
    rotate_left
    ·(intro w yS; (try dsimp only at yS); go_simp; try with_reducible rfl)
    try simp only [Act.put,gX3,gX4,gX5]
    refine gT (i := 18) (d := some 5) (v := ?_) rfl rfl (by kernel_rfl) (fun _ _ _ h => h) (by rfl) ?_ hHeld ?_
    rotate_left
    ·(intro w yS; (try dsimp only at yS); go_simp; try with_reducible rfl)
    try simp only [Act.put,gX3,gX4,gX5]
    refine wpAnyH_done (by kernel_rfl) ?_ _
    go_wp2
    go_meet
    exact HFIN.o
   ·go_simp
    refine hK.out _ _ ((Below.refl w2.heap.size w2).drew.alloc (Nat.le_refl _) _) (fun hHeld => ?_)
    clear hK K; try simp only [Act.put,gX3,gX4,gX5]
    refine held_only (i := 10) (by kernel_rfl) rfl (by rfl) (fun K hK => ?_)
    go_simp
    go_at_call 116
    refine (HRD.o _ ((Below.refl w2.heap.size w2).drew.alloc (Nat.le_refl _) _)).mono ?_; rintro e w6 hrv; obtain ⟨hb6,u,q,k,rfl,hui,hus,hvo⟩ := readVSep_anyF hrv; obtain ⟨a4,b4,k4⟩ := hui.nslice; obtain ⟨a5,b5,k5⟩ := hui.xslice; unfold Val.agg; rw [k4,k5]; have hb6' : Below w2.heap.size w2 w6 := ((Below.refl w2.heap.size w2).drew.alloc (Nat.le_refl _) _).trans (hb6.mono (by simp))
    have hX6 : Blk w6 w2.heap.size 37 #[.int .i64 0, .int .i64 0, .float .f64 0, .string ⟨#[]⟩, .slice none 0 0, .slice none 0 0] := (Blk.new w2.drew 37 _).below hb6 (by simp)
    have HB6 := gh hb6'; have HX6 := gh hX6
    have HFIN := gh (vrelF_set (W := w2) hb6' rfl hX6 k4 k5 hui (hus.mono (fun b hb => by
     have hz' : (w2.drew.alloc (.cells #[.int .i64 0, .int .i64 0, .float .f64 0, .string ⟨#[]⟩, .slice none 0 0, .slice none 0 0] 37)).heap.size = w2.heap.size + 1 := by simp
     rw [hz'] at hb; exact hb)) hvo)
    clear hb6 hb6' hX6 hui hus hvo k4 k5 hrv; refine hK.out _ _ (HB6.o) (fun hHeld => ?_)
    clear hK K; try simp only [Act.put,gX3,gX4,gX5]
    refine gT (i := 11) (d := some 10) (v := ?_) rfl rfl (by kernel_rfl) (fun _ _ _ h => h) (by rfl) ?_ hHeld ?_
    rotate_left
    ·(intro w yS; (try dsimp only at yS); go_simp; try with_reducible rfl)
    try simp only [Act.put,gX3,gX4,gX5]
    refine gT (i := 12) (d := some 22) (v := ?_) rfl rfl (by kernel_rfl) (fun _ _ _ h => h) (by rfl) ?_ hHeld ?_
    rotate_left
    ·(intro w yS; (try dsimp only at yS); go_simp; try with_reducible rfl)
    try simp only [Act.put,gX3,gX4,gX5]
    refine gT (i := 13) (d := some 23) (v := ?_) rfl rfl (by kernel_rfl) (fun _ _ _ h => h) (by rfl) ?_ hHeld ?_
    rotate_left
    ·(intro w yS; (try dsimp only at yS); go_simp; try with_reducible rfl)
    try simp only [Act.put,gX3,gX4,gX5]
    refine gT (i := 14) (d := some 24) (v := ?_) rfl rfl (by kernel_rfl) (fun _ _ _ h => h) (by rfl) ?_ hHeld ?_
    rotate_left
    ·(intro w yS; (try dsimp only at yS); go_simp; try with_reducible rfl)
    try simp only [Act.put,gX3,gX4,gX5]
    have hn6 := HX6.o; have z0 := hn6.cell 0; have z1 := hn6.cell 1; have z2 := hn6.cell 2; have z3 := hn6.cell 3; have z4 := hn6.cell 4; have z5 := hn6.cell 5; have y0 := hn6.frozen 0; have y1 := hn6.frozen 1; have y2 := hn6.frozen 2; have y3 := hn6.frozen 3; have y4 := hn6.frozen 4; have y5 := hn6.frozen 5
    simp at z0 z1 z2 z3 z4 z5
    clear hn6; refine held_only (i := 16) (by kernel_rfl) rfl (by rfl) (fun K hK => ?_)
    go_simp
    refine hK.out _ _ (below6' HB6.o (Nat.le_refl _) _ _ _ _ _ _) (fun hHeld => ?_)
    clear hK K; try simp only [Act.put,gX3,gX4,gX5]
    clear z0 z1 z2 z3 z4 z5 y0 y1 y2 y3 y4 y5; refine gT (i := 17) (d := some 4) (v := ?_) rfl rfl (by kernel_rfl) (fun _ _ _ h => h) (by rfl) ?_ hHeld ?_
    rotate_left
    ·(intro w yS; (try dsimp only at yS); go_simp; try with_reducible rfl)
    try simp only [Act.put,gX3,gX4,gX5]
    refine gT (i := 18) (d := some 5) (v := ?_) rfl rfl (by kernel_rfl) (fun _ _ _ h => h) (by rfl) ?_ hHeld ?_
    rotate_left
    ·(intro w yS; (try dsimp only at yS); go_simp; try with_reducible rfl)
    try simp only [Act.put,gX3,gX4,gX5]
    refine wpAnyH_done (by kernel_rfl) ?_ _
    go_wp2
    go_meet
    exact HFIN.o
  case rest =>
   obtain ⟨V,u,q,k,rfl,rfl,rfl,hV,hbx,hbV,hui,hus,hvo⟩ := hcut; obtain ⟨W3,hW3⟩ : ∃ W3 : World,W3 = wc := ⟨_,rfl⟩; rw [<- hW3] at hbx hbV hui ⊢; clear hW3 h0 h1 hb0 HRD; obtain ⟨a4,b4,k4⟩ := hui.nslice; obtain ⟨a5,b5,k5⟩ := hui.xslice; have hag : u.agg = .agg #[.int .i64 u.k, .int .i64 u.n, .float .f64 u.f, .string u.s, .slice a4 u.ns.length b4, .slice a5 u.xs.length b5] := by unfold Val.agg; rw [k4,k5]
   have hbV' : Blk W3 V 37 [.int .i64 u.k, .int .i64 u.n, .float .f64 u.f, .string u.s, .slice a4 u.ns.length b4, .slice a5 u.xs.length b5].toArray := by unfold Val.cells at hbV; rw [k4,k5] at hbV; exact hbV
   have bR3 := BM2.o.below hbx BM2.o.lt; have bI3 := HI2.o.below hbx hBW; have bG3 := Blk.below HRA.o hbx hgW; have hB3 := HB2.o.trans (hbx.mono HB2.o.size)
   obtain ⟨P, hP, hPE⟩ : ∃ P : Nat, max q (p : Int) = (P : Int) /\ RStE s P k (sndN (optV RV)) := by
    cases RV with
    | error k2 =>
     obtain ⟨rfl,rfl,_⟩ := hvo; exact ⟨p,by omega,by have := HNE.o k rfl; show k ≠ 0; simpa using this⟩
    | ok x =>
     obtain ⟨v,q2⟩ := x; obtain ⟨rfl,rfl,_⟩ := hvo; have := HGT.o v q2 rfl; exact ⟨q2,by omega,rfl,rfl,HLE.o v q2 rfl⟩
   have hue : u.erase = fstV (optV RV) := by
    cases RV with
    | error k2 => obtain ⟨_,_,rfl⟩ := hvo; exact zero_erase
    | ok x => obtain ⟨v,q2⟩ := x; exact hvo.2.2
   obtain ⟨W4,hW4⟩ := gXe (W3.setCell ⟨g, 2,none⟩ (.int .i64 k)); obtain ⟨W5,hW5⟩ := gXe ((W4.setCell ⟨g, 1,none⟩ (.int .i64 (P : Int))).drew); have bG4 : Blk W4 g 116 #[.string s, .int .i64 p, .int .i64 k, .int .i64 0] := by rw [hW4]; exact bG3.set_ 2 _
   have bG5 : Blk W5 g 116 #[.string s, .int .i64 P, .int .i64 k, .int .i64 0] := by rw [hW5]; exact (bG4.set_ 1 _).drew
   have hgI : B ≠ g := by omega
   have hgR : R ≠ g := by have := HBR.o; omega
   have hgV : V ≠ g := by omega
   have bI4 : Blk W4 B 112 #[.pointer (some ⟨g, 0,none⟩)] := by rw [hW4]; exact bI3.far (p := ⟨g, 2,none⟩) hgI _
   have bR5 : Blk W5 R 37 [.int .i64 0, .int .i64 0, .float .f64 0, .string ⟨#[]⟩, .slice none 0 0, .slice none 0 0].toArray := by rw [hW5,hW4]; exact ((bR3.far (p := ⟨g, 2,none⟩) hgR _).far (p := ⟨g, 1,none⟩) hgR _).drew
   have bV5 : Blk W5 V 37 [.int .i64 u.k, .int .i64 u.n, .float .f64 u.f, .string u.s, .slice a4 u.ns.length b4, .slice a5 u.xs.length b5].toArray := by rw [hW5,hW4]; exact ((hbV'.far (p := ⟨g, 2,none⟩) hgV _).far (p := ⟨g, 1,none⟩) hgV _).drew
   have hO5 : Only w W5 g := by rw [hW5,hW4]; exact (((Only.of_below hB3 g).set_ (p := ⟨g, 2,none⟩) (.inl rfl) _).set_ (p := ⟨g, 1,none⟩) (.inl rfl) _).drew
   have hO35 : Only W3 W5 g := by rw [hW5,hW4]; exact (((Only.refl W3 g).set_ (p := ⟨g, 2,none⟩) (.inl rfl) _).set_ (p := ⟨g, 1,none⟩) (.inl rfl) _).drew
   have hui5 : u.In W5 := hui.carryS hus (fun b o hb hlt => only_cell hO35 (by have hb' : w2.heap.size <= b := hb; omega) hlt o) hO35.size
   have hst := stored6' bR5 (.int .i64 u.k) (.int .i64 u.n) (.float .f64 u.f) (.string u.s) (.slice a4 u.ns.length b4) (.slice a5 u.xs.length b5); obtain ⟨W6,hW6⟩ := gXe (((((((W5.setCell ⟨R, 0,none⟩ (.int .i64 u.k)).setCell ⟨R, 1,none⟩ (.int .i64 u.n)).setCell ⟨R, 2,none⟩ (.float .f64 u.f)).setCell ⟨R, 3,none⟩ (.string u.s)).setCell ⟨R, 4,none⟩ (.slice a4 u.ns.length b4)).setCell ⟨R, 5,none⟩ (.slice a5 u.xs.length b5))); rw [<- hW6] at hst; have hRw : w.heap.size <= R := by have := HRE.o; omega
   have hRw2 : R < w2.heap.size := BM2.o.lt; have hO6 : Only w W6 g := only_far hO5 hst.2 hRw; have bG6 : RSt W6 g s (sndN (optV RV)) := (hPE.st bG5).only hst.2 (Ne.symm hgR); have hui6 : u.In W6 := hui5.carryS hus (fun b o hb hlt => only_cell hst.2 (by have hb' : w2.heap.size <= b := hb; omega) hlt o) hst.2.size
   have HF := gh (show u.erase = fstV (optV RV) /\ u.In W6 /\ u.Sep (fun b => w.heap.size <= b) /\ RSt W6 g s (sndN (optV RV)) /\ Only w W6 g from ⟨hue,hui6,hus.mono (fun b hb => by have hb' : w2.heap.size <= b := hb; have := HB2.o.size; omega),bG6,hO6⟩)
   have hP1 : -9223372036854775808 <= (P : Int) := by omega
   have HW4 := gh hW4; have HW5 := gh hW5; have HW6 := gh hW6; have HG3 := gh bG3; have HI3 := gh bI3; have HG4 := gh bG4; have HI4 := gh bI4; have HR5 := gh bR5; have HV5 := gh bV5; have HR6 := gh hst.1; have HAG := gh hag; have HPM := gh hP; clear hW4 hW5 hW6 bG3 bI3 bG4 bI4 bR5 bV5 hst hag hP hV hbx hbV hui hus hvo k4 k5 hbV' bR3 hB3 hPE hue bG5 hO5 hO35 hui5 hO6 bG6 hui6; have c0 := HI3.o.cell 0; have d2 := HG3.o.cell 2; have f2 := HG3.o.frozen 2
   simp at c0 d2
   go_upto_region 5 with fail
   rw [<- HW4.o]; clear c0 d2 f2; have c0 := HI4.o.cell 0; have d1 := HG4.o.cell 1; have f1 := HG4.o.frozen 1
   simp at c0 d1
   have hmx := HPM.o
   go_region
   rw [<- HW5.o]; clear c0 d1 f1; have v0 := HV5.o.cell 0; have v1 := HV5.o.cell 1; have v2 := HV5.o.cell 2; have v3 := HV5.o.cell 3; have v4 := HV5.o.cell 4; have v5 := HV5.o.cell 5; simp only [gX0,gX1,gX2] at v0 v1 v2 v3 v4 v5; have r0 := HR5.o.cell 0; have r1 := HR5.o.cell 1; have r2 := HR5.o.cell 2; have r3 := HR5.o.cell 3; have r4 := HR5.o.cell 4; have r5 := HR5.o.cell 5; simp only [gX0,gX1,gX2] at r0 r1 r2 r3 r4 r5; have f0 := HR5.o.frozen 0; have f1 := HR5.o.frozen 1; have f2 := HR5.o.frozen 2; have f3 := HR5.o.frozen 3; have f4 := HR5.o.frozen 4; have f5 := HR5.o.frozen 5
   go_wp2_with fail
   rw [<- HW6.o]; clear v0 v1 v2 v3 v4 v5 r0 r1 r2 r3 r4 r5 f0 f1 f2 f3 f4 f5; have e0 := HR6.o.cell 0; have e1 := HR6.o.cell 1; have e2 := HR6.o.cell 2; have e3 := HR6.o.cell 3; have e4 := HR6.o.cell 4; have e5 := HR6.o.cell 5; simp only [gX0,gX1,gX2] at e0 e1 e2 e3 e4 e5; refine bodyPost_ret (v := .agg #[.int .i64 u.k, .int .i64 u.n, .float .f64 u.f, .string u.s, .slice a4 u.ns.length b4, .slice a5 u.xs.length b5]) (by simp [results,Tryz.results92,go_sem,e0,e1,e2,e3,e4,e5]) rfl ?_
   rw [HE.o]; exact ⟨u,by rw [HAG.o],HF.o⟩
def byteK (s : ByteArray) : Option Nat -> Nat
 | none => 0
 | some p => if h : p < s.size then (s[p]'h).toNat else 0
structure ByteS (s : ByteArray) (o : Option Nat) (K g : Nat) (w' : World) : Prop where
 one : K = 1 -> ∃ p,o = some p /\ p < s.size /\ (byteAt s p).toNat = K /\ RSt w' g s (some (p + 1))
 more : 1 < K -> ∃ p,o = some p /\ p < s.size /\ (byteAt s p).toNat = K /\ RAt w' g s (p + 1) 0 0
 none_ : K = 0 -> RSt w' g s (sndN (someR s o)) /\ fstV (someR s o) = Val.zero
def ByteD (s : ByteArray) (o : Option Nat) (K g : Nat) (w : World) (e : Ending) (w' : World) : Prop := e = .returned (.int .i64 K) /\ Only w w' g /\ ByteS s o K g w'
theorem byted_any (s : ByteArray) (o : Option Nat) (g : Nat) (w : World) (hs : s.size <= 100000) (h : RSt w g s o) :
  Calls Tryz.prog 91 #[.pointer (some ⟨g, 0,none⟩)] w fun e w' => ByteD s o (byteK s o) g w e w' := by
 cases o with
 | none =>
  obtain ⟨p,k,hk,hr⟩ := h; refine (fbyte_old k s p 0 g w hr hk).mono ?_; rintro e w' ⟨rfl,rfl⟩; exact ⟨rfl,Only.refl _ _,fun (h : 0 = 1) => absurd h (by decide),fun (h : 1 < 0) => absurd h (by decide),fun _ => ⟨⟨p,k,hk,hr⟩,rfl⟩⟩
 | some p =>
  obtain ⟨hp,hr⟩ := h
  by_cases hlt : p < s.size
  ·rw [show byteK s (some p) = (s[p]'hlt).toNat from by simp [byteK, hlt]]
   have hb : (byteAt s p).toNat = (s[p]'hlt).toNat := by rw [byteAt_eq hlt]
   refine (fbyte_ok s p 0 g w hs hlt hr).mono ?_; rintro e w' ⟨rfl,ha,ho⟩; refine ⟨rfl,ho,fun h => ⟨p,rfl,hlt,hb,hlt,ha⟩,fun h => ⟨p,rfl,hlt,hb,ha⟩,fun h => ?_⟩
   have hE : someR s (some p) = some (Val.zero, p + 1) := by
    show rdSome s p = _
    rw [rdSome_eq,if_pos hlt,hb,h,if_pos rfl]
   rw [hE]; exact ⟨⟨hlt,ha⟩,rfl⟩
  ·rw [show byteK s (some p) = 0 from by simp [byteK, hlt]]
   refine (fbyte_torn s p 0 g w hs (by omega) (by omega) hr).mono ?_
   rintro e w' ⟨rfl,ha,ho⟩
   have hE : someR s (some p) = none := by
    show rdSome s p = _
    rw [rdSome_eq,if_neg hlt]
   exact ⟨rfl,ho,fun h => absurd h (by decide),fun h => absurd h (by decide),fun _ => by rw [hE]; exact ⟨⟨p, 14,by decide,ha⟩,rfl⟩⟩
theorem insome_any (s : ByteArray) (o : Option Nat) (g : Nat) (w : World) (hs : s.size <= 100000) (h : RSt w g s o) :
  Calls Tryz.prog 60 #[.agg #[.pointer (some ⟨g, 0,none⟩)]] w fun e w' => ValD (someR s o) s g w e w' := by
 have hsf := run_store_flt; obtain ⟨B,hB⟩ := gXe (w.heap.size); obtain ⟨R,hR⟩ := gXe (w.heap.size + 1); obtain ⟨W,hW⟩ := gXe ((w.alloc (.cells #[.pointer (some ⟨g, 0,none⟩)] 112)).alloc (.cells #[.int .i64 0, .int .i64 0, .float .f64 0, .string ⟨#[]⟩, .slice none 0 0, .slice none 0 0] 37)); have hb : Below w.heap.size w W := by rw [hW]; exact ((Below.refl _ _).alloc (Nat.le_refl _) _).alloc (by simp) _
 have hi : Blk W B 112 #[.pointer (some ⟨g, 0,none⟩)] := by rw [hW,hB]; exact (Blk.new _ _ _).alloc _
 have bm : Blk W R 37 [.int .i64 0, .int .i64 0, .float .f64 0, .string ⟨#[]⟩, .slice none 0 0, .slice none 0 0].toArray := by rw [hW,hR]; have := Blk.new (w.alloc (.cells #[.pointer (some ⟨g, 0,none⟩)] 112)) 37 #[.int .i64 0, .int .i64 0, .float .f64 0, .string ⟨#[]⟩, .slice none 0 0, .slice none 0 0]; rw [alloc_size'] at this; exact this
 have hWs : W.heap.size = R + 1 := by rw [hW,hR]; simp
 have hgB : g < B := by rw [hB]; exact h.lt
 have hBR : R = B + 1 := by rw [hR,hB]
 have hst := h.below hb; have HW := gh hW; have HB := gh hb; have HBE := gh hB; have HRE := gh hR; have HI := gh hi; have BM := gh bm; have HWS := gh hWs; have HBR := gh hBR; clear hW hb hi bm hWs h hR hB hBR; have c0 := HI.o.cell 0
 simp at c0
 have hgR : g ≠ R := by have := HBR.o; omega
 have hgB' : B ≠ g := by omega
 have hRw : w.heap.size <= R := by have := HRE.o; omega
 have hend : ∀ (c : Nat) (w2 : World), Only W w2 g -> RSt w2 g s (sndN (someR s o)) -> fstV (someR s o) = Val.zero -> Hid (Only w w2 g /\ Blk w2 R 37 [.int .i64 0, .int .i64 0, .float .f64 0, .string ⟨#[]⟩, .slice none 0 0, .slice none 0 0].toArray /\ Blk w2 B 112 #[.pointer (some ⟨g, 0, none⟩)] /\ RSt w2 g s (sndN (someR s o)) /\ fstV (someR s o) = Val.zero) := fun c w2 ho hr hz =>
  gh ⟨(Only.of_below HB.o g).trans ho,BM.o.grown ho (by simp; omega),HI.o.grown ho (by simp; omega),hr,hz⟩
 have HEND := gh hend; clear hend; obtain ⟨K,hK⟩ : ∃ K : Nat,K = byteK s o := ⟨_,rfl⟩
 have hcall : Calls Tryz.prog 91 #[.pointer (some ⟨g, 0, none⟩)] W fun e w' => ByteD s o K g W e w' := by
  rw [hK]; exact byted_any s o g W hs hst
 have HC := gh hcall; have HKE := gh hK; clear hcall hK hst
 go_enter Tryz.func60,Tryz.ntmps60
 go_upto_region 1 with fail
 rw [<- HBE.o]
 try rw [show B + 1 = R from HBR.o.symm]
 rw [<- HW.o]
 go_wp2_with fail
 refine HC.o.mono ?_; rintro e w2 ⟨rfl,ho2,hr2⟩
 by_cases h1 : K = 1
 ·subst h1
  obtain ⟨p,rfl,hp,hc,hr2⟩ := hr2.one rfl; have HI2 := gh (HI.o.grown ho2 (by simp; omega)); have BM2 := gh (BM.o.grown ho2 (by simp; omega)); have HO2 := gh ((Only.of_below HB.o g).trans ho2)
  have HV := gh (inval_any s (some (p + 1)) g w2 hs hr2)
  have hE : someR s (some p) = valR s (some (p + 1)) := by
   show rdSome s p = rdVal s (p + 1)
   rw [rdSome_eq,if_pos hp,hc]
   rfl
  have HE := gh hE; have hz2 : w.heap.size <= w2.heap.size := HO2.o.size; clear c0 ho2 hr2 hE HC; have c0 := HI2.o.cell 0
  simp at c0
  go_wp2_with fail
  refine HV.o.mono ?_; rintro e w4 ⟨u,rfl,hue,hui,hus,hr4,ho4⟩; obtain ⟨a4,b4,k4⟩ := hui.nslice; obtain ⟨a5,b5,k5⟩ := hui.xslice; have hag : u.agg = .agg #[.int .i64 u.k, .int .i64 u.n, .float .f64 u.f, .string u.s, .slice a4 u.ns.length b4, .slice a5 u.xs.length b5] := by unfold Val.agg; rw [k4,k5]
  have bR4 := BM2.o.grown ho4 (by simp; omega)
  have hR2 : R < w2.heap.size := BM2.o.lt; have hst5 := stored6' bR4 (.int .i64 u.k) (.int .i64 u.n) (.float .f64 u.f) (.string u.s) (.slice a4 u.ns.length b4) (.slice a5 u.xs.length b5); obtain ⟨W5,hW5⟩ := gXe (((((((w4.setCell ⟨R, 0,none⟩ (.int .i64 u.k)).setCell ⟨R, 1,none⟩ (.int .i64 u.n)).setCell ⟨R, 2,none⟩ (.float .f64 u.f)).setCell ⟨R, 3,none⟩ (.string u.s)).setCell ⟨R, 4,none⟩ (.slice a4 u.ns.length b4)).setCell ⟨R, 5,none⟩ (.slice a5 u.xs.length b5))); rw [<- hW5] at hst5; have hO5 : Only w W5 g := only_far (HO2.o.trans ho4) hst5.2 hRw; have hui5 : u.In W5 := hui.carryS hus (fun b o hb hlt => only_cell hst5.2 (by have hb' : w2.heap.size <= b := hb; omega) hlt o) hst5.2.size
  have HF := gh (show u.erase = fstV (valR s (some (p + 1))) /\ u.In W5 /\ u.Sep (fun b => w.heap.size <= b) /\ RSt W5 g s (sndN (valR s (some (p + 1)))) /\ Only w W5 g from ⟨hue,hui5,hus.mono (fun b hb => by have hb' : w2.heap.size <= b := hb; omega),hr4.only hst5.2 hgR,hO5⟩)
  have r0 := bR4.cell 0; have r1 := bR4.cell 1; have r2 := bR4.cell 2; have r3 := bR4.cell 3; have r4 := bR4.cell 4; have r5 := bR4.cell 5; simp only [gX0,gX1,gX2] at r0 r1 r2 r3 r4 r5; have f0 := bR4.frozen 0; have f1 := bR4.frozen 1; have f2 := bR4.frozen 2; have f3 := bR4.frozen 3; have f4 := bR4.frozen 4; have f5 := bR4.frozen 5; have HW5 := gh hW5; have HR5 := gh hst5.1; have HAG := gh hag; rw [hag]; clear ho4 hue hui hus hr4 k4 k5 hag bR4 hst5 hW5 hO5 hui5 HV
  go_wp2_with fail
  rw [<- HW5.o]; clear r0 r1 r2 r3 r4 r5 f0 f1 f2 f3 f4 f5; have e0 := HR5.o.cell 0; have e1 := HR5.o.cell 1; have e2 := HR5.o.cell 2; have e3 := HR5.o.cell 3; have e4 := HR5.o.cell 4; have e5 := HR5.o.cell 5; simp only [gX0,gX1,gX2] at e0 e1 e2 e3 e4 e5; refine bodyPost_ret (v := .agg #[.int .i64 u.k, .int .i64 u.n, .float .f64 u.f, .string u.s, .slice a4 u.ns.length b4, .slice a5 u.xs.length b5]) (by simp [results,Tryz.results60,go_sem,e0,e1,e2,e3,e4,e5]) rfl ?_
  rw [HE.o]; exact ⟨u,by rw [HAG.o],HF.o⟩
 ·have j2 : ((K : Int) == 1) = false := by simp; omega
  by_cases h2 : 1 < K
  ·have j1 : decide ((1 : Int) < (K : Int)) = true := by simp; omega
   obtain ⟨p,rfl,hp,hc,hr3⟩ := hr2.more h2; have hI2 := HI.o.grown ho2 (by simp; omega)
   have hE : someR s (some p) = none := by
    show rdSome s p = none
    rw [rdSome_eq,if_pos hp,hc,if_neg (by omega),if_neg h1]
   have HFL := gh (infail_any s (p + 1) g w2 hr3); have HO2 := gh ho2; have HE := gh hE; clear c0 ho2 hr2 hr3 h1 h2 hE HC; have c0 := hI2.cell 0
   simp at c0
   clear hI2
   go_wp2_with fail
   refine HFL.o.mono ?_; rintro e w3 ⟨rfl,hr3,ho3⟩; have HX := HEND.o 0 w3 (HO2.o.trans ho3) (by rw [HE.o]; exact hr3) (by rw [HE.o]; rfl)
   clear hr3 ho3 c0; have hst := stored6' HX.o.2.1 (.int .i64 0) (.int .i64 0) (.float .f64 0) (.string ⟨#[]⟩) (.slice none 0 0) (.slice none 0 0); obtain ⟨W5,hW5⟩ := gXe (((((((w3.setCell ⟨R, 0,none⟩ (.int .i64 0)).setCell ⟨R, 1,none⟩ (.int .i64 0)).setCell ⟨R, 2,none⟩ (.float .f64 0)).setCell ⟨R, 3,none⟩ (.string ⟨#[]⟩)).setCell ⟨R, 4,none⟩ (.slice none 0 0)).setCell ⟨R, 5,none⟩ (.slice none 0 0))); rw [<- hW5] at hst; have r0 := HX.o.2.1.cell 0; have r1 := HX.o.2.1.cell 1; have r2 := HX.o.2.1.cell 2; have r3 := HX.o.2.1.cell 3; have r4 := HX.o.2.1.cell 4; have r5 := HX.o.2.1.cell 5; simp only [gX0,gX1,gX2] at r0 r1 r2 r3 r4 r5; have f0 := HX.o.2.1.frozen 0; have f1 := HX.o.2.1.frozen 1; have f2 := HX.o.2.1.frozen 2; have f3 := HX.o.2.1.frozen 3; have f4 := HX.o.2.1.frozen 4; have f5 := HX.o.2.1.frozen 5; have HF := gh (And.intro (HX.o.2.2.2.1.only hst.2 hgR) (only_far HX.o.1 hst.2 hRw)); have HW5 := gh hW5; have HR5 := gh hst.1; clear hst hW5
   go_wp2_with fail
   rw [<- HW5.o]; clear r0 r1 r2 r3 r4 r5 f0 f1 f2 f3 f4 f5; have e0 := HR5.o.cell 0; have e1 := HR5.o.cell 1; have e2 := HR5.o.cell 2; have e3 := HR5.o.cell 3; have e4 := HR5.o.cell 4; have e5 := HR5.o.cell 5; simp only [gX0,gX1,gX2] at e0 e1 e2 e3 e4 e5; refine bodyPost_ret (v := .agg #[.int .i64 0, .int .i64 0, .float .f64 0, .string ⟨#[]⟩, .slice none 0 0, .slice none 0 0]) (by simp [results,Tryz.results60,go_sem,e0,e1,e2,e3,e4,e5]) rfl ?_
   exact ⟨Val.zero,rfl,HX.o.2.2.2.2.symm,zero_in _,zero_sep _,HF.o.1,HF.o.2⟩
  ·have j1 : decide ((1 : Int) < (K : Int)) = false := by simp; omega
   have HX := HEND.o 0 w2 ho2 (hr2.none_ (by omega)).1 (hr2.none_ (by omega)).2
   clear c0 ho2 hr2 h1 h2 HC; have hst := stored6' HX.o.2.1 (.int .i64 0) (.int .i64 0) (.float .f64 0) (.string ⟨#[]⟩) (.slice none 0 0) (.slice none 0 0); obtain ⟨W5,hW5⟩ := gXe (((((((w2.setCell ⟨R, 0,none⟩ (.int .i64 0)).setCell ⟨R, 1,none⟩ (.int .i64 0)).setCell ⟨R, 2,none⟩ (.float .f64 0)).setCell ⟨R, 3,none⟩ (.string ⟨#[]⟩)).setCell ⟨R, 4,none⟩ (.slice none 0 0)).setCell ⟨R, 5,none⟩ (.slice none 0 0))); rw [<- hW5] at hst; have r0 := HX.o.2.1.cell 0; have r1 := HX.o.2.1.cell 1; have r2 := HX.o.2.1.cell 2; have r3 := HX.o.2.1.cell 3; have r4 := HX.o.2.1.cell 4; have r5 := HX.o.2.1.cell 5; simp only [gX0,gX1,gX2] at r0 r1 r2 r3 r4 r5; have f0 := HX.o.2.1.frozen 0; have f1 := HX.o.2.1.frozen 1; have f2 := HX.o.2.1.frozen 2; have f3 := HX.o.2.1.frozen 3; have f4 := HX.o.2.1.frozen 4; have f5 := HX.o.2.1.frozen 5; have HF := gh (And.intro (HX.o.2.2.2.1.only hst.2 hgR) (only_far HX.o.1 hst.2 hRw)); have HW5 := gh hW5; have HR5 := gh hst.1; clear hst hW5
   go_wp2_with fail
   rw [<- HW5.o]; clear r0 r1 r2 r3 r4 r5 f0 f1 f2 f3 f4 f5; have e0 := HR5.o.cell 0; have e1 := HR5.o.cell 1; have e2 := HR5.o.cell 2; have e3 := HR5.o.cell 3; have e4 := HR5.o.cell 4; have e5 := HR5.o.cell 5; simp only [gX0,gX1,gX2] at e0 e1 e2 e3 e4 e5; refine bodyPost_ret (v := .agg #[.int .i64 0, .int .i64 0, .float .f64 0, .string ⟨#[]⟩, .slice none 0 0, .slice none 0 0]) (by simp [results,Tryz.results60,go_sem,e0,e1,e2,e3,e4,e5]) rfl ?_
   exact ⟨Val.zero,rfl,HX.o.2.2.2.2.symm,zero_in _,zero_sep _,HF.o.1,HF.o.2⟩
end Go.Proofs.YtaamihdibpioaaaGreat.Ri
