/- The document's journal: New, a record's bytes, Crash. -/
import Derived.Test.YtaamihdibpioaaaGreatJpM32
import Derived.Laws.MakeOwn
import Derived.Deep.OwnRows
set_option maxRecDepth 100000
set_option maxHeartbeats 40000000
namespace Go.Proofs.YtaamihdibpioaaaGreat.Jf
open Go.RowKit Go.Proofs.YtaamihdibpioaaaGreat.Ref06 Go.Proofs.YtaamihdibpioaaaGreat.Ref17 Go.Proofs.YtaamihdibpioaaaGreat.Jr Go.Proofs.YtaamihdibpioaaaGreat.Crc Go.Proofs.YtaamihdibpioaaaGreat.Pk Go.Proofs.YtaamihdibpioaaaGreat.Rf
section
variable {n : Nat} {rows : List ByteArray} (hD : Dk n rows)
include hD
theorem rowOf_take {i : Int} (hi : isSeg n i = true) : rowOf (rows.take n) i = rowOf rows i := by
 obtain ⟨k,rfl,h1,_⟩ := hD.at_ hi
 simp [rowOf,List.getElem?_take,h1]
theorem tearE_take (i : Int) (s : ByteArray) : tearE n (rows.take n) i s = tearE n rows i s := by
 unfold tearE fits
 cases hi : isSeg n i
 ·rfl
 ·rw [rowOf_take hD hi]
theorem tearR_take (i : Int) (s : ByteArray) (keep : Int) : tearR n (rows.take n) i s keep = (tearR n rows i s keep).take n := by
 unfold tearR fits
 cases hi : isSeg n i
 ·rfl
 ·rw [rowOf_take hD hi]
  simp only [Bool.true_and]
  cases decide ((rowOf rows i).size + s.size <= 4000)
  ·rfl
  ·simp only [cond_true,List.take_set]
theorem cutE_take (i m : Int) : cutE n (rows.take n) i m = cutE n rows i m := by
 unfold cutE within
 cases hi : isSeg n i
 ·rfl
 ·rw [rowOf_take hD hi]
theorem cutR_take (i m : Int) : cutR n (rows.take n) i m = (cutR n rows i m).take n := by
 unfold cutR within
 cases hi : isSeg n i
 ·rfl
 ·rw [rowOf_take hD hi]
  simp only [Bool.true_and]
  cases decide (0 <= m /\ m <= ((rowOf rows i).size : Int))
  ·rfl
  ·simp only [cond_true,List.take_set]
end
section
variable {p q n : Nat} {rows : List ByteArray} {w : World} (h : RefAt w p q n (rows.take n)) (hD : Dk n rows)
include h hD
theorem ref_tear (i : Int) (s : ByteArray) (keep : Int) (hs : s.size <= 140737488355328) :
  Calls Tryz.prog 36 #[.pointer (some ⟨p, 0,none⟩), .int .i64 i, .string s, .int .i64 keep] w fun e w' => e = .returned (.int .i64 (tearE n rows i s)) /\ Turned p q n ((tearR n rows i s keep).take n) w w' := by
 rw [<- tearE_take hD, <- tearR_take hD]; exact Ref17.tear_any p q n _ i s keep w h hs
theorem ref_cut (i m : Int) :
  Calls Tryz.prog 38 #[.pointer (some ⟨p, 0,none⟩), .int .i64 i, .int .i64 m] w fun e w' => e = .returned (.int .i64 (cutE n rows i m)) /\ Turned p q n ((cutR n rows i m).take n) w w' := by
 rw [<- cutE_take hD, <- cutR_take hD]; exact Ref17.cut_any p q n _ i m w h
end
structure RJ (w : World) (q d g : Nat) (s : Jt) : Prop where
 jb : Blk w q 62 #[.pointer (some ⟨d, 0,none⟩), .int .i64 s.next, .bool s.torn]
 db : RefAt w d g s.n (s.rows.take s.n)
 dk : Dk s.n s.rows
theorem RJ.grown {w w' : World} {q d g : Nat} {s : Jt} {row : Option Nat} (h : RJ w q d g s) (hg : w.grownBy w' row) (h1 : some q ≠ row) (h2 : some d ≠ row) (h3 : some g ≠ row) : RJ w' q d g s := ⟨h.jb.grown hg h1,h.db.grown hg h2 h3,h.dk⟩
theorem RJ.lt {w : World} {q d g : Nat} {s : Jt} (h : RJ w q d g s) : q < w.heap.size /\ d < w.heap.size /\ g < w.heap.size := ⟨h.jb.lt,h.db.top.lt,h.db.row.lt⟩
theorem RJ.below {w w' : World} {q d g : Nat} {s : Jt} (h : RJ w q d g s) (hb : Below w.heap.size w w') : RJ w' q d g s :=
 ⟨h.jb.below hb h.jb.lt,⟨h.db.top.below hb h.db.top.lt,h.db.row.below hb h.db.row.lt,h.db.len,h.db.n1,h.db.n8,h.db.sz⟩,h.dk⟩
theorem RJ.ne {w : World} {q d g : Nat} {s : Jt} (h : RJ w q d g s) : q ≠ d /\ q ≠ g /\ d ≠ g := ⟨h.jb.ne_ h.db.top (by decide),h.jb.ne_ h.db.row (by decide),h.db.ne⟩
theorem RJ.keep {w w' : World} {q d g j' d' : Nat} {s : Jt} (h : RJ w q d g s) (k : Keeps2 w w' j' d') (h1 : q ≠ j' /\ d ≠ j' /\ g ≠ j') (h2 : q ≠ d' /\ d ≠ d' /\ g ≠ d') : RJ w' q d g s :=
 ⟨k.blk h.jb h1.1 h2.1,⟨k.blk h.db.top h1.2.1 h2.2.1,k.blk h.db.row h1.2.2 h2.2.2,h.db.len,h.db.n1,h.db.n8,h.db.sz⟩,h.dk⟩
theorem enc_len {c : Cm} {w : World} {l : List UInt8} (hc : c.In w) (hl : c.enc = some l) : l.length <= 1000000 := by
 have hl' := hl; unfold Cm.enc at hl'
 cases hA : c.ints.all numOk with
 | false => rw [hA] at hl'; cases hl'
 | true =>
  rw [hA] at hl'; simp only [cond_true] at hl'
  cases hk : someB c.key with
  | none => rw [hk] at hl'; cases hl'
  | some a =>
   rw [hk] at hl'; simp only at hl'
   cases hv : someB c.v with
   | none => rw [hv] at hl'; cases hl'
   | some b =>
    rw [hv] at hl'; injection hl' with hl'; have h1 := someB_len hc.2.1 hk; have h2 := someB_len hc.2.2 hv; have h3 := numsB_len c.ints hA; have h4 : c.ints.length = 5 := rfl; rw [<- hl',List.length_append,List.length_append]
    omega
def BytesS (n : Nat) (enc : Option (List UInt8)) : ByteArray := if encE enc = 0 then frameOf (payB n (enc.getD [])) else ByteArray.empty
def RByted (n : Nat) (enc : Option (List UInt8)) (w : World) (e : Ending) (w' : World) : Prop := e = .returned (.tuple #[.string (BytesS n enc), .int .i64 (encE enc)]) /\ Below w.heap.size w w'
theorem rbytes_any (n : Nat) (c : Cm) (w : World) (hn : n < 1000000000) (hc : c.In w) : Calls Tryz.prog 35 #[.int .i64 n, c.agg] w fun e w' => RByted n c.enc w e w' := by
 obtain ⟨p4,q4,e4⟩ := hc.2.1.nslice; obtain ⟨p5,q5,e5⟩ := hc.2.1.xslice; obtain ⟨r4,t4,f4⟩ := hc.2.2.nslice; obtain ⟨r5,t5,f5⟩ := hc.2.2.xslice; obtain ⟨C,hC⟩ := gXe (w.heap.size); obtain ⟨W,hW⟩ := gXe (w.alloc (.cells c.cells.toArray 39)); have hb : Below w.heap.size w W := by rw [hW]; exact (Below.refl _ _).alloc (Nat.le_refl _) _
 have hbc : Blk W C 39 c.cells.toArray := by rw [hW,hC]; exact Blk.new _ _ _
 have hcm := rcmd_any c W (hc.below hb)
 have hag : c.agg = .agg #[.int .i64 c.k, .int .i64 c.nd, .int .i64 c.il, .int .i64 c.inn, .int .i64 c.n, .int .i64 c.key.k, .int .i64 c.key.n, .float .f64 c.key.f, .string c.key.s, .slice p4 c.key.ns.length q4, .slice p5 c.key.xs.length q5, .int .i64 c.v.k, .int .i64 c.v.n, .float .f64 c.v.f, .string c.v.s, .slice r4 c.v.ns.length t4, .slice r5 c.v.xs.length t5] := by
  unfold Cm.agg Cm.cells Val.cells; rw [e4,e5,f4,f5]; rfl
 have hbc' : Blk W C 39 #[.int .i64 c.k, .int .i64 c.nd, .int .i64 c.il, .int .i64 c.inn, .int .i64 c.n, .int .i64 c.key.k, .int .i64 c.key.n, .float .f64 c.key.f, .string c.key.s, .slice p4 c.key.ns.length q4, .slice p5 c.key.xs.length q5, .int .i64 c.v.k, .int .i64 c.v.n, .float .f64 c.v.f, .string c.v.s, .slice r4 c.v.ns.length t4, .slice r5 c.v.xs.length t5] := by
  unfold Cm.cells Val.cells at hbc; rw [e4,e5,f4,f5] at hbc; exact hbc
 unfold Cm.cells Val.cells at hW; rw [e4,e5,f4,f5] at hW; simp only [List.cons_append,List.nil_append] at hW; rw [hag] at hcm ⊢; obtain ⟨EN,hEN⟩ := gXe (c.enc); rw [<- hEN] at hcm ⊢; have hls : ∀ l,EN = some l -> l.length <= 1000000 := fun l hl => enc_len hc (by rw [<- hEN]; exact hl)
 have HC := gh hC; have HW := gh hW; have HB := gh hb; have HBC := gh hbc'; have HCM := gh hcm; have HLS := gh hls; clear hC hW hb hbc hbc' hcm hag hEN e4 e5 f4 f5 hc hls; have c0 := HBC.o.cell 0; have c1 := HBC.o.cell 1; have c2 := HBC.o.cell 2; have c3 := HBC.o.cell 3; have c4 := HBC.o.cell 4; have c5 := HBC.o.cell 5; have c6 := HBC.o.cell 6; have c7 := HBC.o.cell 7; have c8 := HBC.o.cell 8; have c9 := HBC.o.cell 9; have c10 := HBC.o.cell 10; have c11 := HBC.o.cell 11; have c12 := HBC.o.cell 12; have c13 := HBC.o.cell 13; have c14 := HBC.o.cell 14; have c15 := HBC.o.cell 15; have c16 := HBC.o.cell 16; simp only [gX0,gX1,gX2] at c0 c1 c2 c3 c4 c5 c6 c7 c8 c9 c10 c11 c12 c13 c14 c15 c16
 go_enter Tryz.func35,Tryz.ntmps35
 go_upto_region 1 with fail
 rw [<- HW.o, <- HC.o]
 go_wp2_with fail
 refine HCM.o.mono ?_; rintro e w1 ⟨hb1,rfl⟩; have HB1 := gh (HB.o.trans (hb1.mono HB.o.size)); clear hb1 c0 c1 c2 c3 c4 c5 c6 c7 c8 c9 c10 c11 c12 c13 c14 c15 c16 HCM HBC
 cases EN with
 | none =>
  go_wp2
  go_ret2
  exact ⟨rfl,HB1.o⟩
 | some l =>
  have hl := HLS.o l rfl; have hl1 : l ≠ [] \/ True := .inr trivial
  have w0 : IntKind.u8.wrap ((n : Int) / 16777216) = numI n 0 := by
   have e : (n : Int) / 16777216 = ((n / 16777216 : Nat) : Int) := by omega
   rw [e,u8_nat]; rfl
  have w1' : IntKind.u8.wrap ((n : Int) / 65536) = numI n 1 := by
   have e : (n : Int) / 65536 = ((n / 65536 : Nat) : Int) := by omega
   rw [e,u8_nat]; rfl
  have w2 : IntKind.u8.wrap ((n : Int) / 256) = numI n 2 := by
   have e : (n : Int) / 256 = ((n / 256 : Nat) : Int) := by omega
   rw [e,u8_nat]; rfl
  have w3 : IntKind.u8.wrap (n : Int) = numI n 3 := by rw [u8_nat]; unfold numI; simp
  have h4 := conv4; have hz4 : ∀ a b c d : Int, (strOfNums [a,b,c,d]).size = 4 := fun a b c d => strOfNums_size _
  have hcz : (cmdS (some l)).size = l.length := rfl; have hpj : strOfNums [numI n 0,numI n 1,numI n 2,numI n 3] ++ cmdS (some l) = payB n l := by rw [num4_strs]; exact pay_join n l
  have HPJ := gh hpj; clear hpj
  go_upto_region 5 with fail
  rw [HPJ.o]; have hpz := payB_size n l
  by_cases h2 : 2000 < 4 + l.length
  ·have i1 : decide ((2000 : Int) < ((payB n l).size : Int)) = true := by simp; omega
   have HEQ : Hid (encE (some l) = 5) := gh (by simp only [encE]; rw [if_pos h2])
   clear w0 w1' w2 w3 h4 hz4 hcz
   go_wp2
   go_ret2
   unfold RByted BytesS; rw [HEQ.o]; exact ⟨rfl,HB1.o.alloc HB1.o.size _⟩
  ·have i1 : decide ((2000 : Int) < ((payB n l).size : Int)) = false := by simp; omega
   have HEQ : Hid (encE (some l) = 0) := gh (by simp only [encE]; rw [if_neg h2])
   have HMK := gh (fun W => make_any (payB n l) W (by omega))
   clear w0 w1' w2 w3 h4 hz4 hcz
   go_wp2_with fail
   refine (HMK.o _).mono ?_; rintro e w2 ⟨rfl,hb2⟩; have HB2 := gh (HB1.o.alloc HB1.o.size _ |>.trans (hb2.mono (by have := HB1.o.size; simp; omega)))
   clear hb2
   go_wp2
   go_ret2
   unfold RByted BytesS; rw [HEQ.o]; exact ⟨rfl,HB2.o⟩
end Go.Proofs.YtaamihdibpioaaaGreat.Jf
