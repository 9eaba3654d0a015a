/- In every order of calls records stand, and are read again, as the document says. No conditions. -/
import Derived.Test.YtaamihdibpioaaaGreatJpM34
import Derived.Test.YtaamihdibpioaaaGreatJpM37
import Derived.Test.YtaamihdibpioaaaGreatJpM32
import Derived.Test.YtaamihdibpioaaaGreatJpM39
import Derived.Test.YtaamihdibpioaaaGreatJpM25
import Derived.Test.YtaamihdibpioaaaGreatJpM13
import Derived.BigGuardPart
import Derived.Deep.CutBlock
import Derived.Deep.DeepCutAuto
set_option maxRecDepth 100000
set_option maxHeartbeats 40000000
namespace Go.Proofs.YtaamihdibpioaaaGreat.journalPlays
open Go.RowKit Go.ChangeShapes Go.WideShapes Go.Proofs.YtaamihdibpioaaaGreat.Jr Go.Proofs.YtaamihdibpioaaaGreat.Pk Go.Proofs.YtaamihdibpioaaaGreat.Rf Go.Proofs.YtaamihdibpioaaaGreat.Crc Go.Proofs.YtaamihdibpioaaaGreat.Jf
structure PI (N : Nat) (s : Jt) (H : List He) (i : Nat) : Prop where
 n : s.n = N
 good : ∃ r,Jr.Good s H r
 next : s.next <= i + 1
 len : H.length <= i
theorem PI.more {N : Nat} {s : Jt} {H : List He} {i : Nat} (h : PI N s H i) : PI N s H (i + 1) := ⟨h.n,h.good,by have := h.next; omega,by have := h.len; omega⟩
theorem PI.new {N : Nat} (h1 : 1 <= N) (h8 : N <= 8) : PI N (jNew N) [] 0 := ⟨rfl,⟨_,good_new h1 h8⟩,Nat.le_refl _,Nat.le_refl _⟩
theorem PI.seqs {N : Nat} {s : Jt} {H : List He} {i : Nat} (h : PI N s H i) : ∃ r, Hist s.n s.rows H r /\ ∀ x, x ∈ H -> x.seq < i + 1 + 1 := by
 obtain ⟨r,hG⟩ := h.good; refine ⟨r,hG.hist,fun x hx => ?_⟩
 have := hG.below x hx; have := h.next
 split at * <;> omega
theorem PI.write {N : Nat} {s : Jt} {H : List He} {i : Nat} (h : PI N s H i) (label : Int) (enc : Option (List UInt8)) : ∃ H', PI N (jWrite s label enc) H' (i + 1) := by
 obtain ⟨r,hG⟩ := h.good
 by_cases he : jE s label enc = 0
 ·have hg := good_write hG he
  refine ⟨_,?_,⟨r,hg⟩,?_,?_⟩
  ·unfold jWrite; rw [if_pos he]; exact h.n
  ·unfold jWrite; rw [if_pos he]; have := h.next; show s.next + 1 <= _; omega
  ·have := h.len; simp; omega
 ·have hw : jWrite s label enc = s := by unfold jWrite; rw [if_neg he]
  rw [hw]; exact ⟨H,h.more⟩
theorem PI.crash {N : Nat} {s : Jt} {H : List He} {i : Nat} (h : PI N s H i) (label : Int) (enc : Option (List UInt8)) (keep : Int) : ∃ H', PI N (jCrash s label enc keep) H' (i + 1) := by
 obtain ⟨r,hG⟩ := h.good
 by_cases he : jE s label enc = 0
 ·obtain ⟨r', hg⟩ := good_crash (keep := keep) hG he
  refine ⟨_,?_,⟨r',hg⟩,?_,?_⟩
  ·unfold jCrash; rw [if_pos he]; exact h.n
  ·unfold jCrash; rw [if_pos he]; have := h.next; show s.next <= _; omega
  ·have := h.len
   split
   ·simp; omega
   ·omega
 ·have hw : jCrash s label enc keep = s := by unfold jCrash; rw [if_neg he]
  rw [hw]; exact ⟨H,h.more⟩
theorem PI.recov {N : Nat} {s : Jt} {H : List He} {i : Nat} (h : PI N s H i) : PI N (jRecover s H) H (i + 1) := by
 obtain ⟨r,hG⟩ := h.good; refine ⟨h.n,⟨_,good_recover hG⟩,?_,by have := h.len; omega⟩
 obtain ⟨_,_,hs⟩ := h.seqs; exact nextOf_bound hs (by omega)
structure QInv (w : World) (N q dq g i : Nat) (jv : Value) (wr : World) : Prop where
 ex : ∃ (s : Jt) (H : List He) (j d : Nat),jv = .pointer (some ⟨j, 0,none⟩) /\ PI N s H i /\ JAt wr j d s /\ RJ wr q dq g s /\ w.heap.size <= j /\ w.heap.size <= d
 below : Below w.heap.size w wr
theorem apart {W : World} {j d q dq g : Nat} {s s' : Jt} (h : JAt W j d s) (k : RJ W q dq g s') : j ≠ q /\ j ≠ dq /\ j ≠ g /\ d ≠ q /\ d ≠ dq /\ d ≠ g :=
 ⟨h.jb.ne_ k.jb (by decide),h.jb.ne_ k.db.top (by decide),h.jb.ne_ k.db.row (by decide),h.db.ne_ k.jb (by decide),h.db.ne_ k.db.top (by decide),h.db.ne_ k.db.row (by decide)⟩
theorem jat_after {W W' : World} {j d q dq g : Nat} {s s' : Jt} (h : JAt W j d s) (k : RJ W q dq g s') (hk : Keeps2 W W' q g) : JAt W' j d s := by
 have a := apart h k; exact h.keep hk a.1 a.2.2.1 a.2.2.2.1 a.2.2.2.2.2
theorem rj_after {W W' : World} {j d q dq g : Nat} {s s' : Jt} (h : JAt W j d s) (k : RJ W q dq g s') (hk : Keeps2 W W' j d) : RJ W' q dq g s' := by
 have a := apart h k; exact k.keep hk ⟨Ne.symm a.1,Ne.symm a.2.1,Ne.symm a.2.2.1⟩ ⟨Ne.symm a.2.2.2.1,Ne.symm a.2.2.2.2.1,Ne.symm a.2.2.2.2.2⟩
theorem Rowed.rd {S : Nat -> Prop} {B : Nat} {w : World} {v : Value} {us : List Rc} (h : Rowed recE S B 44 w us v) : RdRow w v us := ⟨⟨B,h.items⟩,fun u hu => (h.each u hu).1⟩
theorem RJ.cells {W : World} {q dq g : Nat} {s : Jt} (h : RJ W q dq g s) {k : Nat} (hk : k < s.n) : W.cell? ⟨g, k, none⟩ = some (.string (rowOf s.rows (k : Int))) := by
 have hsg : isSeg s.n (k : Int) = true := by unfold isSeg; simp; omega
 obtain ⟨k',e,_,hc,_⟩ := h.db.at_ hsg; obtain rfl : k = k' := by omega
 rw [rowOf_take h.dk hsg] at hc; exact hc
theorem law_bad (n : Int) (us : List JOp) (vp : Option Addr) (vc : Nat) (w : World) (hn : n < 1 \/ 8 < n) : Calls Tryz.prog 5 #[.int .i64 n, .slice vp us.length vc] w fun e w' => TrueBelow w e w' := by
 have hnp : ∀ (W : World), (binOp .eql 24 (.pointer none) (.pointer none)).run Tryz.prog W = .ok (.bool true) W := fun _ => rfl
 have hc : decide ((1 : Int) <= n) = false \/ (decide ((1 : Int) <= n) = true /\ decide (n <= 8) = false) := by
  rcases hn with h | h
  ·left; simp; omega
  ·by_cases h1 : 1 <= n
   ·right; exact ⟨by simpa using h1,by simp; omega⟩
   ·left; simpa using h1
 have HN := gh hn; clear hn
 rcases hc with h1 | ⟨h1,h2⟩
 all_goals
  go_enter Tryz.func5,Tryz.ntmps5
  try simp only [lapp_cons,lapp_nil]
  go_wp2_with fail
  refine (jnew_bad n _ HN.o).mono ?_; rintro e w1 ⟨rfl,rfl⟩
  go_wp2_with fail
  refine (awake18_any _).mono ?_; rintro e w2 ⟨rfl,hl⟩; have B2 := gh hl; clear hl
  go_wp2
  go_ret
  exact ⟨rfl,B2.o⟩
theorem law_ok (N : Nat) (us : List JOp) (vp : Option Addr) (vc : Nat) (w : World) (hN1 : 1 <= N) (hN8 : N <= 8) (hv : OpsIn w vp vc us) : Calls Tryz.prog 5 #[.int .i64 (N : Int), .slice vp us.length vc] w fun e w' => TrueBelow w e w' := by
 have hsf := run_store_flt; obtain ⟨L,hL⟩ := gXe (us.length); rw [<- hL]; have hLb : L <= 586406201480 := by rw [hL]; exact hv.len
 have hLc : L <= vc := by rw [hL]; exact hv.cap
 have HL := gh hL; have HV := gh hv; clear hL hv; have q1 : decide ((1 : Int) <= (N : Int)) = true := by simp; omega
 have q2 : decide ((N : Int) <= 8) = true := by simp; omega
 go_enter Tryz.func5,Tryz.ntmps5
 try simp only [lapp_cons,lapp_nil]
 go_wp2_with fail
 refine (jnew_ok N _ hN1 hN8).mono ?_; rintro e w1 ⟨j,d,hwj,hwd,rfl,hb1,hJ1⟩; have B1 := gh hb1; have J1 := gh hJ1; clear hb1 hJ1
 go_wp2_with fail
 refine (awake18_any _).mono ?_; rintro e w2 ⟨rfl,hl⟩; have B2 := gh (B1.o.trans (hl.mono B1.o.size)); have J2 := gh (J1.o.below hl); clear hl
 go_wp2_with fail
 rw [HL.o]; have hvl := long_any us vp vc w2 ((HV.o.below B2.o)); refine hvl.mono ?_; rw [<- HL.o]; rintro e w3 ⟨rfl,hl⟩; have B3 := gh (B2.o.trans (hl.mono B2.o.size)); have J3 := gh (J2.o.below hl); clear hl hvl
 cases hlo : longB us with
 | true =>
  go_wp2
  go_ret
  exact ⟨rfl,B3.o⟩
 | false =>
  have hL3 : L <= 300 := by
   rw [HL.o]; unfold longB at hlo
   simp at hlo
   omega
  clear hlo q1 q2
  go_wp2_with fail
  refine (rnew_any N w3 hN1 hN8).mono ?_; rintro e w4 ⟨q,dq,g,hq,hdq,hg,rfl,hl,hR4⟩; have B4 := gh (B3.o.trans (hl.mono B3.o.size)); have J4 := gh (J3.o.below hl); have R4 := gh hR4; have hwq : w.heap.size <= q := Nat.le_trans B3.o.size hq; have hwg : w.heap.size <= g := Nat.le_trans B3.o.size hg; clear hl hR4 hq hdq hg
  go_wp2_with fail
  go_loopw [5, 47] (fun jv iv wr => ∃ i : Nat,iv = .int .i64 (i : Int) /\ i <= L /\ Hid (QInv w N q dq g i jv wr)) (fun _ iv _ => L - (intOf iv).toNat)
  case atStart => exact ⟨0,rfl,by omega,gh ⟨⟨jNew N, [],j,d,rfl,PI.new hN1 hN8,J4.o,R4.o,hwj,hwd⟩,B4.o⟩⟩
  case round =>
   obtain ⟨i,rfl,hi,HK⟩ := hrel; clear hwj hwd J1 J2 J3 J4; obtain ⟨s,H,j,d,rfl,hPI,hJ,hR,hwj,hwd⟩ := HK.o.ex; have hBL := HK.o.below
   by_cases hlt : i < L
   ·have hil : i < us.length := by rw [<- HL.o]; exact hlt
    obtain ⟨b,f,rfl,hpv0,hbl,hin0⟩ := HV.o.at_ i hil; obtain ⟨v,hvd⟩ := gXe (us[i]'hil); rw [<- hvd] at hpv0 hin0; have hcc : ∀ j,j < 20 -> wr.cell? ⟨b,f + i * 20 + j,none⟩ = v.cells[j]? := fun j hj => (hBL.cell (p := ⟨b,f + i * 20 + j,none⟩) hbl).trans (hpv0 j hj)
    obtain ⟨X,hX⟩ := gXe (wr.heap.size); obtain ⟨W,hW⟩ := gXe (wr.alloc (.cells v.cells.toArray 41)); have hbW : Below wr.heap.size wr W := by rw [hW]; exact (Below.refl _ _).alloc (Nat.le_refl _) _
    have hbk : Blk W X 41 v.cells.toArray := by rw [hW,hX]; exact Blk.new _ _ _
    have hk0 : (0 : Int) <= (i : Int) := by omega
    have hk1 : (i : Int) < (L : Int) := by omega
    have hrl := hR.lt; have hXj : X ≠ j := by have := hJ.jb.lt; omega
    have hXd : X ≠ d := by have := hJ.db.lt; omega
    have hXq : X ≠ q := by omega
    have hXg : X ≠ g := by omega
    have x0 := hbk.cell 0; rw [show v.cells.toArray[0]? = some (.int .i64 v.kind) from rfl] at x0
    have hrg : W.rangeAt X 3 v.c.cells := op_cmd hbk; have HLD : Hid (∀ Y,Blk Y X 41 v.cells.toArray -> (Instr.loadAt 39 (.pointer (some ⟨X, 3,none⟩))).run Tryz.prog Y = .ok v.c.agg Y) := gh (fun Y hY => run_loadAt_mid Y X 3 39 _ _ (op_cmd hY) Tryz.underlying39 rfl cmd_info)
    have hnx : s.next < 1000000000 := by have := hPI.next; omega
    have HW := gh hW; have HBW := gh (hBL.trans (hbW.mono hBL.size)); have HBK := gh hbk; have hHX := gh hX; have HRA := gh (op_range hcc); have HJ := gh (hJ.below hbW); have HR := gh (hR.below hbW); have HPI0 := gh hPI; have HCI := gh hin0.2.2.2; have HJD : Hid (JAt W.drew j d s) := gh ⟨(hJ.below hbW).jb.drew, (hJ.below hbW).db.drew,hJ.dk⟩; have HRD : Hid (RJ W.drew q dq g s) := gh ⟨(hR.below hbW).jb.drew,⟨(hR.below hbW).db.top.drew, (hR.below hbW).db.row.drew,hR.db.len,hR.db.n1,hR.db.n8,hR.db.sz⟩,hR.dk⟩; have HBD : Hid (Below w.heap.size w W.drew) := gh (HBW.o.drew); clear hpv0 hcc hin0 hvd hW hbW hbk hX hJ hR hPI hrg hrl
    go_upto_block 2 with (first
     | (refine wpList_load_mid rfl 41 _ rfl b (f + i * 20) rfl v.cells _ HRA.o Tryz.underlying41 rfl op_info ?_)
     | (refine wpList_store_new 41 _ _ v.cells.toArray _ rfl rfl HW.o rfl rfl op_info rfl (op_one v) ?_; rw [<- hHX.o])
     | fail)
    go_cut [5] (fun jv wx => Hid (QInv w N q dq g (i + 1) jv wx))
    case first =>
     by_cases hk1' : v.kind = 1
     ·have t1 : ((v.kind : Int) == 1) = true := by simp [hk1']
      clear hk1'
      --LEAF 1
      obtain ⟨H',hPW⟩ := HPI0.o.write v.label v.c.enc; have HPW := gh hPW; have HWR : Hid (∀ Y,JAt Y j d s -> v.c.In Y -> Calls Tryz.prog 10 #[.pointer (some ⟨j, 0,none⟩), .int .i64 v.label,v.c.agg] Y fun e w' => JDid (jE s v.label v.c.enc) (jWrite s v.label v.c.enc) j d Y e w') := gh (fun Y h1 h2 => jwrite_any j d s v.label v.c Y h1 hnx h2)
      have HCR : Hid (∀ Y,RJ Y q dq g s -> v.c.In Y -> Calls Tryz.prog 17 #[.pointer (some ⟨q, 0,none⟩), .int .i64 v.label,v.c.agg, .int .i64 0, .bool true] Y fun e w' => RDid (jE s v.label v.c.enc) (jWrite s v.label v.c.enc) q dq g Y e w') := gh (fun Y h1 h2 => rcrash_any q dq g s v.label v.c 0 true Y h1 hnx h2)
      obtain ⟨E,hE⟩ := gXe (jE s v.label v.c.enc); rw [<- hE] at HWR HCR; have tE : ((E : Int) != (E : Int)) = false := by simp
      clear hPW hE
      go_upto_region 15 with fail
      clear x0; refine wp_region_held_drew (S := (fun Y => Blk Y X 41 v.cells.toArray)) (by kernel_rfl) (HBK.o.drew) (fun hHeld => ?_)
      refine gT (i := 0) (d := some 61) (v := ?_) rfl rfl (by kernel_rfl) (fun _ _ _ h => h) (by rfl) ?_ hHeld ?_
      rotate_left
      ·(intro w yS; (try dsimp only at yS); go_simp; try with_reducible rfl)
      try simp only [Act.put,gX3,gX4,gX5]
      refine gT (i := 1) (d := some 62) (v := ?_) rfl rfl (by kernel_rfl) (fun _ _ _ h => h) (by rfl) ?_ hHeld ?_
      rotate_left
      ·(intro w yS; (try dsimp only at yS); go_simp; try with_reducible rfl)
      try simp only [Act.put,gX3,gX4,gX5]
      refine gT (i := 2) (d := some 63) (v := ?_) rfl rfl (by kernel_rfl) (fun _ _ _ h => h) (by rfl) ?_ hHeld ?_
      rotate_left
      ·(intro w yS; (try dsimp only at yS); have y0 := yS.cell 0; have y1 := yS.cell 1; have y2 := yS.cell 2; rw [show v.cells.toArray[1]? = some (.int .i64 v.label) from rfl] at y1; rw [show v.cells.toArray[2]? = some (.int .i64 v.keep) from rfl] at y2; clear y0; go_simp; try with_reducible rfl)
      try simp only [Act.put,gX3,gX4,gX5]
      refine gT (i := 3) (d := some 64) (v := ?_) rfl rfl (by kernel_rfl) (fun _ _ _ h => h) (by rfl) ?_ hHeld ?_
      rotate_left
      ·(intro w yS; (try dsimp only at yS); go_simp; try with_reducible rfl)
      try simp only [Act.put,gX3,gX4,gX5]
      refine gT (i := 4) (d := some 65) (v := v.c.agg) rfl rfl (by kernel_rfl) gf (by rfl) (fun w yS => exec_load _ _ rfl (HLD.o w yS)) hHeld ?_
      try simp only [Act.put,gX3,gX4,gX5]
      refine gT (i := 6) (d := some 67) (v := ?_) rfl rfl (by kernel_rfl) (fun _ _ _ h => h) (by rfl) ?_ hHeld ?_
      rotate_left
      ·(intro w yS; (try dsimp only at yS); go_simp; try with_reducible rfl)
      try simp only [Act.put,gX3,gX4,gX5]
      refine gT (i := 7) (d := some 68) (v := ?_) rfl rfl (by kernel_rfl) (fun _ _ _ h => h) (by rfl) ?_ hHeld ?_
      rotate_left
      ·(intro w yS; (try dsimp only at yS); go_simp; try with_reducible rfl)
      try simp only [Act.put,gX3,gX4,gX5]
      refine gT (i := 8) (d := some 69) (v := ?_) rfl rfl (by kernel_rfl) (fun _ _ _ h => h) (by rfl) ?_ hHeld ?_
      rotate_left
      ·(intro w yS; (try dsimp only at yS); have y0 := yS.cell 0; have y1 := yS.cell 1; have y2 := yS.cell 2; rw [show v.cells.toArray[1]? = some (.int .i64 v.label) from rfl] at y1; rw [show v.cells.toArray[2]? = some (.int .i64 v.keep) from rfl] at y2; clear y0; go_simp; try with_reducible rfl)
      try simp only [Act.put,gX3,gX4,gX5]
      refine gT (i := 9) (d := some 70) (v := ?_) rfl rfl (by kernel_rfl) (fun _ _ _ h => h) (by rfl) ?_ hHeld ?_
      rotate_left
      ·(intro w yS; (try dsimp only at yS); go_simp; try with_reducible rfl)
      try simp only [Act.put,gX3,gX4,gX5]
      refine gT (i := 10) (d := some 71) (v := v.c.agg) rfl rfl (by kernel_rfl) gf (by rfl) (fun w yS => exec_load _ _ rfl (HLD.o w yS)) hHeld ?_
      try simp only [Act.put,gX3,gX4,gX5]
      refine held_only (i := 5) (by kernel_rfl) rfl (by rfl) (fun K hK => ?_)
      go_simp
      go_at_call 10
      refine (HWR.o _ HJD.o (HCI.o.below HBD.o)).mono ?_; rintro e w5 ⟨rfl,hJn,hKn⟩; have HJ5 := gh hJn; have HR5 := gh (rj_after HJD.o HRD.o hKn); have HB5 := gh (HBD.o.trans (hKn.below hwj hwd HBD.o.size)); have hX5 := hKn.blk (HBK.o.drew) hXj hXd; clear hJn hKn; refine hK.out _ _ (hX5) (fun hHeld => ?_)
      clear hK K; try simp only [Act.put,gX3,gX4,gX5]
      refine held_only (i := 11) (by kernel_rfl) rfl (by rfl) (fun K hK => ?_)
      go_simp
      go_at_call 17
      refine (HCR.o _ HR5.o (HCI.o.below HB5.o)).mono ?_; rintro e w6 ⟨rfl,hRn,hKn⟩; have HJ6 := gh (jat_after HJ5.o HR5.o hKn); have HR6 := gh hRn; have HB6 := gh (HB5.o.trans (hKn.below hwq hwg HB5.o.size)); have hX6 := hKn.blk hHeld hXq hXg; clear hRn hKn; refine hK.out _ _ (hX6) (fun hHeld => ?_)
      clear hK K; try simp only [Act.put,gX3,gX4,gX5]
      refine gT (i := 12) (d := some 73) (v := ?_) rfl rfl (by kernel_rfl) (fun _ _ _ h => h) (by rfl) ?_ hHeld ?_
      rotate_left
      ·(intro w yS; (try dsimp only at yS); go_simp; try with_reducible rfl)
      try simp only [Act.put,gX3,gX4,gX5]
      refine wpAnyH_done (by kernel_rfl) ?_ _
      clear hHeld hX5 hX6; have HQF : Hid (QInv w N q dq g (i + 1) (.pointer (some ⟨j, 0,none⟩)) w6) := gh ⟨⟨jWrite s v.label v.c.enc,H',_,_,rfl,HPW.o,HJ6.o,HR6.o,hwj,hwd⟩,HB6.o⟩
      go_wp2_with fail
      go_meet
      exact HQF
     ·have t1 : ((v.kind : Int) == 1) = false := by simpa using hk1'
      by_cases hk2 : v.kind = 2
      ·have t2 : ((v.kind : Int) == 2) = true := by simp [hk2]
       clear hk1' hk2
       --LEAF 2
       obtain ⟨H',hPW⟩ := HPI0.o.crash v.label v.c.enc v.keep; have HPW := gh hPW; have HWR : Hid (∀ Y,JAt Y j d s -> v.c.In Y -> Calls Tryz.prog 11 #[.pointer (some ⟨j, 0,none⟩), .int .i64 v.label,v.c.agg, .int .i64 v.keep] Y fun e w' => JDid (jE s v.label v.c.enc) (jCrash s v.label v.c.enc v.keep) j d Y e w') := gh (fun Y h1 h2 => jcrash_any j d s v.label v.c v.keep Y h1 hnx h2)
       have HCR : Hid (∀ Y,RJ Y q dq g s -> v.c.In Y -> Calls Tryz.prog 17 #[.pointer (some ⟨q, 0,none⟩), .int .i64 v.label,v.c.agg, .int .i64 v.keep, .bool false] Y fun e w' => RDid (jE s v.label v.c.enc) (jCrash s v.label v.c.enc v.keep) q dq g Y e w') := gh (fun Y h1 h2 => rcrash_any q dq g s v.label v.c v.keep false Y h1 hnx h2)
       obtain ⟨E,hE⟩ := gXe (jE s v.label v.c.enc); rw [<- hE] at HWR HCR; have tE : ((E : Int) != (E : Int)) = false := by simp
       clear hPW hE
       go_upto_region 18 with fail
       clear x0; refine wp_region_held_drew (S := (fun Y => Blk Y X 41 v.cells.toArray)) (by kernel_rfl) (HBK.o.drew) (fun hHeld => ?_)
       refine gT (i := 0) (d := some 76) (v := ?_) rfl rfl (by kernel_rfl) (fun _ _ _ h => h) (by rfl) ?_ hHeld ?_
       rotate_left
       ·(intro w yS; (try dsimp only at yS); go_simp; try with_reducible rfl)
       try simp only [Act.put,gX3,gX4,gX5]
       refine gT (i := 1) (d := some 77) (v := ?_) rfl rfl (by kernel_rfl) (fun _ _ _ h => h) (by rfl) ?_ hHeld ?_
       rotate_left
       ·(intro w yS; (try dsimp only at yS); go_simp; try with_reducible rfl)
       try simp only [Act.put,gX3,gX4,gX5]
       refine gT (i := 2) (d := some 78) (v := ?_) rfl rfl (by kernel_rfl) (fun _ _ _ h => h) (by rfl) ?_ hHeld ?_
       rotate_left
       ·(intro w yS; (try dsimp only at yS); have y0 := yS.cell 0; have y1 := yS.cell 1; have y2 := yS.cell 2; rw [show v.cells.toArray[1]? = some (.int .i64 v.label) from rfl] at y1; rw [show v.cells.toArray[2]? = some (.int .i64 v.keep) from rfl] at y2; clear y0; go_simp; try with_reducible rfl)
       try simp only [Act.put,gX3,gX4,gX5]
       refine gT (i := 3) (d := some 79) (v := ?_) rfl rfl (by kernel_rfl) (fun _ _ _ h => h) (by rfl) ?_ hHeld ?_
       rotate_left
       ·(intro w yS; (try dsimp only at yS); go_simp; try with_reducible rfl)
       try simp only [Act.put,gX3,gX4,gX5]
       refine gT (i := 4) (d := some 80) (v := v.c.agg) rfl rfl (by kernel_rfl) gf (by rfl) (fun w yS => exec_load _ _ rfl (HLD.o w yS)) hHeld ?_
       try simp only [Act.put,gX3,gX4,gX5]
       refine gT (i := 5) (d := some 81) (v := ?_) rfl rfl (by kernel_rfl) (fun _ _ _ h => h) (by rfl) ?_ hHeld ?_
       rotate_left
       ·(intro w yS; (try dsimp only at yS); go_simp; try with_reducible rfl)
       try simp only [Act.put,gX3,gX4,gX5]
       refine gT (i := 6) (d := some 82) (v := ?_) rfl rfl (by kernel_rfl) (fun _ _ _ h => h) (by rfl) ?_ hHeld ?_
       rotate_left
       ·(intro w yS; (try dsimp only at yS); have y0 := yS.cell 0; have y1 := yS.cell 1; have y2 := yS.cell 2; rw [show v.cells.toArray[1]? = some (.int .i64 v.label) from rfl] at y1; rw [show v.cells.toArray[2]? = some (.int .i64 v.keep) from rfl] at y2; clear y0; go_simp; try with_reducible rfl)
       try simp only [Act.put,gX3,gX4,gX5]
       refine gT (i := 8) (d := some 84) (v := ?_) rfl rfl (by kernel_rfl) (fun _ _ _ h => h) (by rfl) ?_ hHeld ?_
       rotate_left
       ·(intro w yS; (try dsimp only at yS); go_simp; try with_reducible rfl)
       try simp only [Act.put,gX3,gX4,gX5]
       refine gT (i := 9) (d := some 85) (v := ?_) rfl rfl (by kernel_rfl) (fun _ _ _ h => h) (by rfl) ?_ hHeld ?_
       rotate_left
       ·(intro w yS; (try dsimp only at yS); go_simp; try with_reducible rfl)
       try simp only [Act.put,gX3,gX4,gX5]
       refine gT (i := 10) (d := some 86) (v := ?_) rfl rfl (by kernel_rfl) (fun _ _ _ h => h) (by rfl) ?_ hHeld ?_
       rotate_left
       ·(intro w yS; (try dsimp only at yS); have y0 := yS.cell 0; have y1 := yS.cell 1; have y2 := yS.cell 2; rw [show v.cells.toArray[1]? = some (.int .i64 v.label) from rfl] at y1; rw [show v.cells.toArray[2]? = some (.int .i64 v.keep) from rfl] at y2; clear y0; go_simp; try with_reducible rfl)
       try simp only [Act.put,gX3,gX4,gX5]
       refine gT (i := 11) (d := some 87) (v := ?_) rfl rfl (by kernel_rfl) (fun _ _ _ h => h) (by rfl) ?_ hHeld ?_
       rotate_left
       ·(intro w yS; (try dsimp only at yS); go_simp; try with_reducible rfl)
       try simp only [Act.put,gX3,gX4,gX5]
       refine gT (i := 12) (d := some 88) (v := v.c.agg) rfl rfl (by kernel_rfl) gf (by rfl) (fun w yS => exec_load _ _ rfl (HLD.o w yS)) hHeld ?_
       try simp only [Act.put,gX3,gX4,gX5]
       refine gT (i := 13) (d := some 89) (v := ?_) rfl rfl (by kernel_rfl) (fun _ _ _ h => h) (by rfl) ?_ hHeld ?_
       rotate_left
       ·(intro w yS; (try dsimp only at yS); go_simp; try with_reducible rfl)
       try simp only [Act.put,gX3,gX4,gX5]
       refine gT (i := 14) (d := some 90) (v := ?_) rfl rfl (by kernel_rfl) (fun _ _ _ h => h) (by rfl) ?_ hHeld ?_
       rotate_left
       ·(intro w yS; (try dsimp only at yS); have y0 := yS.cell 0; have y1 := yS.cell 1; have y2 := yS.cell 2; rw [show v.cells.toArray[1]? = some (.int .i64 v.label) from rfl] at y1; rw [show v.cells.toArray[2]? = some (.int .i64 v.keep) from rfl] at y2; clear y0; go_simp; try with_reducible rfl)
       try simp only [Act.put,gX3,gX4,gX5]
       refine held_only (i := 7) (by kernel_rfl) rfl (by rfl) (fun K hK => ?_)
       go_simp
       go_at_call 11
       refine (HWR.o _ HJD.o (HCI.o.below HBD.o)).mono ?_; rintro e w5 ⟨rfl,hJn,hKn⟩; have HJ5 := gh hJn; have HR5 := gh (rj_after HJD.o HRD.o hKn); have HB5 := gh (HBD.o.trans (hKn.below hwj hwd HBD.o.size)); have hX5 := hKn.blk (HBK.o.drew) hXj hXd; clear hJn hKn; refine hK.out _ _ (hX5) (fun hHeld => ?_)
       clear hK K; try simp only [Act.put,gX3,gX4,gX5]
       refine held_only (i := 15) (by kernel_rfl) rfl (by rfl) (fun K hK => ?_)
       go_simp
       go_at_call 17
       refine (HCR.o _ HR5.o (HCI.o.below HB5.o)).mono ?_; rintro e w6 ⟨rfl,hRn,hKn⟩; have HJ6 := gh (jat_after HJ5.o HR5.o hKn); have HR6 := gh hRn; have HB6 := gh (HB5.o.trans (hKn.below hwq hwg HB5.o.size)); have hX6 := hKn.blk hHeld hXq hXg; clear hRn hKn; refine hK.out _ _ (hX6) (fun hHeld => ?_)
       clear hK K; try simp only [Act.put,gX3,gX4,gX5]
       refine gT (i := 16) (d := some 92) (v := ?_) rfl rfl (by kernel_rfl) (fun _ _ _ h => h) (by rfl) ?_ hHeld ?_
       rotate_left
       ·(intro w yS; (try dsimp only at yS); go_simp; try with_reducible rfl)
       try simp only [Act.put,gX3,gX4,gX5]
       refine wpAnyH_done (by kernel_rfl) ?_ _
       clear hHeld hX5 hX6; have HQF : Hid (QInv w N q dq g (i + 1) (.pointer (some ⟨j, 0,none⟩)) w6) := gh ⟨⟨jCrash s v.label v.c.enc v.keep,H',_,_,rfl,HPW.o,HJ6.o,HR6.o,hwj,hwd⟩,HB6.o⟩
       go_wp2_with fail
       go_meet
       exact HQF
      ·have t2 : ((v.kind : Int) == 2) = false := by simpa using hk2
       by_cases hk3 : v.kind = 3
       ·have t3 : ((v.kind : Int) == 3) = true := by simp [hk3]
        clear hk1' hk2 hk3
        --LEAF 3
        have HPW := gh HPI0.o.recov; obtain ⟨r,hr,hsq⟩ := HPI0.o.seqs; have HRV : Hid (∀ Y,JAt Y j d s -> Calls Tryz.prog 12 #[.pointer (some ⟨j, 0,none⟩)] Y fun e w' => RecovOut s H j d Y e w') := gh (fun Y h1 => recover_any sort_recs j d s H r Y h1 hr (fun h hh => by have := hsq h hh; omega) (by have := HPI0.o.len; omega))
        have HRR : Hid (∀ Y,RJ Y q dq g s -> Calls Tryz.prog 19 #[.pointer (some ⟨q, 0,none⟩)] Y fun e w' => RRecov s H q dq g Y e w') := gh (fun Y h1 => rrecover_any q dq g s H r Y h1 hr (fun h hh => by have := hsq h hh; omega) (by have := HPI0.o.len; omega))
        clear hr hsq
        go_wp2_with fail
        refine (HRV.o _ HJ.o).mono ?_; rintro e w5 ⟨B2,lv,us5,hB2,hB3',rfl,hK5,hJ5,hr5,hm5⟩; obtain ⟨la5,lc5,rfl⟩ := hr5.form; have HJ5 := gh hJ5; have HR5 := gh (rj_after HJ.o HR.o hK5); have HB5 := gh (HBW.o.trans (hK5.below hwj hwd HBW.o.size)); have HRW5 := gh hr5; have HM5 := gh hm5; have hqB : q < B2 /\ g < B2 := by have := HR.o.lt; omega
        clear hK5 hJ5 hr5 hm5 hB2 hB3' HRV
        go_wp2_with fail
        refine (HRR.o _ HR5.o).mono ?_; rintro e w6 ⟨Z6,B6,lv6,us6,rfl,hK6,hR6,hr6,hm6⟩; obtain ⟨la6,lc6,rfl⟩ := hr6.form; have hul : us5.length <= 10000 := by have := congrArg List.length HM5.o; rw [List.length_map,List.length_map] at this; have := HPI0.o.len; omega
        have HJ6 := gh (jat_after HJ5.o HR5.o hK6); have HR6 := gh hR6; have HB6 := gh (HB5.o.trans (hK6.below hwq hwg HB5.o.size)); have hrd5 : RdRow w6 (.slice la5 us5.length lc5) us5 := Rowed.rd (HRW5.o.keep (fun b hb hlt => hK6.block b hlt (by rcases hb with hb | hb; exact hb.elim; omega) (by rcases hb with hb | hb; exact hb.elim; omega)) hK6.size)
        have HSM := gh (Jf.rsame_any _ _ us5 us6 w6 hrd5 hr6.rd (HM5.o.trans hm6.symm) (by omega))
        clear hK6 hR6 hr6 hm6 hrd5 HRR
        go_wp2_with fail
        refine HSM.o.mono ?_; rintro e w7 ⟨rfl,hb7⟩; have HJ7 := gh (HJ6.o.below hb7); have HR7 := gh (HR6.o.below hb7); have HB7 := gh (HB6.o.trans (hb7.mono HB6.o.size)); clear hb7 HSM; have HQF : Hid (QInv w N q dq g (i + 1) (.pointer (some ⟨j, 0,none⟩)) w7) := gh ⟨⟨jRecover s H,H,_,_,rfl,HPW.o,HJ7.o,HR7.o,hwj,hwd⟩,HB7.o⟩
        go_wp2_with fail
        go_meet
        exact HQF
       ·have t3 : ((v.kind : Int) == 3) = false := by simpa using hk3
        clear hk1' hk2 hk3
        --LEAF 4
        have HPW := gh HPI0.o.more; have HCP := gh (copyj_any j d s W HJ.o)
        go_wp2_with fail
        refine (HCP.o).mono ?_; rintro e w5 ⟨j2,d2,hj2,hd2,rfl,hb5,hJ5⟩; have HJ5 := gh hJ5; have HJO5 := gh (HJ.o.below hb5); have HR5 := gh (HR.o.below hb5); have HB5 := gh (HBW.o.trans (hb5.mono HBW.o.size)); have hj2j : j2 ≠ j /\ j2 ≠ d /\ d2 ≠ j /\ d2 ≠ d := by have := HJ.o.jb.lt; have := HJ.o.db.lt; omega
        have hwj2 : w.heap.size <= j2 := by have := HBW.o.size; omega
        have hwd2 : w.heap.size <= d2 := by have := HBW.o.size; omega
        clear hb5 hJ5 HCP hj2 hd2
        go_wp2_with fail
        refine (tick_any _).mono ?_; rintro e w6 ⟨rfl,hb6⟩; have HJ6 := gh (HJ5.o.below hb6); have HJO6 := gh (HJO5.o.below hb6); have HR6 := gh (HR5.o.below hb6); have HB6 := gh (HB5.o.trans (hb6.mono HB5.o.size)); clear hb6; have HWT := gh (jwrite_any j d s 0 tickC w6 HJO6.o (by have := HPI0.o.next; omega) (tick_in w6))
        go_wp2_with fail
        refine HWT.o.mono ?_; rintro e w7 ⟨rfl,hJ7,hK7⟩; have HJ7 := gh (HJ6.o.keep hK7 hj2j.1 hj2j.2.1 hj2j.2.2.1 hj2j.2.2.2); have HR7 := gh (rj_after HJO6.o HR6.o hK7); have HB7 := gh (HB6.o.trans (hK7.below hwj hwd HB6.o.size)); clear hJ7 hK7 HWT; have HQF : Hid (QInv w N q dq g (i + 1) (.pointer (some ⟨j2, 0,none⟩)) w7) := gh ⟨⟨s,H,_,_,rfl,HPW.o,HJ7.o,HR7.o,hwj2,hwd2⟩,HB7.o⟩
        go_wp2_with fail
        go_meet
        exact HQF
    case rest =>
     obtain ⟨V,hV⟩ : ∃ V : World,V = wc := ⟨_,rfl⟩; rw [<- hV] at hcut ⊢; clear hV; obtain ⟨s2,H2,j2,d2,rfl,hP2,hJ2,hR2,hwj2,hwd2⟩ := hcut.out.ex; have HB := gh hcut.out.below; have HPI := gh hP2; have HJ2 := gh hJ2; have HR2 := gh hR2; clear hcut hP2 hJ2 hR2
     go_wp2_with fail
     go_loopw [102] (fun kv wr => ∃ k : Nat,kv = .int .i64 (k : Int) /\ k <= N /\ Hid (Below V.heap.size V wr)) (fun kv _ => N - (intOf kv).toNat)
     case atStart => exact ⟨0,rfl,by omega,gh (Below.refl _ _)⟩
     case round =>
      obtain ⟨k,rfl,hkN,HBR⟩ := hrel
      by_cases hkl : k < N
      ·have hks : k < s2.n := by rw [HPI.o.n]; exact hkl
       have hk0 : (0 : Int) <= (k : Int) := by omega
       have hk1 : (k : Int) < (N : Int) := by omega
       have hsg : isSeg s2.n (k : Int) = true := by unfold isSeg; simp; omega
       obtain ⟨RZ,hRZ⟩ := gXe (rowOf s2.rows (k : Int))
       have HSZ : Hid (∀ Y, Below V.heap.size V Y -> Calls Tryz.prog 15 #[.pointer (some ⟨j2, 0, none⟩), .int .i64 (k : Int)] Y fun e w' => e = .returned (.int .i64 RZ.size) /\ Y = w') := gh (fun Y hY => by
        have := size_any _ _ s2 (k : Int) Y (HJ2.o.below hY); rw [show readR s2.n s2.rows (k : Int) = RZ from by unfold readR; rw [hsg,hRZ]; rfl] at this
        exact this)
       have HF1 : Hid (∀ Y,Below V.heap.size V Y -> Y.cell? ⟨q, 0,none⟩ = some (.pointer (some ⟨dq, 0,none⟩))) := gh (fun Y hY => by have := (HR2.o.below hY).jb.cell 0; simpa using this)
       have HF2 : Hid (∀ Y,Below V.heap.size V Y -> Y.cell? ⟨dq, 0,none⟩ = some (.slice (some ⟨g, 0,none⟩) N N)) := gh (fun Y hY => by have := (HR2.o.below hY).db.c0; rw [HPI.o.n] at this; exact this)
       have HF3 : Hid (∀ Y,Below V.heap.size V Y -> Y.cell? ⟨g,k,none⟩ = some (.string RZ)) := gh (fun Y hY => by rw [hRZ]; exact RJ.cells (HR2.o.below hY) hks)
       have t9 : ((RZ.size : Int) != (RZ.size : Int)) = false := by simp
       clear hRZ hsg hks
       go_wp2_with fail
       refine wp_region_held_drew (S := (fun Y => Below V.heap.size V Y)) (by kernel_rfl) (HBR.o.drew) (fun hHeld => ?_)
       refine gT (i := 0) (d := some 105) (v := ?_) rfl rfl (by kernel_rfl) (fun _ _ _ h => h) (by rfl) ?_ hHeld ?_
       rotate_left
       ·(intro w yS; (try dsimp only at yS); go_simp; try with_reducible rfl)
       try simp only [Act.put,gX3,gX4,gX5]
       refine gT (i := 1) (d := some 106) (v := ?_) rfl rfl (by kernel_rfl) (fun _ _ _ h => h) (by rfl) ?_ hHeld ?_
       rotate_left
       ·(intro w yS; (try dsimp only at yS); go_simp; try with_reducible rfl)
       try simp only [Act.put,gX3,gX4,gX5]
       refine gT (i := 3) (d := some 108) (v := ?_) rfl rfl (by kernel_rfl) (fun _ _ _ h => h) (by rfl) ?_ hHeld ?_
       rotate_left
       ·(intro w yS; (try dsimp only at yS); go_simp; try with_reducible rfl)
       try simp only [Act.put,gX3,gX4,gX5]
       refine gT (i := 4) (d := some 109) (v := ?_) rfl rfl (by kernel_rfl) (fun _ _ _ h => h) (by rfl) ?_ hHeld ?_
       rotate_left
       ·(intro w yS; (try dsimp only at yS); go_simp; try with_reducible rfl)
       try simp only [Act.put,gX3,gX4,gX5]
       refine gT (i := 5) (d := some 110) (v := ?_) rfl rfl (by kernel_rfl) (fun _ _ _ h => h) (by rfl) ?_ hHeld ?_
       rotate_left
       ·(intro w yS; (try dsimp only at yS); go_simp; try with_reducible rfl)
       try simp only [Act.put,gX3,gX4,gX5]
       refine gT (i := 6) (d := some 111) (v := ?_) rfl rfl (by kernel_rfl) (fun _ _ _ h => h) (by rfl) ?_ hHeld ?_
       rotate_left
       ·(intro w yS; (try dsimp only at yS); have y1 := HF1.o w yS; have y2 := HF2.o w yS; have y3 := HF3.o w yS; go_simp; try with_reducible rfl)
       try simp only [Act.put,gX3,gX4,gX5]
       refine gT (i := 7) (d := some 112) (v := ?_) rfl rfl (by kernel_rfl) (fun _ _ _ h => h) (by rfl) ?_ hHeld ?_
       rotate_left
       ·(intro w yS; (try dsimp only at yS); go_simp; try with_reducible rfl)
       try simp only [Act.put,gX3,gX4,gX5]
       refine gT (i := 8) (d := some 113) (v := ?_) rfl rfl (by kernel_rfl) (fun _ _ _ h => h) (by rfl) ?_ hHeld ?_
       rotate_left
       ·(intro w yS; (try dsimp only at yS); go_simp; try with_reducible rfl)
       try simp only [Act.put,gX3,gX4,gX5]
       refine gT (i := 9) (d := some 114) (v := ?_) rfl rfl (by kernel_rfl) (fun _ _ _ h => h) (by rfl) ?_ hHeld ?_
       rotate_left
       ·(intro w yS; (try dsimp only at yS); have y1 := HF1.o w yS; have y2 := HF2.o w yS; have y3 := HF3.o w yS; go_simp; try with_reducible rfl)
       try simp only [Act.put,gX3,gX4,gX5]
       refine gT (i := 10) (d := some 115) (v := ?_) rfl rfl (by kernel_rfl) (fun _ _ _ h => h) (by rfl) ?_ hHeld ?_
       rotate_left
       ·(intro w yS; (try dsimp only at yS); go_simp; try with_reducible rfl)
       try simp only [Act.put,gX3,gX4,gX5]
       refine gT (i := 11) (d := some 116) (v := ?_) rfl rfl (by kernel_rfl) (fun _ _ _ h => h) (by rfl) ?_ hHeld ?_
       rotate_left
       ·(intro w yS; (try dsimp only at yS); go_simp; try with_reducible rfl)
       try simp only [Act.put,gX3,gX4,gX5]
       refine gT (i := 12) (d := some 117) (v := ?_) rfl rfl (by kernel_rfl) (fun _ _ _ h => h) (by rfl) ?_ hHeld ?_
       rotate_left
       ·(intro w yS; (try dsimp only at yS); have y1 := HF1.o w yS; have y2 := HF2.o w yS; have y3 := HF3.o w yS; go_simp; try with_reducible rfl)
       try simp only [Act.put,gX3,gX4,gX5]
       refine gT (i := 13) (d := some 118) (v := ?_) rfl rfl (by kernel_rfl) (fun _ _ _ h => h) (by rfl) ?_ hHeld ?_
       rotate_left
       ·(intro w yS; (try dsimp only at yS); go_simp; try with_reducible rfl)
       try simp only [Act.put,gX3,gX4,gX5]
       refine held_only (i := 2) (by kernel_rfl) rfl (by rfl) (fun K hK => ?_)
       go_simp
       go_at_call 15
       refine (HSZ.o _ hHeld).mono ?_; rintro e9 w9 ⟨rfl,rfl⟩; refine hK.out _ _ (hHeld) (fun hHeld => ?_)
       clear hK K; try simp only [Act.put,gX3,gX4,gX5]
       refine gT (i := 14) (d := some 119) (v := ?_) rfl rfl (by kernel_rfl) (fun _ _ _ h => h) (by rfl) ?_ hHeld ?_
       rotate_left
       ·(intro w yS; (try dsimp only at yS); go_simp; try with_reducible rfl)
       try simp only [Act.put,gX3,gX4,gX5]
       refine wpAnyH_done (by kernel_rfl) ?_ _
       have HBF := gh hHeld; clear hHeld
       go_wp2
       go_roundw
       case rel => exact ⟨k + 1,by go_num,by omega,HBF⟩
       case measure => simp [intOf]; omega
      ·obtain rfl : k = N := by omega
       have t9 : decide ((k : Int) < (k : Int)) = false := by simp
       clear hkl; have HQF : Hid (QInv w k q dq g (i + 1) (.pointer (some ⟨j2, 0,none⟩)) wr) := gh ⟨⟨s2,H2,_,_,rfl,HPI.o,HJ2.o.below HBR.o,HR2.o.below HBR.o,hwj2,hwd2⟩,HB.o.trans (HBR.o.mono HB.o.size)⟩
       go_wp2_with fail
       go_roundw
       case rel => exact ⟨i + 1,by go_num,by omega,HQF⟩
       case measure => simp [intOf]; omega
   ·obtain rfl : i = L := by omega
    --LEAF 5
    have t1 : decide ((i : Int) < (i : Int)) = false := by simp
    obtain ⟨r,hr,hsq⟩ := hPI.seqs; have hl := hPI.len; have HRV := gh (records_any sort_recs j d s H r wr hJ hr (fun h hh => by have := hsq h hh; omega) (by omega))
    have HRR : Hid (∀ Y,RJ Y q dq g s -> Calls Tryz.prog 22 #[.pointer (some ⟨q, 0,none⟩)] Y fun e w' => RRecs H Y e w') := gh (fun Y h1 => rrecs_any q dq g s H r Y h1 hr (fun h hh => by have := hsq h hh; omega) (by omega))
    have HR := gh hR; have HBL := gh hBL; clear hr hsq hPI hJ hR hBL hlt
    go_wp2_with fail
    refine HRV.o.mono ?_; rintro e w5 ⟨B2,lv,us5,hB2,hB3',rfl,hb5,hr5,hm5⟩; obtain ⟨la5,lc5,rfl⟩ := hr5.form; have hul : us5.length <= 10000 := by have := congrArg List.length hm5; rw [List.length_map,List.length_map] at this; omega
    have HR5 := gh (HR.o.below hb5); have HB5 := gh (HBL.o.trans (hb5.mono HBL.o.size)); have HRW5 := gh (Rowed.rd hr5); have HM5 := gh hm5; clear hb5 hr5 hm5 hB2 hB3' HRV
    go_wp2_with fail
    refine (HRR.o _ HR5.o).mono ?_; rintro e w6 ⟨B6,lv6,us6,rfl,hb6,hr6,hm6⟩; obtain ⟨la6,lc6,rfl⟩ := hr6.form; have HB6 := gh (HB5.o.trans (hb6.mono HB5.o.size)); have HSM := gh (Jf.rsame_any _ _ us5 us6 w6 (HRW5.o.below hb6) hr6.rd (HM5.o.trans hm6.symm) (by omega))
    clear hb6 hr6 hm6 HRR
    go_wp2_with fail
    refine HSM.o.mono ?_; rintro e w7 ⟨rfl,hb7⟩; have HB7 := gh (HB6.o.trans (hb7.mono HB6.o.size)); clear hb7 HSM
    go_wp2
    go_ret
    exact ⟨rfl,HB7.o⟩
theorem law_any (n : Int) (us : List JOp) (vp : Option Addr) (vc : Nat) (w : World) (hv : OpsIn w vp vc us) : Calls Tryz.prog 5 #[.int .i64 n, .slice vp us.length vc] w fun e w' => TrueBelow w e w' := by
 by_cases h : 1 <= n /\ n <= 8
 ·obtain ⟨N, rfl⟩ : ∃ N : Nat, n = (N : Int) := ⟨n.toNat, by omega⟩
  exact law_ok N us vp vc w (by omega) (by omega) hv
 ·exact law_bad n us vp vc w (by omega)
theorem walk {H : Type} {enc : TypeId × Value -> H} {W : World} {base : Nat} {args : Array Value} {ds : List (DataW H)} {ps : List MemPlace}
  (h : Handed enc Tryz.prog W base Tryz.f5.params.toList args ds ps) : Calls Tryz.prog 5 args W fun e w' => TrueBelow W e w' := by
 rw [Tryz.params5] at h; have hval := h.val; obtain ⟨v0,vs0,d0,ds0,p0,q0,hargs,rfl,rfl,h0,r0⟩ := trodAll_cons h.trod; obtain ⟨v1,vs1,d1,ds1,p1,q1,rfl,rfl,rfl,h1,r1⟩ := trodAll_cons r0; obtain ⟨rfl,rfl,rfl⟩ := trodAll_nil r1; obtain rfl : args = #[v0,v1] := by cases args; simp_all
 obtain ⟨a0,rfl,rfl,rfl,w0⟩ := open_int Tryz.underlying3 (hval 0 3 v0 rfl rfl) h0; obtain ⟨us,vp,c,rfl,hv⟩ := arg_jops (hval 1 22 v1 rfl rfl) h1 1 h.fits rfl rfl; exact law_any a0 us vp c W hv
theorem lifted (os : Os) (started : os.Started) (H : Type) (enc : TypeId × Value -> H) :
  ReturnsInHanded {} Tryz.checked os 5 .any (Rows.journalPlaysSpec.pre6 enc Tryz.prog Tryz.f5 Rows.journalPlaysRow.domain false) (Rows.journalPlaysSpec.post enc Tryz.prog Tryz.f5 false true false false) := by
 refine returnsInHanded_of_change_sized (C := Tryz.checked) own started (by kernel_rfl) Tryz.func5
  (ChangeSpec.witness6 (enc := enc) (C := Tryz.checked) false ⟨#[], #[.int .i64 0, .slice none 0 0], []⟩ 8 (by kernel_rfl) (by kernel_rfl) (by kernel_rfl) (by kernel_rfl)) ?_
 intro W base args ds gs before hval hW _ hsz _; refine (walk (handed_of hval hW rfl rfl hsz)).mono fun e W' ⟨he,hb⟩ => ?_
 subst he; exact ⟨_,rfl,law_post hW rfl laidOut (by kernel_rfl) rfl Tryz.underlying4 (fun ds' h => by match ds',h with | [_,_],_ => rfl) hb⟩
theorem over : Rows.journalPlaysRow.holds Tryz.pinned (OpenSpec.ofChange Rows.journalPlaysSpec) :=
 OpenClaim.holds_of_wide 5 Tryz.f5 rfl rfl rfl rfl rfl rfl rfl ⟨rfl, rfl, rfl, rfl, rfl⟩ rfl rfl rfl rfl rfl (by kernel_rfl) Tryz.func5 (by kernel_rfl)
  (of_decide_eq_true (by kernel_rfl)) (by unfold Func.isWrapper; first | (rw [if_pos (by decide +kernel)]; kernel_rfl) | (rw [if_neg (by decide +kernel)]; exact ⟨rfl,rfl⟩))
  (fun os started H enc _ => lifted os started H enc)
theorem proved : Rows.JournalPlaysSaid :=
 over
#print axioms proved
end Go.Proofs.YtaamihdibpioaaaGreat.journalPlays
