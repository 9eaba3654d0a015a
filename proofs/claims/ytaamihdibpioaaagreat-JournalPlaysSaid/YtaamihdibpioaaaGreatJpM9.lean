/- Whether a value may be one: the whole tree. -/
import Derived.Test.YtaamihdibpioaaaGreatJpM8
import Derived.Deep.RegionHeld3
set_option maxRecDepth 100000
set_option maxHeartbeats 40000000
namespace Go.Proofs.YtaamihdibpioaaaGreat
open Go.RowKit
mutual
def Val.rightB : Val -> Nat -> Bool
 | .mk k n f s na ns xa xs, deep =>
  if 12 < deep then false
  else if k = 1 then bareB (.mk k n f s na ns xa xs) true false false false && (n / 2 == 0)
  else if k = 2 then bareB (.mk k n f s na ns xa xs) true false false false
  else if k = 3 then bareB (.mk k n f s na ns xa xs) false true false false
  else if k = 4 then bareB (.mk k n f s na ns xa xs) false false true false && decide (s.size <= 200)
  else if k = 5 then bareB (.mk k n f s na ns xa xs) false false false true && decide (ns.length = 0) && Val.rightAll xs (deep + 1)
  else if k = 6 then decide (ns.length = xs.length) && risingB ns && bareB (.mk k n f s na ns xa xs) false false false true && Val.rightAll xs (deep + 1)
  else false
def Val.rightAll : List Val -> Nat -> Bool
 | [],_ => true
 | x :: xs,deep => x.rightB deep && Val.rightAll xs deep
end
theorem Val.rightB_eq (v : Val) (deep : Nat) : v.rightB deep =
  if 12 < deep then false
  else if v.k = 1 then bareB v true false false false && (v.n / 2 == 0)
  else if v.k = 2 then bareB v true false false false
  else if v.k = 3 then bareB v false true false false
  else if v.k = 4 then bareB v false false true false && decide (v.s.size <= 200)
  else if v.k = 5 then bareB v false false false true && decide (v.ns.length = 0) && Val.rightAll v.xs (deep + 1)
  else if v.k = 6 then decide (v.ns.length = v.xs.length) && risingB v.ns && bareB v false false false true && Val.rightAll v.xs (deep + 1)
  else false := by
 cases v
 simp only [Val.rightB,Val.k,Val.n,Val.s,Val.ns,Val.xs]
 rfl
theorem NamesAt.of {w : World} {v : Val} (h : v.In w) : NamesAt w (v.na.val v.ns.length) v.ns := by
 have hx := ((Val.in_iff w v).1 h).2.1
 cases ha : v.na with
 | no =>
  rw [ha] at hx; have : v.ns.length = 0 := by simpa [Sl.lies] using hx
  exact .none Option.none (by simp [Sl.val]) (by simpa using this)
 | odd a =>
  rw [ha] at hx; have : v.ns.length = 0 := by simpa [Sl.lies] using hx
  exact .none (Option.some a) (by simp [Sl.val]) (by simpa using this)
 | at_ b o cap =>
  rw [ha] at hx; refine .some b o cap rfl hx.1 hx.2.1 ?_ (fun i hl => ?_)
  ·rcases Nat.eq_zero_or_pos v.ns.length with h0 | h0
   ·exact .inl h0
   ·exact .inr (hx.2.2 0 h0 0 (by omega)).2
  ·have := (hx.2.2 i hl 0 (by omega)).1
   simp at this
   rw [this]
   simp [hl]
theorem NamesAt.drewN {w : World} {a : Value} {ns : List ByteArray} (h : NamesAt w a ns) (n : Nat) : NamesAt (w.drewN n) a ns := by
 rcases h with ⟨p,h1,h2⟩ | ⟨b,o,cap,h1,h2,h3,h5,h4⟩
 ·exact .none p h1 h2
 ·exact .some b o cap h1 h2 h3 h5 h4
theorem NamesAt.drew {w : World} {a : Value} {ns : List ByteArray} (h : NamesAt w a ns) : NamesAt w.drew a ns := by
 rcases h with ⟨p,h1,h2⟩ | ⟨b,o,cap,h1,h2,h3,h5,h4⟩
 ·exact .none p h1 h2
 ·exact .some b o cap h1 h2 h3 h5 h4
theorem right_deep (v : Val) (b o deep : Nat) (w : World) (hd : 12 < deep) : Calls Tryz.prog 145 #[.pointer (some ⟨b, o, none⟩), .int .i64 deep] w fun e w' => BoolBelow (v.rightB deep) w e w' := by
 have e : v.rightB deep = false := by rw [Val.rightB_eq,if_pos hd]
 have i1 : decide ((12 : Int) < (deep : Int)) = true := by simp; omega
 rw [e]; clear e
 go_enter Tryz.func145,Tryz.ntmps145
 go_wp2
 go_ret
 exact ⟨rfl,Below.refl _ _⟩
theorem right_leaf (v : Val) (b o deep : Nat) (w : World) (hd : deep <= 12) (hp : PVal w b o v) (hk : v.k ≠ 5 /\ v.k ≠ 6) : Calls Tryz.prog 145 #[.pointer (some ⟨b, o, none⟩), .int .i64 deep] w fun e w' => BoolBelow (v.rightB deep) w e w' := by
 have i1 : decide ((12 : Int) < (deep : Int)) = false := by simp; omega
 have e := Val.rightB_eq v deep; rw [if_neg (by omega)] at e
 have c0 := hp.c0; have c1 := hp.c1; have c3 := hp.c3; have HB := gh (fun bn bf bs br h => bare_any v b o w hp bn bf bs br h)
 have hso := hp.in.ok.2.2.2.1; unfold strok at hso; have hno := hp.in.ok.2.1; unfold i64r at hno; obtain ⟨hn1,hn2⟩ := hno; obtain ⟨K,hK⟩ := gXe (v.k); obtain ⟨N,hN⟩ := gXe (v.n); obtain ⟨T,hT⟩ := gXe (v.s); rw [<- hK] at c0 hk; rw [<- hN] at c1 hn1 hn2; rw [<- hT] at c3 hso; rw [<- hK, <- hN, <- hT] at e; clear hK hN hT hp
 by_cases h1 : K = 1
 ·subst h1
  rw [if_pos rfl] at e; have HE := gh e; clear e hk
  cases hb : bareB v true false false false with
  | false =>
   have HBB := gh (HB.o true false false false (.inl ⟨rfl,rfl,rfl,rfl⟩)); rw [hb] at HBB; have HE2 : Hid (v.rightB deep = false) := gh (by rw [HE.o,hb]; rfl)
   clear hb HE HB
   go_enter Tryz.func145,Tryz.ntmps145
   go_wp2_with fail
   refine HBB.o.mono ?_; rintro e w' ⟨rfl,rfl⟩
   go_wp2
   go_ret
   exact ⟨by rw [HE2.o]; rfl,Below.refl _ _⟩
  | true =>
   have HBB := gh (HB.o true false false false (.inl ⟨rfl,rfl,rfl,rfl⟩)); rw [hb] at HBB; have HE2 : Hid (v.rightB deep = (N / 2 == 0)) := gh (by rw [HE.o,hb]; rfl)
   clear hb HE HB
   go_enter Tryz.func145,Tryz.ntmps145
   go_wp2_with fail
   refine HBB.o.mono ?_; rintro e w' ⟨rfl,rfl⟩
   go_wp2
   go_ret
   exact ⟨by rw [HE2.o]; rfl,Below.refl _ _⟩
 ·rw [if_neg h1] at e
  by_cases h2 : K = 2
  ·subst h2
   rw [if_pos rfl] at e; have HE := gh e; have HBB := gh (HB.o true false false false (.inl ⟨rfl,rfl,rfl,rfl⟩)); clear e hk h1 HB
   go_enter Tryz.func145,Tryz.ntmps145
   go_wp2_with fail
   refine HBB.o.mono ?_; rintro e w' ⟨rfl,rfl⟩
   go_wp2
   go_ret
   exact ⟨by rw [HE.o]; rfl,Below.refl _ _⟩
  ·rw [if_neg h2] at e
   by_cases h3 : K = 3
   ·subst h3
    rw [if_pos rfl] at e; have HE := gh e; have HBB := gh (HB.o false true false false (.inr (.inl ⟨rfl,rfl,rfl,rfl⟩))); clear e hk h1 h2 HB
    go_enter Tryz.func145,Tryz.ntmps145
    go_wp2_with fail
    refine HBB.o.mono ?_; rintro e w' ⟨rfl,rfl⟩
    go_wp2
    go_ret
    exact ⟨by rw [HE.o]; rfl,Below.refl _ _⟩
   ·rw [if_neg h3] at e
    by_cases h4 : K = 4
    ·subst h4
     rw [if_pos rfl] at e; have HE := gh e; clear e hk h1 h2 h3
     cases hb : bareB v false false true false with
     | false =>
      have HBB := gh (HB.o false false true false (.inr (.inr (.inl ⟨rfl,rfl,rfl,rfl⟩)))); rw [hb] at HBB; have HE2 : Hid (v.rightB deep = false) := gh (by rw [HE.o,hb]; rfl)
      clear hb HE HB
      go_enter Tryz.func145,Tryz.ntmps145
      go_wp2_with fail
      refine HBB.o.mono ?_; rintro e w' ⟨rfl,rfl⟩
      go_wp2
      go_ret
      exact ⟨by rw [HE2.o]; rfl,Below.refl _ _⟩
     | true =>
      have HBB := gh (HB.o false false true false (.inr (.inr (.inl ⟨rfl,rfl,rfl,rfl⟩)))); rw [hb] at HBB; have HE2 : Hid (v.rightB deep = decide (T.size <= 200)) := gh (by rw [HE.o,hb]; rfl)
      clear hb HE HB
      go_enter Tryz.func145,Tryz.ntmps145
      go_wp2_with fail
      refine HBB.o.mono ?_; rintro e w' ⟨rfl,rfl⟩
      go_wp2
      go_ret
      refine ⟨?_,Below.refl _ _⟩; rw [HE2.o]; refine ret_bool ?_
      by_cases hz : T.size <= 200 <;> simp [hz] <;> omega
    ·rw [if_neg h4, if_neg hk.1, if_neg hk.2] at e
     have HE := gh e; have j1 : (K == 1) = false := by simpa using h1
     have j2 : (K == 2) = false := by simpa using h2
     have j3 : (K == 3) = false := by simpa using h3
     have j4 : (K == 4) = false := by simpa using h4
     have j5 : (K == 5) = false := by simpa using hk.1
     have j6 : (K == 6) = false := by simpa using hk.2
     clear e hk h1 h2 h3 h4 HB
     go_enter Tryz.func145,Tryz.ntmps145
     go_wp2
     go_ret
     exact ⟨by rw [HE.o]; rfl,Below.refl _ _⟩
theorem right_list (v : Val) (b o deep : Nat) (w : World) (hd : deep <= 12) (hp : PVal w b o v) (hk : v.k = 5)
  (ih : ∀ x,x ∈ v.xs -> ∀ (b o : Nat) (w : World),PVal w b o x -> Calls Tryz.prog 145 #[.pointer (some ⟨b,o,none⟩), .int .i64 ((deep : Int) + 1)] w fun e w' => BoolBelow (x.rightB (deep + 1)) w e w') :
  Calls Tryz.prog 145 #[.pointer (some ⟨b,o,none⟩), .int .i64 deep] w fun e w' => BoolBelow (v.rightB deep) w e w' := by
 have i1 : decide ((12 : Int) < (deep : Int)) = false := by simp; omega
 have hdw : IntKind.i64.wrap ((deep : Int) + 1) = (deep : Int) + 1 := IntWalk.i64_in _ (by omega)
 have e := Val.rightB_eq v deep; rw [if_neg (by omega),hk] at e
 simp only [show ((5 : Int) = 1) = False from by simp,show ((5 : Int) = 2) = False from by simp,show ((5 : Int) = 3) = False from by simp,show ((5 : Int) = 4) = False from by simp,if_false,if_true] at e
 have c0 := hp.c0; have c4 := hp.c4; have c5 := hp.c5; rw [hk] at c0; have HB5 := gh (fun (W : World) (h : PVal W b o v) => bare_any v b o W h false false false true (.inr (.inr (.inr ⟨rfl,rfl,rfl,rfl⟩))))
 have HIT := gh hp.in.items; have HIH := gh ih; obtain ⟨p4,q4,e4⟩ := hp.in.nslice; obtain ⟨p5,q5,e5⟩ := hp.in.xslice; have hnl := hp.in.ok.2.2.2.2.1; have hxl := hp.in.ok.2.2.2.2.2.1; rw [e4] at c4; rw [e5] at c5; obtain ⟨L,hL⟩ := gXe (v.ns.length); rw [<- hL] at c4 hnl e; have HL := gh hL; have HP := gh hp; have HE := gh e; have E4 := gh e4; clear hk ih e e4 e5 hp hL; obtain ⟨M',hM'⟩ : ∃ M',M' = v.xs.length := ⟨_,rfl⟩; rw [<- hM'] at c5 hxl; clear hM'
 cases hb : bareB v false false false true with
 | false =>
  have HBB := gh (HB5.o w HP.o); rw [hb] at HBB; have HE2 : Hid (v.rightB deep = false) := gh (by rw [HE.o,hb]; simp)
  clear hb HE HB5
  go_enter Tryz.func145,Tryz.ntmps145
  go_wp2_with fail
  refine HBB.o.mono ?_; rintro e w' ⟨rfl,rfl⟩
  go_wp2
  go_ret
  exact ⟨by rw [HE2.o]; rfl,Below.refl _ _⟩
 | true =>
  have HBB := gh (HB5.o w HP.o); rw [hb] at HBB
  by_cases h0 : L = 0
  ·have HE3 : Hid (v.rightB deep = Val.rightAll v.xs (deep + 1)) := gh (by rw [HE.o, hb, h0]; simp)
   have j1 : decide ((0 : Int) < (L : Int)) = false := by simp; omega
   have j2 : decide (0 < L) = false := by simp; omega
   clear hb HE HB5 h0
   go_enter Tryz.func145,Tryz.ntmps145
   go_wp2_with fail
   refine HBB.o.mono ?_; rintro e w' ⟨rfl,rfl⟩; obtain ⟨WW,hWW⟩ := gXe (w); have HP2 := HP; have HBW : Hid (Below w.heap.size w WW) := gh (by rw [hWW]; exact Below.refl _ _)
   rw [<- hWW]; rw [<- hWW] at HP2 HIT c0 c4 c5; clear hWW HBB HP; clear c5
   rcases HIT.o with ⟨pz,x1,x2⟩ | ⟨xb,xo,cap,x1,x2,x3,x4⟩
   ·have HE4 : Hid (v.rightB deep = true) := gh (by rw [HE3.o, x2]; simp [Val.rightAll])
    have d5 : WW.cell? ⟨b,o + 5,none⟩ = some (.slice pz 0 0) := by rw [HP2.o.c5,x1]
    clear x1 x2 HE3 HIH
    go_wp2_with fail
    go_loopw [90] (fun iv wr => iv = .int .i64 0 /\ wr = WW) (fun _ _ => 0)
    case atStart => exact ⟨rfl,rfl⟩
    case round =>
     obtain ⟨rfl,rfl⟩ := hrel
     go_wp2
     go_ret
     exact ⟨by rw [HE4.o]; rfl,HBW.o⟩
   ·have d5 : WW.cell? ⟨b, o + 5, none⟩ = some (.slice (some ⟨xb, xo, none⟩) v.xs.length cap) := by rw [HP2.o.c5, x1]
    obtain ⟨M,hM⟩ := gXe (v.xs.length); have hml := HP2.o.in.ok.2.2.2.2.2.1; rw [<- hM] at d5 x2 hml; have HM := gh hM; have HX4 := gh x4; have hbW := HP2.o.2.1; clear x1 hM x4
    go_wp2_with fail
    go_loopw [90] (fun iv wr => ∃ i : Nat,iv = .int .i64 (i : Int) /\ i <= M /\ Hid (Val.rightAll (v.xs.drop i) (deep + 1) = v.rightB deep) /\ Hid (Below WW.heap.size WW wr)) (fun iv _ => M - (intOf iv).toNat)
    case atStart => exact ⟨0,rfl,by omega,gh (by rw [HE3.o]; rfl),gh (Below.refl _ _)⟩
    case round =>
     obtain ⟨i,rfl,hi,HR,HB⟩ := hrel; have e5 : wr.cell? ⟨b,o + 5,none⟩ = some (.slice (some ⟨xb,xo,none⟩) M cap) := (HB.o.cell (p := ⟨b,o + 5,none⟩) hbW).trans d5
     by_cases hlt : i < M
     ·have hil : i < v.xs.length := by rw [<- HM.o]; exact hlt
      have hx := HX4.o i hil; have hc := HIH.o (v.xs[i]'hil) (by simp) xb (xo + i * 6) wr (hx.below HB.o)
      have hdr := drop_cons hil
      cases hr : (v.xs[i]'hil).rightB (deep + 1) with
      | false =>
       rw [hr] at hc; have HC := gh hc; have HE4 : Hid (v.rightB deep = false) := gh (by rw [<- HR.o,hdr]; simp [Val.rightAll,hr])
       clear hx hc hdr hr hil HR
       go_wp2_with fail
       refine HC.o.mono ?_; rintro e w3 ⟨rfl,hb3⟩; have HB3 := gh (HBW.o.trans ((HB.o.trans (hb3.mono HB.o.size)).mono HBW.o.size)); clear hb3
       go_wp2
       go_ret
       exact ⟨by rw [HE4.o]; rfl,HB3.o⟩
      | true =>
       rw [hr] at hc; have HC := gh hc; have HR2 : Hid (Val.rightAll (v.xs.drop (i + 1)) (deep + 1) = v.rightB deep) := gh (by rw [<- HR.o,hdr]; simp [Val.rightAll,hr])
       clear hx hc hdr hr hil HR
       go_wp2_with fail
       refine HC.o.mono ?_; rintro e w3 ⟨rfl,hb3⟩; have HB3 := gh (HB.o.trans (hb3.mono HB.o.size)); clear hb3
       go_wp2
       go_roundw
       case rel => exact ⟨i + 1,by go_num,by omega,HR2,HB3⟩
       case measure => simp [intOf]; omega
     ·have HE4 : Hid (v.rightB deep = true) := gh (by rw [<- HR.o, List.drop_eq_nil_of_le (by rw [<- HM.o]; omega)]; simp [Val.rightAll])
      have HB3 := gh (HBW.o.trans (HB.o.mono HBW.o.size))
      go_wp2
      go_ret
      exact ⟨by rw [HE4.o]; rfl,HB3.o⟩
  ·have HE2 : Hid (v.rightB deep = false) := gh (by rw [HE.o, hb]; simp [h0])
   have j1 : decide ((0 : Int) < (L : Int)) = true := by simp; omega
   have j2 : decide (0 < L) = true := by simp; omega
   clear hb HE HB5 h0
   go_enter Tryz.func145,Tryz.ntmps145
   go_wp2_with fail
   refine HBB.o.mono ?_; rintro e w' ⟨rfl,rfl⟩
   go_wp2
   go_ret
   exact ⟨by rw [HE2.o]; rfl,Below.refl _ _⟩
theorem right_rec (v : Val) (b o deep : Nat) (w : World) (hd : deep <= 12) (hp : PVal w b o v) (hk : v.k = 6)
  (ih : ∀ x,x ∈ v.xs -> ∀ (b o : Nat) (w : World),PVal w b o x -> Calls Tryz.prog 145 #[.pointer (some ⟨b,o,none⟩), .int .i64 ((deep : Int) + 1)] w fun e w' => BoolBelow (x.rightB (deep + 1)) w e w') :
  Calls Tryz.prog 145 #[.pointer (some ⟨b,o,none⟩), .int .i64 deep] w fun e w' => BoolBelow (v.rightB deep) w e w' := by
 have i1 : decide ((12 : Int) < (deep : Int)) = false := by simp; omega
 have hdw : IntKind.i64.wrap ((deep : Int) + 1) = (deep : Int) + 1 := IntWalk.i64_in _ (by omega)
 have e := Val.rightB_eq v deep; rw [if_neg (by omega),hk] at e
 simp only [show ((6 : Int) = 1) = False from by simp,show ((6 : Int) = 2) = False from by simp,show ((6 : Int) = 3) = False from by simp,show ((6 : Int) = 4) = False from by simp,show ((6 : Int) = 5) = False from by simp,if_false,if_true] at e
 have c0 := hp.c0; have c4 := hp.c4; have c5 := hp.c5; rw [hk] at c0; have HB5 := gh (fun (W : World) (h : PVal W b o v) => bare_any v b o W h false false false true (.inr (.inr (.inr ⟨rfl,rfl,rfl,rfl⟩))))
 have HIT := gh hp.in.items; have HIH := gh ih; obtain ⟨p4,q4,e4⟩ := hp.in.nslice; obtain ⟨p5,q5,e5⟩ := hp.in.xslice; have hnl := hp.in.ok.2.2.2.2.1; have hxl := hp.in.ok.2.2.2.2.2.1; rw [e4] at c4; rw [e5] at c5; obtain ⟨L,hL⟩ := gXe (v.ns.length); rw [<- hL] at c4 hnl e; have HL := gh hL; have HP := gh hp; have HE := gh e; have E4 := gh e4; clear hk ih e e4 e5 hp hL; have HNA := gh (NamesAt.of HP.o.in); have HNS := gh HP.o.in.ok.2.2.2.2.2.2; obtain ⟨M',hM'⟩ : ∃ M',M' = v.xs.length := ⟨_,rfl⟩; rw [<- hM'] at c5 hxl; rw [<- hM'] at HE; clear hM'
 by_cases hlm : L = M'
 ·subst hlm
  have HRI := gh (rising_any (v.na.val v.ns.length) v.ns w.drew HNA.o.drew (by rw [<- HL.o]; omega) HNS.o)
  rw [E4.o, <- HL.o] at HRI
  cases hr : risingB v.ns with
  | false =>
   rw [hr] at HRI; have HE2 : Hid (v.rightB deep = false) := gh (by rw [HE.o,hr]; simp)
   clear hr HE HB5 HIT HIH
   go_enter Tryz.func145,Tryz.ntmps145
   go_wp2
   go_region_held3 (fun W => W.cell? ⟨b, o + 4, none⟩ = some (.slice p4 L q4) /\ W.cell? ⟨b, o + 5, none⟩ = some (.slice p5 L q5)) (first | exact ⟨c4, c5⟩ | exact ⟨d4, d5⟩)
    (first
     | (go_at_call 174; refine HRI.o.mono ?_; rintro e w1 ⟨rfl,hb1⟩; have d4 := (hb1.cell (p := ⟨b,o + 4,none⟩) HP.o.2.1).trans c4; have d5 := (hb1.cell (p := ⟨b,o + 5,none⟩) HP.o.2.1).trans c5))
   have HBE := gh (((Below.refl w.heap.size w).drew).trans hb1); clear hb1
   go_wp2
   go_ret
   exact ⟨by rw [HE2.o]; rfl,HBE.o⟩
  | true =>
   rw [hr] at HRI; have HE2 : Hid (v.rightB deep = (bareB v false false false true && Val.rightAll v.xs (deep + 1))) := gh (by rw [HE.o,hr]; simp)
   clear hr HE
   go_enter Tryz.func145,Tryz.ntmps145
   go_wp2
   go_region_held3 (fun W => W.cell? ⟨b, o + 4, none⟩ = some (.slice p4 L q4) /\ W.cell? ⟨b, o + 5, none⟩ = some (.slice p5 L q5)) (first | exact ⟨c4, c5⟩ | exact ⟨d4, d5⟩)
    (first
     | (go_at_call 174; refine HRI.o.mono ?_; rintro e w1 ⟨rfl,hb1⟩; have d4 := (hb1.cell (p := ⟨b,o + 4,none⟩) HP.o.2.1).trans c4; have d5 := (hb1.cell (p := ⟨b,o + 5,none⟩) HP.o.2.1).trans c5))
   have hbe := ((Below.refl w.heap.size w).drew).trans hb1; have HP2 := gh (HP.o.below hbe); have HIT := gh HP2.o.in.items; have HBE := gh hbe; have d0 := HP2.o.c0; have HBB := gh (HB5.o w1 HP2.o); have hk6 : v.k = 6 := by have := HP.o.c0; rw [c0] at this; injection this with this; injection this with _ this; exact this.symm
   rw [hk6] at d0; clear hb1 hbe hk6 HB5 d4 d5 c0 c4 c5
   cases hb : bareB v false false false true with
   | false =>
    rw [hb] at HBB; have HE4 : Hid (v.rightB deep = false) := gh (by rw [HE2.o,hb]; simp)
    clear hb HE2 HIT HIH
    go_wp2_with fail
    refine HBB.o.mono ?_; rintro e w' ⟨rfl,rfl⟩
    go_wp2
    go_ret
    exact ⟨by rw [HE4.o]; rfl,HBE.o⟩
   | true =>
    rw [hb] at HBB; have HE3 : Hid (v.rightB deep = Val.rightAll v.xs (deep + 1)) := gh (by rw [HE2.o,hb]; simp)
    clear hb HE2
    go_wp2_with fail
    refine HBB.o.mono ?_; rintro e WW ⟨rfl,rfl⟩; have HBW := HBE; clear HBB HRI; obtain ⟨WW,hWW⟩ := gXe (w1); rw [<- hWW] at HP2 HIT HBW d0; rw [<- hWW]; clear hWW
    rcases HIT.o with ⟨pz,x1,x2⟩ | ⟨xb,xo,cap,x1,x2,x3,x4⟩
    ·have HE4 : Hid (v.rightB deep = true) := gh (by rw [HE3.o, x2]; simp [Val.rightAll])
     have d5 : WW.cell? ⟨b,o + 5,none⟩ = some (.slice pz 0 0) := by rw [HP2.o.c5,x1]
     clear x1 x2 HE3 HIH
     go_wp2_with fail
     go_loopw [90] (fun iv wr => iv = .int .i64 0 /\ wr = WW) (fun _ _ => 0)
     case atStart => exact ⟨rfl,rfl⟩
     case round =>
      obtain ⟨rfl,rfl⟩ := hrel
      go_wp2
      go_ret
      exact ⟨by rw [HE4.o]; rfl,HBW.o⟩
    ·have d5 : WW.cell? ⟨b, o + 5, none⟩ = some (.slice (some ⟨xb, xo, none⟩) v.xs.length cap) := by rw [HP2.o.c5, x1]
     obtain ⟨M,hM⟩ := gXe (v.xs.length); have hml := HP2.o.in.ok.2.2.2.2.2.1; rw [<- hM] at d5 x2 hml; have HM := gh hM; have HX4 := gh x4; have hbW := HP2.o.2.1; clear x1 hM x4
     go_wp2_with fail
     go_loopw [90] (fun iv wr => ∃ i : Nat,iv = .int .i64 (i : Int) /\ i <= M /\ Hid (Val.rightAll (v.xs.drop i) (deep + 1) = v.rightB deep) /\ Hid (Below WW.heap.size WW wr)) (fun iv _ => M - (intOf iv).toNat)
     case atStart => exact ⟨0,rfl,by omega,gh (by rw [HE3.o]; rfl),gh (Below.refl _ _)⟩
     case round =>
      obtain ⟨i,rfl,hi,HR,HB⟩ := hrel; have e5 : wr.cell? ⟨b,o + 5,none⟩ = some (.slice (some ⟨xb,xo,none⟩) M cap) := (HB.o.cell (p := ⟨b,o + 5,none⟩) hbW).trans d5
      by_cases hlt : i < M
      ·have hil : i < v.xs.length := by rw [<- HM.o]; exact hlt
       have hx := HX4.o i hil; have hc := HIH.o (v.xs[i]'hil) (by simp) xb (xo + i * 6) wr (hx.below HB.o)
       have hdr := drop_cons hil
       cases hr : (v.xs[i]'hil).rightB (deep + 1) with
       | false =>
        rw [hr] at hc; have HC := gh hc; have HE4 : Hid (v.rightB deep = false) := gh (by rw [<- HR.o,hdr]; simp [Val.rightAll,hr])
        clear hx hc hdr hr hil HR
        go_wp2_with fail
        refine HC.o.mono ?_; rintro e w3 ⟨rfl,hb3⟩; have HB3 := gh (HBW.o.trans ((HB.o.trans (hb3.mono HB.o.size)).mono HBW.o.size)); clear hb3
        go_wp2
        go_ret
        exact ⟨by rw [HE4.o]; rfl,HB3.o⟩
       | true =>
        rw [hr] at hc; have HC := gh hc; have HR2 : Hid (Val.rightAll (v.xs.drop (i + 1)) (deep + 1) = v.rightB deep) := gh (by rw [<- HR.o,hdr]; simp [Val.rightAll,hr])
        clear hx hc hdr hr hil HR
        go_wp2_with fail
        refine HC.o.mono ?_; rintro e w3 ⟨rfl,hb3⟩; have HB3 := gh (HB.o.trans (hb3.mono HB.o.size)); clear hb3
        go_wp2
        go_roundw
        case rel => exact ⟨i + 1,by go_num,by omega,HR2,HB3⟩
        case measure => simp [intOf]; omega
      ·have HE4 : Hid (v.rightB deep = true) := gh (by rw [<- HR.o, List.drop_eq_nil_of_le (by rw [<- HM.o]; omega)]; simp [Val.rightAll])
       have HB3 := gh (HBW.o.trans (HB.o.mono HBW.o.size))
       go_wp2
       go_ret
       exact ⟨by rw [HE4.o]; rfl,HB3.o⟩
 ·have j1 : ((L : Int) != (M' : Int)) = true := by simp; omega
  have HE2 : Hid (v.rightB deep = false) := gh (by rw [HE.o]; simp [hlm])
  clear hlm HE HB5 HL
  go_enter Tryz.func145,Tryz.ntmps145
  go_wp2
  go_quiet (fail)
  go_wp2
  go_ret
  exact ⟨by rw [HE2.o]; rfl,below_drewN (Below.refl _ _) _⟩
end Go.Proofs.YtaamihdibpioaaaGreat
namespace Go.Proofs.YtaamihdibpioaaaGreat
open Go.RowKit
theorem right_any : ∀ (d : Nat) (v : Val) (b o deep : Nat) (w : World), v.sz <= d -> deep <= 13 -> PVal w b o v ->
  Calls Tryz.prog 145 #[.pointer (some ⟨b,o,none⟩), .int .i64 deep] w fun e w' => BoolBelow (v.rightB deep) w e w'
 | 0,v,b,o,deep,w,hd,_,_ => by rw [Val.sz_eq] at hd; omega
 | d + 1, v, b, o, deep, w, hd, hdeep, hp => by
  by_cases h12 : 12 < deep
  ·exact right_deep v b o deep w h12
  ·have ih : ∀ x, x ∈ v.xs -> ∀ (b o : Nat) (w : World), PVal w b o x -> Calls Tryz.prog 145 #[.pointer (some ⟨b, o, none⟩), .int .i64 ((deep : Int) + 1)] w fun e w' => BoolBelow (x.rightB (deep + 1)) w e w' :=
    fun x hx b o w hp => right_any d x b o (deep + 1) w (by have := Val.size_mem hx; omega) (by omega) hp
   by_cases h5 : v.k = 5
   ·exact right_list v b o deep w (by omega) hp h5 ih
   ·by_cases h6 : v.k = 6
    ·exact right_rec v b o deep w (by omega) hp h6 ih
    ·exact right_leaf v b o deep w (by omega) hp ⟨h5,h6⟩
abbrev Val.agg (v : Val) : Value := .agg #[.int .i64 v.k, .int .i64 v.n, .float .f64 v.f, .string v.s,v.na.val v.ns.length,v.xa.val v.xs.length]
def Val.RightB (v : Val) : Bool := decide (v.count 0 <= 200) && v.rightB 1
def IntBelow (n : Int) (w : World) (e : Ending) (w' : World) : Prop := e = .returned (.int .i64 n) /\ Below w.heap.size w w'
theorem parts_any (v : Val) (w : World) (h : v.In w) : Calls Tryz.prog 144 #[v.agg] w fun e w' => IntBelow (v.count 0 : Nat) w e w' := by
 have hc := gh (counted_any v.sz v w.heap.size 0 0 _ (Nat.le_refl _) (by omega) (PVal.new w v 37 h))
 clear h
 go_enter Tryz.func144,Tryz.ntmps144
 go_wp2_with fail
 refine hc.out.mono ?_; rintro e w' ⟨rfl,rfl⟩
 go_wp2
 go_ret
 exact ⟨rfl, (Below.refl _ _).alloc (Nat.le_refl _) _⟩
theorem rightf_any (v : Val) (w : World) (h : v.In w) : Calls Tryz.prog 122 #[v.agg] w fun e w' => BoolBelow v.RightB w e w' := by
 obtain ⟨W,hW⟩ := gXe (w.alloc (.cells #[.int .i64 v.k, .int .i64 v.n, .float .f64 v.f, .string v.s,v.na.val v.ns.length,v.xa.val v.xs.length] 37)); have hp : PVal W w.heap.size 0 v := by rw [hW]; exact PVal.new w v 37 h
 have hB : Below w.heap.size w W := by rw [hW]; exact (Below.refl _ _).alloc (Nat.le_refl _) _
 have hpa := parts_any v W hp.in; have c0 := hp.c0; have c1 := hp.c1; have c2 := hp.c2; have c3 := hp.c3; have c4 := hp.c4; have c5 := hp.c5; simp only [Nat.zero_add] at c1 c2 c3 c4 c5; obtain ⟨p4,q4,e4⟩ := hp.in.nslice; obtain ⟨p5,q5,e5⟩ := hp.in.xslice; have HW := gh hW; have HP := gh hp; have HBL := gh hB; have HPA := gh hpa; have hcl := Val.count_le v.sz v 0 (Nat.le_refl _) (by omega)
 obtain ⟨n,hn⟩ := gXe (v.count 0); rw [<- hn] at hcl HPA; have hR : v.RightB = (decide (n <= 200) && v.rightB 1) := by rw [hn]; rfl
 have HR := gh hR; clear hW hp hB hpa hn hR e4 e5
 by_cases h200 : n <= 200
 ·have i1 : decide ((n : Int) <= 200) = true := by simp; omega
  have HR2 : Hid (v.RightB = v.rightB 1) := gh (by rw [HR.o]; simp [h200])
  clear HR h
  go_enter Tryz.func122,Tryz.ntmps122
  go_wp2_with fail
  rw [<- HW.o]
  go_wp2_with fail
  refine HPA.o.mono ?_; rintro e w2 ⟨rfl,hl⟩; have HC := gh (right_any v.sz v w.heap.size 0 1 w2 (Nat.le_refl _) (by omega) (HP.o.below (hl.mono (Nat.le_refl _))))
  have HL := gh (HBL.o.trans (hl.mono HBL.o.size)); clear hl c0 c1 c2 c3 c4 c5
  go_wp2_with fail
  refine HC.o.mono ?_; rintro e w3 ⟨rfl,hl⟩; have HL3 := gh (HL.o.trans (hl.mono HL.o.size)); clear hl
  go_wp2
  go_ret
  exact ⟨by rw [HR2.o]; rfl,HL3.o⟩
 ·have i1 : decide ((n : Int) <= 200) = false := by simp; omega
  have HR2 : Hid (v.RightB = false) := gh (by rw [HR.o]; simp [h200])
  clear HR h
  go_enter Tryz.func122,Tryz.ntmps122
  go_wp2_with fail
  rw [<- HW.o]
  go_wp2_with fail
  refine HPA.o.mono ?_; rintro e w2 ⟨rfl,hl⟩; have HL := gh (HBL.o.trans (hl.mono HBL.o.size)); clear hl
  go_wp2
  go_ret
  exact ⟨by rw [HR2.o]; rfl,HL.o⟩
end Go.Proofs.YtaamihdibpioaaaGreat
namespace Go.Proofs.YtaamihdibpioaaaGreat
open Go.RowKit
inductive Ty where
 | mk (k : Int) (na : Sl) (ns : List ByteArray) (xa : Sl) (xs : List Ty)
namespace Ty
def k : Ty -> Int | .mk k _ _ _ _ => k
def na : Ty -> Sl | .mk _ na _ _ _ => na
def ns : Ty -> List ByteArray | .mk _ _ ns _ _ => ns
def xa : Ty -> Sl | .mk _ _ _ xa _ => xa
def xs : Ty -> List Ty | .mk _ _ _ _ xs => xs
def cells (v : Ty) : List Value := [.int .i64 v.k,v.na.val v.ns.length,v.xa.val v.xs.length]
abbrev agg (v : Ty) : Value := .agg #[.int .i64 v.k,v.na.val v.ns.length,v.xa.val v.xs.length]
end Ty
mutual
def Ty.In (w : World) : Ty -> Prop
 | .mk k na ns xa xs => (i64r k /\ ns.length <= 8796093021952 /\ xs.length <= 2513169434843 /\ ∀ s, s ∈ ns -> strok s) /\
  na.lies w 1 ns.length (fun i => [.string (ns.getD i ByteArray.empty)]) /\ xa.lies w 3 xs.length (fun i => Ty.cells (xs.getD i (.mk 0 .no [] .no []))) /\ Ty.InAll w xs
def Ty.InAll (w : World) : List Ty -> Prop
 | [] => True
 | x :: xs => x.In w /\ Ty.InAll w xs
end
abbrev Ty.zero : Ty := .mk 0 .no [] .no []
theorem Ty.inAll_iff (w : World) : ∀ xs : List Ty, Ty.InAll w xs ↔ ∀ x, x ∈ xs -> x.In w
 | [] => by simp [Ty.InAll]
 | x :: xs => by simp [Ty.InAll,Ty.inAll_iff w xs]
theorem Ty.in_iff (w : World) (v : Ty) : v.In w ↔ (i64r v.k /\ v.ns.length <= 8796093021952 /\ v.xs.length <= 2513169434843 /\ ∀ s, s ∈ v.ns -> strok s) /\
  v.na.lies w 1 v.ns.length (fun i => [.string (v.ns.getD i ByteArray.empty)]) /\ v.xa.lies w 3 v.xs.length (fun i => (v.xs.getD i Ty.zero).cells) /\ ∀ x,x ∈ v.xs -> x.In w := by
 cases v
 simp only [Ty.In,Ty.inAll_iff,Ty.k,Ty.na,Ty.ns,Ty.xa,Ty.xs]
mutual
def Ty.sz : Ty -> Nat
 | .mk _ _ _ _ xs => 1 + Ty.szAll xs
def Ty.szAll : List Ty -> Nat
 | [] => 0
 | x :: xs => x.sz + Ty.szAll xs
end
theorem Ty.sz_eq (v : Ty) : v.sz = 1 + Ty.szAll v.xs := by cases v; simp [Ty.sz,Ty.xs]
theorem Ty.szAll_mem {x : Ty} : ∀ {xs : List Ty}, x ∈ xs -> x.sz <= Ty.szAll xs
 | [],h => by simp at h
 | y :: xs, h => by
  simp only [Ty.szAll]
  rcases List.mem_cons.1 h with rfl | h
  ·omega
  ·have := Ty.szAll_mem h; omega
theorem Ty.size_mem {x v : Ty} (h : x ∈ v.xs) : x.sz < v.sz := by
 have := Ty.szAll_mem h; rw [Ty.sz_eq v]; omega
theorem Ty.in_carry {w w' : World} (hb : ∀ b o, b < w.heap.size -> w'.cell? ⟨b, o, none⟩ = w.cell? ⟨b, o, none⟩) (hz : w.heap.size <= w'.heap.size) : ∀ (d : Nat) (v : Ty), v.sz <= d -> v.In w -> v.In w'
 | 0,v,hd,_ => by rw [Ty.sz_eq] at hd; omega
 | d + 1, v, hd, h => by
  rw [Ty.in_iff] at h ⊢; exact ⟨h.1,Sl.lies.carry h.2.1 hb hz,Sl.lies.carry h.2.2.1 hb hz,fun x hx => Ty.in_carry hb hz d x (by have := Ty.size_mem hx; omega) (h.2.2.2 x hx)⟩
theorem Ty.In.below {w w' : World} {v : Ty} (h : v.In w) (hb : Below w.heap.size w w') : v.In w' :=
 Ty.in_carry (fun b o hlt => hb.cell (p := ⟨b,o,none⟩) hlt) hb.size _ v (Nat.le_refl _) h
theorem Ty.In.drewN {w : World} {v : Ty} (h : v.In w) (n : Nat) : v.In (w.drewN n) := Ty.in_carry (w := w) (w' := w.drewN n) (fun _ _ _ => rfl) (Nat.le_refl _) _ v (Nat.le_refl _) h
def PTy (w : World) (b o : Nat) (v : Ty) : Prop := (∀ j,j < 3 -> w.cell? ⟨b,o + j,none⟩ = v.cells[j]?) /\ b < w.heap.size /\ v.In w
section
variable {w w' : World} {b o : Nat} {v : Ty}
theorem PTy.c0 (h : PTy w b o v) : w.cell? ⟨b,o,none⟩ = some (.int .i64 v.k) := h.1 0 (by omega)
theorem PTy.c1 (h : PTy w b o v) : w.cell? ⟨b,o + 1,none⟩ = some (v.na.val v.ns.length) := h.1 1 (by omega)
theorem PTy.c2 (h : PTy w b o v) : w.cell? ⟨b,o + 2,none⟩ = some (v.xa.val v.xs.length) := h.1 2 (by omega)
theorem PTy.below (h : PTy w b o v) (hb : Below w.heap.size w w') : PTy w' b o v :=
 ⟨fun j hj => (hb.cell (p := ⟨b,o + j,none⟩) h.2.1).trans (h.1 j hj),Nat.lt_of_lt_of_le h.2.1 hb.size,h.2.2.below hb⟩
theorem PTy.drewN (h : PTy w b o v) (n : Nat) : PTy (w.drewN n) b o v := ⟨h.1,h.2.1,h.2.2.drewN n⟩
theorem PTy.new (w : World) (v : Ty) (t : TypeId) (h : v.In w) : PTy (w.alloc (.cells v.cells.toArray t)) w.heap.size 0 v := by
 refine ⟨fun j hj => ?_,by simp,h.below ((Below.refl _ w).alloc (Nat.le_refl _) _)⟩
 rw [(Blk.new w t _).cell]
 simp
theorem PTy.in (h : PTy w b o v) : v.In w := h.2.2
theorem Ty.In.ok (h : v.In w) : i64r v.k /\ v.ns.length <= 8796093021952 /\ v.xs.length <= 2513169434843 /\ ∀ s,s ∈ v.ns -> strok s := ((Ty.in_iff w v).1 h).1
theorem Ty.In.nslice (h : v.In w) : ∃ p c, v.na.val v.ns.length = .slice p v.ns.length c := by
 have hx := ((Ty.in_iff w v).1 h).2.1
 cases ha : v.na with
 | no =>
  rw [ha] at hx; have : v.ns.length = 0 := by simpa [Sl.lies] using hx
  exact ⟨none, 0,by simp [Sl.val,this]⟩
 | odd a =>
  rw [ha] at hx; have : v.ns.length = 0 := by simpa [Sl.lies] using hx
  exact ⟨some a, 0,by simp [Sl.val,this]⟩
 | at_ b o cap => exact ⟨_,_,rfl⟩
theorem Ty.In.xslice (h : v.In w) : ∃ p c, v.xa.val v.xs.length = .slice p v.xs.length c := by
 have hx := ((Ty.in_iff w v).1 h).2.2.1
 cases ha : v.xa with
 | no =>
  rw [ha] at hx; have : v.xs.length = 0 := by simpa [Sl.lies] using hx
  exact ⟨none, 0,by simp [Sl.val,this]⟩
 | odd a =>
  rw [ha] at hx; have : v.xs.length = 0 := by simpa [Sl.lies] using hx
  exact ⟨some a, 0,by simp [Sl.val,this]⟩
 | at_ b o cap => exact ⟨_,_,rfl⟩
inductive TItems (w : World) (v : Ty) : Prop where
 | none (p : Option Addr) (h1 : v.xa.val v.xs.length = .slice p 0 0) (h2 : v.xs = [])
 | some (b o cap : Nat) (h1 : v.xa.val v.xs.length = .slice (some ⟨b,o,Option.none⟩) v.xs.length cap) (h2 : v.xs.length <= cap) (h3 : cap <= 9223372036854775807) (h4 : ∀ i (h : i < v.xs.length),PTy w b (o + i * 3) v.xs[i])
theorem Ty.In.items (h : v.In w) : TItems w v := by
 rw [Ty.in_iff] at h; obtain ⟨_,_,hx,hi⟩ := h
 cases ha : v.xa with
 | no =>
  rw [ha] at hx; exact .none Option.none (by simp [Sl.val,ha]) (by simpa [Sl.lies] using hx)
 | odd a =>
  rw [ha] at hx; exact .none (Option.some a) (by simp [Sl.val,ha]) (by simpa [Sl.lies] using hx)
 | at_ b o cap =>
  rw [ha] at hx; refine .some b o cap (by simp [Sl.val,ha]) hx.1 hx.2.1 (fun i hl => ⟨fun j hj => ?_,?_,hi _ (by simp)⟩)
  ·have := (hx.2.2 i hl j hj).1
   rw [<- Nat.add_assoc] at this; rw [this]
   simp [hl]
  ·exact (hx.2.2 i hl 0 (by omega)).2
inductive TNames (w : World) (v : Ty) : Prop where
 | none (p : Option Addr) (h1 : v.na.val v.ns.length = .slice p 0 0) (h2 : v.ns = [])
 | some (b o cap : Nat) (h1 : v.na.val v.ns.length = .slice (some ⟨b,o,Option.none⟩) v.ns.length cap) (h2 : v.ns.length <= cap) (h3 : cap <= 9223372036854775807) (h4 : ∀ i (h : i < v.ns.length),w.cell? ⟨b,o + i,Option.none⟩ = Option.some (.string v.ns[i]))
theorem Ty.In.names (h : v.In w) : TNames w v := by
 rw [Ty.in_iff] at h; obtain ⟨_,hx,_,hi⟩ := h
 cases ha : v.na with
 | no =>
  rw [ha] at hx; exact .none Option.none (by simp [Sl.val,ha]) (by simpa [Sl.lies] using hx)
 | odd a =>
  rw [ha] at hx; exact .none (Option.some a) (by simp [Sl.val,ha]) (by simpa [Sl.lies] using hx)
 | at_ b o cap =>
  rw [ha] at hx; refine .some b o cap (by simp [Sl.val,ha]) hx.1 hx.2.1 (fun i hl => ?_)
  have := (hx.2.2 i hl 0 (by omega)).1
  simp at this
  rw [this]
  simp [hl]
end
theorem TNamesAt.of {w : World} {v : Ty} (h : v.In w) : NamesAt w (v.na.val v.ns.length) v.ns := by
 have hx := ((Ty.in_iff w v).1 h).2.1
 cases ha : v.na with
 | no =>
  rw [ha] at hx; have : v.ns.length = 0 := by simpa [Sl.lies] using hx
  exact .none Option.none (by simp [Sl.val]) (by simpa using this)
 | odd a =>
  rw [ha] at hx; have : v.ns.length = 0 := by simpa [Sl.lies] using hx
  exact .none (Option.some a) (by simp [Sl.val]) (by simpa using this)
 | at_ b o cap =>
  rw [ha] at hx; refine .some b o cap rfl hx.1 hx.2.1 ?_ (fun i hl => ?_)
  ·rcases Nat.eq_zero_or_pos v.ns.length with h0 | h0
   ·exact .inl h0
   ·exact .inr (hx.2.2 0 h0 0 (by omega)).2
  ·have := (hx.2.2 i hl 0 (by omega)).1
   simpa using this
end Go.Proofs.YtaamihdibpioaaaGreat
namespace Go.Proofs.YtaamihdibpioaaaGreat
open Go.RowKit
mutual
def Ty.Sep (S : Nat -> Prop) : Ty -> Prop
 | .mk _ na ns xa xs => na.sep S ns.length /\ xa.sep S xs.length /\ Ty.SepAll S xs
def Ty.SepAll (S : Nat -> Prop) : List Ty -> Prop
 | [] => True
 | x :: xs => x.Sep S /\ Ty.SepAll S xs
end
theorem Ty.sepAll_iff (S : Nat -> Prop) : ∀ xs : List Ty, Ty.SepAll S xs ↔ ∀ x, x ∈ xs -> x.Sep S
 | [] => by simp [Ty.SepAll]
 | x :: xs => by simp [Ty.SepAll,Ty.sepAll_iff S xs]
theorem Ty.sep_iff (S : Nat -> Prop) (v : Ty) : v.Sep S ↔ v.na.sep S v.ns.length /\ v.xa.sep S v.xs.length /\ ∀ x, x ∈ v.xs -> x.Sep S := by
 cases v
 simp only [Ty.Sep,Ty.sepAll_iff,Ty.na,Ty.ns,Ty.xa,Ty.xs]
theorem Ty.sep_mono {S T : Nat -> Prop} (hst : ∀ b, S b -> T b) : ∀ (d : Nat) (v : Ty), v.sz <= d -> v.Sep S -> v.Sep T
 | 0,v,hd,_ => by rw [Ty.sz_eq] at hd; omega
 | d + 1, v, hd, h => by
  rw [Ty.sep_iff] at h ⊢; exact ⟨h.1.mono hst,h.2.1.mono hst,fun x hx => Ty.sep_mono hst d x (by have := Ty.size_mem hx; omega) (h.2.2 x hx)⟩
theorem Ty.Sep.mono {S T : Nat -> Prop} {v : Ty} (h : v.Sep S) (hst : ∀ b,S b -> T b) : v.Sep T := Ty.sep_mono hst v.sz v (Nat.le_refl _) h
theorem Ty.sep_and {S T : Nat -> Prop} : ∀ (d : Nat) (v : Ty), v.sz <= d -> v.Sep S -> v.Sep T -> v.Sep (fun b => S b /\ T b)
 | 0,v,hd,_,_ => by rw [Ty.sz_eq] at hd; omega
 | d + 1, v, hd, h, k => by
  rw [Ty.sep_iff] at h k ⊢; exact ⟨h.1.and k.1,h.2.1.and k.2.1,fun x hx => Ty.sep_and d x (by have := Ty.size_mem hx; omega) (h.2.2 x hx) (k.2.2 x hx)⟩
theorem Ty.Sep.and {S T : Nat -> Prop} {v : Ty} (h : v.Sep S) (k : v.Sep T) : v.Sep (fun b => S b /\ T b) := Ty.sep_and v.sz v (Nat.le_refl _) h k
theorem Ty.in_sep {w : World} : ∀ (d : Nat) (v : Ty), v.sz <= d -> v.In w -> v.Sep (fun b => b < w.heap.size)
 | 0,v,hd,_ => by rw [Ty.sz_eq] at hd; omega
 | d + 1, v, hd, h => by
  rw [Ty.in_iff] at h; rw [Ty.sep_iff]; exact ⟨h.2.1.sep (by omega),h.2.2.1.sep (by omega),fun x hx => Ty.in_sep d x (by have := Ty.size_mem hx; omega) (h.2.2.2 x hx)⟩
theorem Ty.In.sep {w : World} {v : Ty} (h : v.In w) : v.Sep (fun b => b < w.heap.size) := Ty.in_sep v.sz v (Nat.le_refl _) h
theorem Ty.in_carryS {S : Nat -> Prop} {w w' : World} (hb : ∀ b o, S b -> b < w.heap.size -> w'.cell? ⟨b, o, none⟩ = w.cell? ⟨b, o, none⟩) (hz : w.heap.size <= w'.heap.size) :
  ∀ (d : Nat) (v : Ty),v.sz <= d -> v.In w -> v.Sep S -> v.In w'
 | 0,v,hd,_,_ => by rw [Ty.sz_eq] at hd; omega
 | d + 1, v, hd, h, hs => by
  rw [Ty.in_iff] at h ⊢; rw [Ty.sep_iff] at hs; exact ⟨h.1,h.2.1.carryS hs.1 hb hz,h.2.2.1.carryS hs.2.1 hb hz,fun x hx => Ty.in_carryS hb hz d x (by have := Ty.size_mem hx; omega) (h.2.2.2 x hx) (hs.2.2 x hx)⟩
theorem Ty.In.carryS {S : Nat -> Prop} {w w' : World} {v : Ty} (h : v.In w) (hs : v.Sep S) (hb : ∀ b o, S b -> b < w.heap.size -> w'.cell? ⟨b, o, none⟩ = w.cell? ⟨b, o, none⟩) (hz : w.heap.size <= w'.heap.size) : v.In w' :=
 Ty.in_carryS hb hz v.sz v (Nat.le_refl _) h hs
mutual
def Ty.erase : Ty -> Ty
 | .mk k _ ns _ xs => .mk k .no ns .no (Ty.eraseAll xs)
def Ty.eraseAll : List Ty -> List Ty
 | [] => []
 | x :: xs => x.erase :: Ty.eraseAll xs
end
theorem Ty.eraseAll_map : ∀ xs : List Ty, Ty.eraseAll xs = xs.map Ty.erase
 | [] => rfl
 | x :: xs => by simp [Ty.eraseAll,Ty.eraseAll_map xs]
theorem Ty.erase_eq (v : Ty) : v.erase = .mk v.k .no v.ns .no (v.xs.map Ty.erase) := by
 cases v
 simp only [Ty.erase,Ty.eraseAll_map,Ty.k,Ty.ns,Ty.xs]
end Go.Proofs.YtaamihdibpioaaaGreat
namespace Go.Proofs.YtaamihdibpioaaaGreat
open Go.RowKit
mutual
def Ty.count : Ty -> Nat -> Nat
 | .mk _ _ _ _ xs,n => Ty.countAll xs (n + 1)
def Ty.countAll : List Ty -> Nat -> Nat
 | [],n => n
 | x :: xs,n => if 500 <= n then n else Ty.countAll xs (x.count n)
end
theorem Ty.count_eq (v : Ty) (n : Nat) : v.count n = Ty.countAll v.xs (n + 1) := by cases v; simp [Ty.count,Ty.xs]
theorem Ty.count_le : ∀ (d : Nat) (v : Ty) (n : Nat), v.sz <= d -> n < 500 -> n < v.count n /\ v.count n <= 500
 | 0,v,n,hd,_ => by rw [Ty.sz_eq] at hd; omega
 | d + 1, v, n, hd, hn => by
  have key : ∀ (xs : List Ty) (m : Nat), (∀ x, x ∈ xs -> x.sz <= d) -> m <= 500 -> m <= Ty.countAll xs m /\ Ty.countAll xs m <= 500 := by
   intro xs
   induction xs with
   | nil => intro m _ hm; simp [Ty.countAll]; exact hm
   | cons x xs ih =>
    intro m hx hm; simp only [Ty.countAll]
    split
    ·omega
    ·have h1 := Ty.count_le d x m (hx x (by simp)) (by omega)
     have h2 := ih (x.count m) (fun y hy => hx y (by simp [hy])) h1.2
     omega
  rw [Ty.count_eq]; have := key v.xs (n + 1) (fun x hx => by have := Ty.size_mem hx; omega) (by omega)
  omega
theorem Ty.countAll_ge {xs : List Ty} {m : Nat} (h : 500 <= m) : Ty.countAll xs m = m := by
 cases xs with
 | nil => simp [Ty.countAll]
 | cons x xs => simp [Ty.countAll,h]
end Go.Proofs.YtaamihdibpioaaaGreat
namespace Go.Proofs.YtaamihdibpioaaaGreat
open Go.RowKit
inductive Exp where
 | mk (k : Int) (s : ByteArray) (v : Val) (na : Sl) (ns : List ByteArray) (xa : Sl) (xs : List Exp)
namespace Exp
def k : Exp -> Int | .mk k _ _ _ _ _ _ => k
def s : Exp -> ByteArray | .mk _ s _ _ _ _ _ => s
def v : Exp -> Val | .mk _ _ v _ _ _ _ => v
def na : Exp -> Sl | .mk _ _ _ na _ _ _ => na
def ns : Exp -> List ByteArray | .mk _ _ _ _ ns _ _ => ns
def xa : Exp -> Sl | .mk _ _ _ _ _ xa _ => xa
def xs : Exp -> List Exp | .mk _ _ _ _ _ _ xs => xs
def cells (v : Exp) : List Value := [.int .i64 v.k, .string v.s, .int .i64 v.v.k, .int .i64 v.v.n, .float .f64 v.v.f, .string v.v.s,v.v.na.val v.v.ns.length,v.v.xa.val v.v.xs.length,v.na.val v.ns.length,v.xa.val v.xs.length]
abbrev agg (v : Exp) : Value := .agg #[.int .i64 v.k, .string v.s, .int .i64 v.v.k, .int .i64 v.v.n, .float .f64 v.v.f, .string v.v.s,v.v.na.val v.v.ns.length,v.v.xa.val v.v.xs.length,v.na.val v.ns.length,v.xa.val v.xs.length]
end Exp
mutual
def Exp.In (w : World) : Exp -> Prop
 | .mk k s v na ns xa xs => (i64r k /\ strok s /\ ns.length <= 8796093021952 /\ xs.length <= 879609302195 /\ ∀ s, s ∈ ns -> strok s) /\ v.In w /\
  na.lies w 1 ns.length (fun i => [.string (ns.getD i ByteArray.empty)]) /\ xa.lies w 10 xs.length (fun i => Exp.cells (xs.getD i (.mk 0 ByteArray.empty Val.zero .no [] .no []))) /\ Exp.InAll w xs
def Exp.InAll (w : World) : List Exp -> Prop
 | [] => True
 | x :: xs => x.In w /\ Exp.InAll w xs
end
abbrev Exp.zero : Exp := .mk 0 ByteArray.empty Val.zero .no [] .no []
theorem Exp.inAll_iff (w : World) : ∀ xs : List Exp, Exp.InAll w xs ↔ ∀ x, x ∈ xs -> x.In w
 | [] => by simp [Exp.InAll]
 | x :: xs => by simp [Exp.InAll,Exp.inAll_iff w xs]
theorem Exp.in_iff (w : World) (v : Exp) : v.In w ↔ (i64r v.k /\ strok v.s /\ v.ns.length <= 8796093021952 /\ v.xs.length <= 879609302195 /\ ∀ s, s ∈ v.ns -> strok s) /\ v.v.In w /\
  v.na.lies w 1 v.ns.length (fun i => [.string (v.ns.getD i ByteArray.empty)]) /\ v.xa.lies w 10 v.xs.length (fun i => (v.xs.getD i Exp.zero).cells) /\ ∀ x,x ∈ v.xs -> x.In w := by
 cases v
 simp only [Exp.In,Exp.inAll_iff,Exp.k,Exp.s,Exp.v,Exp.na,Exp.ns,Exp.xa,Exp.xs]
mutual
def Exp.sz : Exp -> Nat
 | .mk _ _ _ _ _ _ xs => 1 + Exp.szAll xs
def Exp.szAll : List Exp -> Nat
 | [] => 0
 | x :: xs => x.sz + Exp.szAll xs
end
theorem Exp.sz_eq (v : Exp) : v.sz = 1 + Exp.szAll v.xs := by cases v; simp [Exp.sz,Exp.xs]
theorem Exp.szAll_mem {x : Exp} : ∀ {xs : List Exp}, x ∈ xs -> x.sz <= Exp.szAll xs
 | [],h => by simp at h
 | y :: xs, h => by
  simp only [Exp.szAll]
  rcases List.mem_cons.1 h with rfl | h
  ·omega
  ·have := Exp.szAll_mem h; omega
theorem Exp.size_mem {x v : Exp} (h : x ∈ v.xs) : x.sz < v.sz := by
 have := Exp.szAll_mem h; rw [Exp.sz_eq v]; omega
theorem Exp.in_carry {w w' : World} (hb : ∀ b o, b < w.heap.size -> w'.cell? ⟨b, o, none⟩ = w.cell? ⟨b, o, none⟩) (hz : w.heap.size <= w'.heap.size) : ∀ (d : Nat) (v : Exp), v.sz <= d -> v.In w -> v.In w'
 | 0,v,hd,_ => by rw [Exp.sz_eq] at hd; omega
 | d + 1, v, hd, h => by
  rw [Exp.in_iff] at h ⊢; exact ⟨h.1,Val.in_carry hb hz _ v.v (Nat.le_refl _) h.2.1,Sl.lies.carry h.2.2.1 hb hz,Sl.lies.carry h.2.2.2.1 hb hz,fun x hx => Exp.in_carry hb hz d x (by have := Exp.size_mem hx; omega) (h.2.2.2.2 x hx)⟩
theorem Exp.In.below {w w' : World} {v : Exp} (h : v.In w) (hb : Below w.heap.size w w') : v.In w' :=
 Exp.in_carry (fun b o hlt => hb.cell (p := ⟨b,o,none⟩) hlt) hb.size _ v (Nat.le_refl _) h
theorem Exp.In.drewN {w : World} {v : Exp} (h : v.In w) (n : Nat) : v.In (w.drewN n) := Exp.in_carry (w := w) (w' := w.drewN n) (fun _ _ _ => rfl) (Nat.le_refl _) _ v (Nat.le_refl _) h
def PExp (w : World) (b o : Nat) (v : Exp) : Prop := (∀ j,j < 10 -> w.cell? ⟨b,o + j,none⟩ = v.cells[j]?) /\ b < w.heap.size /\ v.In w
section
variable {w w' : World} {b o : Nat} {v : Exp}
theorem PExp.c0 (h : PExp w b o v) : w.cell? ⟨b,o,none⟩ = some (.int .i64 v.k) := h.1 0 (by omega)
theorem PExp.c1 (h : PExp w b o v) : w.cell? ⟨b,o + 1,none⟩ = some (.string v.s) := h.1 1 (by omega)
theorem PExp.c2 (h : PExp w b o v) : w.cell? ⟨b,o + 2,none⟩ = some (.int .i64 v.v.k) := h.1 2 (by omega)
theorem PExp.c3 (h : PExp w b o v) : w.cell? ⟨b,o + 3,none⟩ = some (.int .i64 v.v.n) := h.1 3 (by omega)
theorem PExp.c4 (h : PExp w b o v) : w.cell? ⟨b,o + 4,none⟩ = some (.float .f64 v.v.f) := h.1 4 (by omega)
theorem PExp.c5 (h : PExp w b o v) : w.cell? ⟨b,o + 5,none⟩ = some (.string v.v.s) := h.1 5 (by omega)
theorem PExp.c6 (h : PExp w b o v) : w.cell? ⟨b,o + 6,none⟩ = some (v.v.na.val v.v.ns.length) := h.1 6 (by omega)
theorem PExp.c7 (h : PExp w b o v) : w.cell? ⟨b,o + 7,none⟩ = some (v.v.xa.val v.v.xs.length) := h.1 7 (by omega)
theorem PExp.c8 (h : PExp w b o v) : w.cell? ⟨b,o + 8,none⟩ = some (v.na.val v.ns.length) := h.1 8 (by omega)
theorem PExp.c9 (h : PExp w b o v) : w.cell? ⟨b,o + 9,none⟩ = some (v.xa.val v.xs.length) := h.1 9 (by omega)
theorem PExp.below (h : PExp w b o v) (hb : Below w.heap.size w w') : PExp w' b o v :=
 ⟨fun j hj => (hb.cell (p := ⟨b,o + j,none⟩) h.2.1).trans (h.1 j hj),Nat.lt_of_lt_of_le h.2.1 hb.size,h.2.2.below hb⟩
theorem PExp.drewN (h : PExp w b o v) (n : Nat) : PExp (w.drewN n) b o v := ⟨h.1,h.2.1,h.2.2.drewN n⟩
theorem PExp.new (w : World) (v : Exp) (t : TypeId) (h : v.In w) : PExp (w.alloc (.cells v.cells.toArray t)) w.heap.size 0 v := by
 refine ⟨fun j hj => ?_,by simp,h.below ((Below.refl _ w).alloc (Nat.le_refl _) _)⟩
 rw [(Blk.new w t _).cell]
 simp
theorem PExp.in (h : PExp w b o v) : v.In w := h.2.2
theorem Exp.In.ok (h : v.In w) : i64r v.k /\ strok v.s /\ v.ns.length <= 8796093021952 /\ v.xs.length <= 879609302195 /\ ∀ s,s ∈ v.ns -> strok s := ((Exp.in_iff w v).1 h).1
theorem Exp.In.nslice (h : v.In w) : ∃ p c, v.na.val v.ns.length = .slice p v.ns.length c := by
 have hx := ((Exp.in_iff w v).1 h).2.2.1
 cases ha : v.na with
 | no =>
  rw [ha] at hx; have : v.ns.length = 0 := by simpa [Sl.lies] using hx
  exact ⟨none, 0,by simp [Sl.val,this]⟩
 | odd a =>
  rw [ha] at hx; have : v.ns.length = 0 := by simpa [Sl.lies] using hx
  exact ⟨some a, 0,by simp [Sl.val,this]⟩
 | at_ b o cap => exact ⟨_,_,rfl⟩
theorem Exp.In.xslice (h : v.In w) : ∃ p c, v.xa.val v.xs.length = .slice p v.xs.length c := by
 have hx := ((Exp.in_iff w v).1 h).2.2.2.1
 cases ha : v.xa with
 | no =>
  rw [ha] at hx; have : v.xs.length = 0 := by simpa [Sl.lies] using hx
  exact ⟨none, 0,by simp [Sl.val,this]⟩
 | odd a =>
  rw [ha] at hx; have : v.xs.length = 0 := by simpa [Sl.lies] using hx
  exact ⟨some a, 0,by simp [Sl.val,this]⟩
 | at_ b o cap => exact ⟨_,_,rfl⟩
inductive XItems (w : World) (v : Exp) : Prop where
 | none (p : Option Addr) (h1 : v.xa.val v.xs.length = .slice p 0 0) (h2 : v.xs = [])
 | some (b o cap : Nat) (h1 : v.xa.val v.xs.length = .slice (some ⟨b,o,Option.none⟩) v.xs.length cap) (h2 : v.xs.length <= cap) (h3 : cap <= 9223372036854775807) (h4 : ∀ i (h : i < v.xs.length),PExp w b (o + i * 10) v.xs[i])
theorem Exp.In.items (h : v.In w) : XItems w v := by
 rw [Exp.in_iff] at h; obtain ⟨_,_,_,hx,hi⟩ := h
 cases ha : v.xa with
 | no =>
  rw [ha] at hx; exact .none Option.none (by simp [Sl.val,ha]) (by simpa [Sl.lies] using hx)
 | odd a =>
  rw [ha] at hx; exact .none (Option.some a) (by simp [Sl.val,ha]) (by simpa [Sl.lies] using hx)
 | at_ b o cap =>
  rw [ha] at hx; refine .some b o cap (by simp [Sl.val,ha]) hx.1 hx.2.1 (fun i hl => ⟨fun j hj => ?_,?_,hi _ (by simp)⟩)
  ·have := (hx.2.2 i hl j hj).1
   rw [<- Nat.add_assoc] at this; rw [this]
   simp [hl]
  ·exact (hx.2.2 i hl 0 (by omega)).2
inductive XNames (w : World) (v : Exp) : Prop where
 | none (p : Option Addr) (h1 : v.na.val v.ns.length = .slice p 0 0) (h2 : v.ns = [])
 | some (b o cap : Nat) (h1 : v.na.val v.ns.length = .slice (some ⟨b,o,Option.none⟩) v.ns.length cap) (h2 : v.ns.length <= cap) (h3 : cap <= 9223372036854775807) (h4 : ∀ i (h : i < v.ns.length),w.cell? ⟨b,o + i,Option.none⟩ = Option.some (.string v.ns[i]))
theorem Exp.In.names (h : v.In w) : XNames w v := by
 rw [Exp.in_iff] at h; obtain ⟨_,_,hx,_,hi⟩ := h
 cases ha : v.na with
 | no =>
  rw [ha] at hx; exact .none Option.none (by simp [Sl.val,ha]) (by simpa [Sl.lies] using hx)
 | odd a =>
  rw [ha] at hx; exact .none (Option.some a) (by simp [Sl.val,ha]) (by simpa [Sl.lies] using hx)
 | at_ b o cap =>
  rw [ha] at hx; refine .some b o cap (by simp [Sl.val,ha]) hx.1 hx.2.1 (fun i hl => ?_)
  have := (hx.2.2 i hl 0 (by omega)).1
  simp at this
  rw [this]
  simp [hl]
end
theorem Exp.In.val {w : World} {v : Exp} (h : v.In w) : v.v.In w := ((Exp.in_iff w v).1 h).2.1
theorem PExp.val {w : World} {b o : Nat} {v : Exp} (h : PExp w b o v) : PVal w b (o + 2) v.v := by
 refine ⟨fun j hj => ?_,h.2.1,h.2.2.val⟩
 rw [Nat.add_assoc,h.1 (2 + j) (by omega)]
 have : j = 0 \/ j = 1 \/ j = 2 \/ j = 3 \/ j = 4 \/ j = 5 := by omega
 rcases this with rfl | rfl | rfl | rfl | rfl | rfl <;> rfl
theorem XNamesAt.of {w : World} {v : Exp} (h : v.In w) : NamesAt w (v.na.val v.ns.length) v.ns := by
 have hx := ((Exp.in_iff w v).1 h).2.2.1
 cases ha : v.na with
 | no =>
  rw [ha] at hx; have : v.ns.length = 0 := by simpa [Sl.lies] using hx
  exact .none Option.none (by simp [Sl.val]) (by simpa using this)
 | odd a =>
  rw [ha] at hx; have : v.ns.length = 0 := by simpa [Sl.lies] using hx
  exact .none (Option.some a) (by simp [Sl.val]) (by simpa using this)
 | at_ b o cap =>
  rw [ha] at hx; refine .some b o cap rfl hx.1 hx.2.1 ?_ (fun i hl => ?_)
  ·rcases Nat.eq_zero_or_pos v.ns.length with h0 | h0
   ·exact .inl h0
   ·exact .inr (hx.2.2 0 h0 0 (by omega)).2
  ·have := (hx.2.2 i hl 0 (by omega)).1
   simpa using this
theorem xitems_at {w : World} {v : Exp} (h : v.In w) : ∃ p c, v.xa.val v.xs.length = .slice p v.xs.length c /\ ∀ i (hi : i < v.xs.length), ∃ b o, p = some ⟨b, o, none⟩ /\ PExp w b (o + i * 10) (v.xs[i]'hi) /\ v.xs.length <= c := by
 rcases h.items with ⟨pz,h1,h2⟩ | ⟨b,o,cap,h1,h2,h3,h4⟩
 ·exact ⟨pz, 0,by rw [h1,h2]; rfl,fun i hi => by rw [h2] at hi; simp at hi⟩
 ·exact ⟨_,cap,h1,fun i hi => ⟨b,o,rfl,h4 i hi,h2⟩⟩
end Go.Proofs.YtaamihdibpioaaaGreat
namespace Go.Proofs.YtaamihdibpioaaaGreat
open Go.RowKit
mutual
def Exp.count : Exp -> Nat -> Nat
 | .mk _ _ _ _ _ _ xs,n => Exp.countAll xs (n + 1)
def Exp.countAll : List Exp -> Nat -> Nat
 | [],n => n
 | x :: xs,n => if 500 <= n then n else Exp.countAll xs (x.count n)
end
theorem Exp.count_eq (v : Exp) (n : Nat) : v.count n = Exp.countAll v.xs (n + 1) := by cases v; simp [Exp.count,Exp.xs]
theorem Exp.count_le : ∀ (d : Nat) (v : Exp) (n : Nat), v.sz <= d -> n < 500 -> n < v.count n /\ v.count n <= 500
 | 0,v,n,hd,_ => by rw [Exp.sz_eq] at hd; omega
 | d + 1, v, n, hd, hn => by
  have key : ∀ (xs : List Exp) (m : Nat), (∀ x, x ∈ xs -> x.sz <= d) -> m <= 500 -> m <= Exp.countAll xs m /\ Exp.countAll xs m <= 500 := by
   intro xs
   induction xs with
   | nil => intro m _ hm; simp [Exp.countAll]; exact hm
   | cons x xs ih =>
    intro m hx hm; simp only [Exp.countAll]
    split
    ·omega
    ·have h1 := Exp.count_le d x m (hx x (by simp)) (by omega)
     have h2 := ih (x.count m) (fun y hy => hx y (by simp [hy])) h1.2
     omega
  rw [Exp.count_eq]; have := key v.xs (n + 1) (fun x hx => by have := Exp.size_mem hx; omega) (by omega)
  omega
theorem Exp.countAll_ge {xs : List Exp} {m : Nat} (h : 500 <= m) : Exp.countAll xs m = m := by
 cases xs with
 | nil => simp [Exp.countAll]
 | cons x xs => simp [Exp.countAll,h]
theorem xcounted_any : ∀ (d : Nat) (v : Exp) (b o n : Nat) (w : World), v.sz <= d -> n < 500 -> PExp w b o v ->
  Calls Tryz.prog 139 #[.pointer (some ⟨b,o,none⟩), .int .i64 n] w fun e w' => e = .returned (.int .i64 ((v.count n : Nat) : Int)) /\ w = w'
 | 0,v,b,o,n,w,hd,_,_ => by rw [Exp.sz_eq] at hd; omega
 | d + 1, v, b, o, n, w, hd, hn, hp => by
  have c5 := hp.c9; have hw : IntKind.i64.wrap ((n : Int) + 1) = (n : Int) + 1 := IntWalk.i64_in _ (by omega)
  rcases hp.in.items with ⟨pz,h1,h2⟩ | ⟨xb,xo,cap,h1,h2,h3,h4⟩
  ·rw [h1] at c5
   have HE : Hid (v.count n = n + 1) := gh (by rw [Exp.count_eq,h2]; simp [Exp.countAll])
   clear h1 h2 hp
   go_enter Tryz.func139,Tryz.ntmps139
   go_wp2_with fail
   go_loopw [1, 13] (fun nv iv wr => nv = .int .i64 ((n : Int) + 1) /\ iv = .int .i64 0 /\ wr = w) (fun _ _ _ => 0)
   case atStart => exact ⟨rfl,rfl,rfl⟩
   case round =>
    obtain ⟨rfl,rfl,rfl⟩ := hrel
    go_wp2
    go_ret
    exact ⟨by rw [HE.o]; simp,rfl⟩
  ·rw [h1] at c5
   obtain ⟨L,hL⟩ := gXe (v.xs.length); rw [<- hL] at h2 c5; have HL := gh hL; have HC := gh (Exp.count_eq v n); have H4 := gh h4; have hmem : ∀ x,x ∈ v.xs -> x.sz <= d := fun x hx => by have := Exp.size_mem hx; omega
   have HM := gh hmem; clear h1 hL h4 hmem hp
   go_enter Tryz.func139,Tryz.ntmps139
   go_wp2_with fail
   go_loopw [1, 13] (fun nv iv wr => ∃ i m : Nat,nv = .int .i64 (m : Int) /\ iv = .int .i64 (i : Int) /\ i <= L /\ m <= 500 /\ Hid (Exp.countAll (v.xs.drop i) m = v.count n) /\ wr = w) (fun _ iv _ => L - (intOf iv).toNat)
   case atStart => exact ⟨0,n + 1,by simp,rfl,by omega,by omega,gh (by rw [HC.o]; rfl),rfl⟩
   case round =>
    obtain ⟨i,m,rfl,rfl,hi,hm,HR,rfl⟩ := hrel
    by_cases hlt : i < L
    ·have hil : i < v.xs.length := by rw [<- HL.o]; exact hlt
     by_cases h500 : 500 <= m
     ·have HE : Hid (v.count n = m) := gh (by rw [<- HR.o, Exp.countAll_ge h500])
      go_wp2
      go_ret
      exact ⟨by rw [HE.o]; rfl,rfl⟩
     ·have ih := xcounted_any d (v.xs[i]'hil) xb (xo + i * 10) m wr (HM.o _ (by simp)) (by omega) (H4.o i hil)
      have hcl := Exp.count_le d (v.xs[i]'hil) m (HM.o _ (by simp)) (by omega)
      have HR2 : Hid (Exp.countAll (v.xs.drop (i + 1)) ((v.xs[i]'hil).count m) = v.count n) := gh (by
       rw [<- HR.o,drop_cons hil]; simp [Exp.countAll,h500])
      obtain ⟨q,hq⟩ := gXe ((v.xs[i]'hil).count m); rw [<- hq] at ih hcl HR2; have IH := gh ih; clear ih HR hq hil; obtain ⟨hcl1,hcl2⟩ := hcl
      go_wp2_with fail
      refine IH.o.mono ?_; rintro e w' ⟨rfl,rfl⟩
      go_wp2
      go_roundw
      case rel => exact ⟨i + 1,q,rfl,by go_num,by omega,by omega,HR2,trivial⟩
      case measure => simp [intOf]; omega
    ·have HE : Hid (v.count n = m) := gh (by rw [<- HR.o, List.drop_eq_nil_of_le (by rw [<- HL.o]; omega)]; simp [Exp.countAll])
     go_wp2
     go_ret
     exact ⟨by rw [HE.o]; rfl,rfl⟩
end Go.Proofs.YtaamihdibpioaaaGreat
