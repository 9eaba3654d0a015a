/- The document's answers: names. -/
import Derived.Test.YtaamihdibpioaaaGreatJpM18
import Derived.Deep.DeepCutAuto
set_option maxRecDepth 100000
set_option maxHeartbeats 40000000
namespace Go.Proofs.YtaamihdibpioaaaGreat
open Go.RowKit
theorem rname_any (s : ByteArray) (w : World) (hs : strok s) : Calls Tryz.prog 184 #[.string s] w fun e w' => e = .returned (.bool (nameB s)) /\ w = w' := by
 unfold strok at hs
 by_cases h0 : s.size < 1
 ·have hn : ¬ IsName s := fun h => by have := h.1; omega
  have i1 : decide ((s.size : Int) < 1) = true := by simp; omega
  rw [nameB_false hn]; clear hn
  go_enter Tryz.func184,Tryz.ntmps184
  go_wp2
  go_ret
  exact ⟨rfl,rfl⟩
 ·have i0 : decide ((s.size : Int) < 1) = false := by simp; omega
  by_cases h30 : 30 < s.size
  ·have hn : ¬ IsName s := fun h => by have := h.2.1; omega
   have i1 : decide ((30 : Int) < (s.size : Int)) = true := by simp; omega
   rw [nameB_false hn]; clear hn
   go_enter Tryz.func184,Tryz.ntmps184
   go_wp2
   go_ret
   exact ⟨rfl,rfl⟩
  ·have i1 : decide ((30 : Int) < (s.size : Int)) = false := by simp; omega
   go_enter Tryz.func184,Tryz.ntmps184
   go_wp2_with fail
   go_loopw [3] (fun iv wr => ∃ i : Nat,iv = .int .i64 (i : Int) /\ i <= s.size /\ Hid (∀ j,j < i -> okAt s j) /\ wr = w) (fun iv _ => s.size - (intOf iv).toNat)
   case atStart => exact ⟨0,rfl,by omega,gh (fun j hj => absurd hj (by omega)),rfl⟩
   case round =>
    obtain ⟨i,rfl,hi,HR,rfl⟩ := hrel
    by_cases hlt : i < s.size
    ·have hil : (i : Int) < (s.size : Int) := by omega
     have hi0 : (0 : Int) <= (i : Int) := by omega
     have hlt1 : decide ((i : Int) < (s.size : Int)) = true := by simp; omega
     go_upto_region 7 with fail
     obtain ⟨c,hc⟩ := gXe (s[i].toNat); rw [<- hc]; have hc8 : c < 256 := by rw [hc]; exact UInt8.toNat_lt _
     have hok : okAt s i ↔ (97 <= c /\ c <= 122) \/ (0 < i /\ (c = 95 \/ (48 <= c /\ c <= 57))) := by
      have e : (s.data.toList.getD i 0).toNat = c := by rw [hc]; simp [List.getD,List.getElem?_eq_getElem (show i < s.data.toList.length from by simpa using hlt)]; rfl
      unfold okAt; rw [e]
     have HOK := gh hok; clear hok hc
     by_cases h95 : c = 95
     ·subst h95
      go_wp2
      all_goals
       first
       | (go_roundw
          case rel => exact ⟨i + 1, by go_num, by omega, gh (fun j hj => by
           by_cases e : j = i
           ·rw [e]; exact HOK.o.2 (by omega)
           ·exact HR.o j (by omega)),trivial⟩
          case measure => simp [intOf]; omega)
       | (have hn : ¬ IsName s := fun h => by have := HOK.o.1 (h.2.2 i hlt); omega
          have HN : Hid (nameB s = false) := gh (nameB_false hn)
          go_ret
          exact ⟨by rw [HN.o]; rfl,rfl⟩)
     ·have t95 : ((c : Int) != 95) = true := by rw [bne_iff_ne]; omega
      go_wp2
      all_goals
       first
       | (go_roundw
          case rel => exact ⟨i + 1, by go_num, by omega, gh (fun j hj => by
           by_cases e : j = i
           ·rw [e]; exact HOK.o.2 (by omega)
           ·exact HR.o j (by omega)),trivial⟩
          case measure => simp [intOf]; omega)
       | (have hn : ¬ IsName s := fun h => by have := HOK.o.1 (h.2.2 i hlt); omega
          have HN : Hid (nameB s = false) := gh (nameB_false hn)
          go_ret
          exact ⟨by rw [HN.o]; rfl,rfl⟩)
    ·have hn : IsName s := ⟨by omega, by omega, fun j hj => HR.o j (by omega)⟩
     have HN : Hid (nameB s = true) := gh (nameB_true hn); clear hn
     go_wp2
     go_ret
     exact ⟨by rw [HN.o]; rfl,rfl⟩
def BoolDrew (b : Bool) (w : World) (e : Ending) (w' : World) : Prop := e = .returned (.bool b) /\ ∃ k,w' = w.drewN k
theorem rnames_any (a : Value) (ns : List ByteArray) (n : Int) (w : World) (ha : NamesAt w a ns) (hn : ns.length <= 8796093021952) (hs : ∀ s, s ∈ ns -> strok s) :
  Calls Tryz.prog 188 #[a, .int .i64 n] w fun e w' => BoolDrew (risingB ns && ((ns.length : Int) == n)) w e w' := by
 obtain ⟨p,c,rfl,hp⟩ := names_in ha; obtain ⟨L,hL⟩ := gXe (ns.length); rw [<- hL] at hn; rw [<- hL]; have HL := gh hL; have HP := gh hp; have HS := gh hs; clear hL hp ha hs
 go_enter Tryz.func188,Tryz.ntmps188
 go_wp2_with fail
 go_loopw [5] (fun iv wr => ∃ i k : Nat,iv = .int .i64 (i : Int) /\ i <= L /\ Hid (∀ j,j < i -> RisAt ns j) /\ Hid (wr = w.drewN k)) (fun iv _ => L - (intOf iv).toNat)
 case atStart => exact ⟨0, 0,rfl,by omega,gh (fun j hj => absurd hj (by omega)),gh rfl⟩
 case round =>
  obtain ⟨i,k,rfl,hi,HR,HK⟩ := hrel
  by_cases hlt : i < L
  ·have hil : i < ns.length := by rw [<- HL.o]; exact hlt
   obtain ⟨pb,po,rfl,hpb,hpc,hc⟩ := HP.o i hil; obtain ⟨s,hs⟩ := gXe (ns.getD i ByteArray.empty); rw [<- hs] at hpc; rw [<- HL.o] at hc; have e1 : wr.cell? ⟨pb,po + i,none⟩ = some (.string s) := by rw [HK.o]; exact hpc
   have hst : strok s := HS.o s (by rw [hs]; simp [hil])
   have hri : RisAt ns i ↔ nameB s = true /\ (i = 0 \/ Op.bytesLess (ns.getD (i - 1) ByteArray.empty).toList s.toList = true) := by unfold RisAt; rw [<- hs]
   have HRI := gh hri; have HNM := gh (fun W : World => rname_any s W hst)
   have hk0 : (0 : Int) <= (i : Int) := by omega
   have hk1 : (i : Int) < (L : Int) := by omega
   clear hpc hs hst hri
   cases hb : nameB s with
   | false =>
    have HF : Hid (risingB ns = false) := gh (risingB_false hil (fun h => by have := (HRI.o.1 h).1; rw [hb] at this; cases this))
    simp only [hb] at HNM; clear hb hil
    go_wp2_with fail
    go_quiet ((go_at_call 184; exact quiet_left (HNM.o _)))
    go_wp2
    go_ret
    exact ⟨by rw [HF.o]; rfl,k + nq,by rw [HK.o,World.drewN_drewN]⟩
   | true =>
    simp only [hb] at HNM
    by_cases h0 : i = 0
    ·have HR2 : Hid (∀ j, j < i + 1 -> RisAt ns j) := gh (fun j hj => by obtain rfl : j = i := by omega
                                                                         exact HRI.o.2 ⟨hb, .inl h0⟩)
     have j0 : decide ((0 : Int) < (i : Int)) = false := by simp; omega
     have j1 : decide (0 < i) = false := by simp; omega
     clear hb hil h0
     go_wp2_with fail
     go_quiet ((go_at_call 184; exact quiet_left (HNM.o _)))
     go_wp2
     exact ⟨⟨i + 1,k + nq,by go_num,by omega,HR2,gh (by rw [HK.o,World.drewN_drewN])⟩,by simp [intOf]; omega⟩
    ·have hil1 : i - 1 < ns.length := by omega
     obtain ⟨pb',po',hpe,_,hpc',_⟩ := HP.o (i - 1) hil1; injection hpe with hpe; injection hpe with q1 q2; subst q1 q2; obtain ⟨r,hr⟩ := gXe (ns.getD (i - 1) ByteArray.empty); rw [<- hr] at hpc' HRI; have e2 : wr.cell? ⟨pb,po + (i - 1),none⟩ = some (.string r) := by rw [HK.o]; exact hpc'
     have j0 : decide ((0 : Int) < (i : Int)) = true := by simp; omega
     have j1 : decide (0 < i) = true := by simp; omega
     have hw1 : IntKind.i64.wrap ((i : Int) - 1) = ((i - 1 : Nat) : Int) := by rw [IntWalk.i64_in _ (by omega)]; omega
     have hw2 : (0 : Int) <= ((i - 1 : Nat) : Int) := by omega
     have hw3 : ((i - 1 : Nat) : Int) < (L : Int) := by omega
     have hw4 : i - 1 < L := by omega
     clear hpc' hr hil1
     cases hl : Op.bytesLess r.toList s.toList with
     | true =>
      have HR2 : Hid (∀ j, j < i + 1 -> RisAt ns j) := gh (fun j hj => by
       by_cases e : j = i
       ·rw [e]; exact HRI.o.2 ⟨hb, .inr hl⟩
       ·exact HR.o j (by omega))
      clear hb hil
      go_wp2_with fail
      go_quiet ((go_at_call 184; exact quiet_left (HNM.o _)))
      go_wp2
      exact ⟨⟨i + 1,k + nq,by go_num,by omega,HR2,gh (by rw [HK.o,World.drewN_drewN])⟩,by simp [intOf]; omega⟩
     | false =>
      have HF : Hid (risingB ns = false) := gh (risingB_false hil (fun h => by
       rcases (HRI.o.1 h).2 with h' | h'
       ·exact h0 h'
       ·rw [hl] at h'; cases h'))
      clear hb hil
      go_wp2_with fail
      go_quiet ((go_at_call 184; exact quiet_left (HNM.o _)))
      go_wp2
      go_ret
      exact ⟨by rw [HF.o]; rfl,k + nq,by rw [HK.o,World.drewN_drewN]⟩
  ·have HT : Hid (risingB ns = true) := gh (risingB_true (fun j hj => HR.o j (by rw [<- HL.o] at hj; omega)))
   go_wp2
   go_ret
   exact ⟨by rw [HT.o]; rfl,k,HK.o⟩
end Go.Proofs.YtaamihdibpioaaaGreat
namespace Go.Proofs.YtaamihdibpioaaaGreat
open Go.RowKit
theorem bcell {W w1 : World} (hb : Below W.heap.size W w1) : (∀ b o, b < W.heap.size -> w1.cell? ⟨b, o, none⟩ = W.cell? ⟨b, o, none⟩) /\ (∀ b o, b < W.heap.size -> w1.frozen? ⟨b, o, none⟩ = W.frozen? ⟨b, o, none⟩) :=
 ⟨fun b o h => hb.cell (p := ⟨b,o,none⟩) h,fun b o h => hb.frozen (p := ⟨b,o,none⟩) h⟩
theorem fsame_ford {a b : Nat} (ha : a < 18446744073709551616) (hb : b < 18446744073709551616) : fsame a b = (ford a b == 0) := by
 unfold fsame; rw [Bool.eq_iff_iff,decide_eq_true_eq,beq_iff_eq]; exact (ford_zero ha hb).symm
theorem rzero_agg (k n : Int) (f : Nat) (s : ByteArray) (p : Option Addr) (a c : Nat) (p' : Option Addr) (a' c' : Nat) (w : World) :
  Calls Tryz.prog 187 #[.agg #[.int .i64 k, .int .i64 n, .float .f64 f, .string s, .slice p a c, .slice p' a' c']] w fun e w' => BoolBelow (fsame f 0) w e w' := by
 have HS := gh (fun W : World => rsame_any f 0 W)
 go_enter Tryz.func187,Tryz.ntmps187
 go_wp2_with fail
 refine (HS.o _).mono ?_; rintro e w' ⟨rfl,rfl⟩
 go_wp2
 go_ret
 exact ⟨rfl, (Below.refl _ _).alloc (Nat.le_refl _) _⟩
theorem rright_leaf (v : Val) (far : Nat) (w : World) (hf1 : 1 <= far) (hf2 : far <= 12) (h : v.In w) (hk : v.k ≠ 5 /\ v.k ≠ 6) : Calls Tryz.prog 156 #[v.agg, .int .i64 far] w fun e w' => BoolBelow (v.rightB (13 - far)) w e w' := by
 have i1 : decide ((far : Int) < 1) = false := by simp; omega
 have e := Val.rightB_eq v (13 - far); rw [if_neg (by omega)] at e
 obtain ⟨W,hW⟩ := gXe (w.alloc (.cells v.cells.toArray 37)); have hBW : Below w.heap.size w W := by rw [hW]; exact (Below.refl _ w).alloc (Nat.le_refl _) _
 have hb0 : Blk W w.heap.size 37 v.cells.toArray := by rw [hW]; exact Blk.new w 37 _
 obtain ⟨p4,q4,e4⟩ := h.nslice; obtain ⟨p5,q5,e5⟩ := h.xslice
 have hbare : ∀ (x y z t : Bool), bareB v x y z t = ((x || (v.n == 0)) && (y || fsame v.f 0) && (z || v.s.toList.isEmpty) && (t || (decide (v.ns.length = 0) && decide (v.xs.length = 0)))) := fun x y z t => by
  rw [fsame_ford h.ok.2.2.1 (by omega)]; rfl
 have hso := h.ok.2.2.2.1; have hnl := h.ok.2.2.2.2.1; have hxl := h.ok.2.2.2.2.2.1; have hno := h.ok.2.1; unfold strok at hso; unfold i64r at hno; obtain ⟨hn1,hn2⟩ := hno; simp only [hbare] at e; unfold Val.cells at hW hb0; unfold Val.agg; rw [e4,e5] at hW hb0 ⊢; obtain ⟨R,hR⟩ := gXe (v.rightB (13 - far)); obtain ⟨K,hK⟩ := gXe (v.k); obtain ⟨N,hN⟩ := gXe (v.n); obtain ⟨F,hF⟩ := gXe (v.f); obtain ⟨T,hT⟩ := gXe (v.s); obtain ⟨L,hL⟩ := gXe (v.ns.length); obtain ⟨M,hM⟩ := gXe (v.xs.length); rw [<- hR, <- hK, <- hN, <- hF, <- hT, <- hL, <- hM] at e; rw [<- hR]; rw [<- hK] at hk; rw [<- hK, <- hN, <- hF, <- hT, <- hL, <- hM] at hW hb0 ⊢; rw [<- hN] at hn1 hn2; rw [<- hT] at hso; rw [<- hL] at hnl; rw [<- hM] at hxl; have HZ := gh (fun (k n : Int) (s : ByteArray) (p : Option Addr) (a c : Nat) (p' : Option Addr) (a' c' : Nat) (W : World) => rzero_agg k n F s p a c p' a' c' W)
 obtain ⟨Z,hZ⟩ := gXe (fsame F 0); simp only [<- hZ] at HZ e; have HE := gh e; have HW := gh hW; have HBW := gh hBW; have HB0 := gh hb0; clear e hbare hR hK hN hF hT hL hM h e4 e5 hZ hb0 hBW hW; have hLn := int_eq0 L; have hMn := int_eq0 M; clear HB0 HW HBW
 rcases (by omega : K = 1 \/ K = 2 \/ K = 3 \/ K = 4 \/ ¬ (1 <= K /\ K <= 4)) with h1 | h1 | h1 | h1 | h1
 ·subst h1
  have hz2 : N / 2 = 0 ↔ (N = 0 \/ N = 1) := by omega
  go_enter Tryz.func156,Tryz.ntmps156
  go_wp2_with (go_at_call 187; refine (HZ.o _ _ _ _ _ _ _ _ _ _).mono ?_; rintro e w1 ⟨rfl,hb1⟩; obtain ⟨hc,hfz⟩ := bcell hb1)
  all_goals
   go_ret
   refine ⟨ret_bool (a := _) ?_,by first | exact (Below.refl _ _).alloc (Nat.le_refl _) _ | exact ((Below.refl _ _).alloc (Nat.le_refl _) _).trans (hb1.mono (by simp))⟩
   rw [HE.o]; clear HE HZ
   simp_all
   try (first | omega | (rw [Bool.eq_iff_iff,beq_iff_eq,beq_iff_eq]; omega))
 ·subst h1
  have hz2 : N / 2 = 0 ↔ (N = 0 \/ N = 1) := by omega
  go_enter Tryz.func156,Tryz.ntmps156
  go_wp2_with (go_at_call 187; refine (HZ.o _ _ _ _ _ _ _ _ _ _).mono ?_; rintro e w1 ⟨rfl,hb1⟩; obtain ⟨hc,hfz⟩ := bcell hb1)
  all_goals
   go_ret
   refine ⟨ret_bool (a := _) ?_,by first | exact (Below.refl _ _).alloc (Nat.le_refl _) _ | exact ((Below.refl _ _).alloc (Nat.le_refl _) _).trans (hb1.mono (by simp))⟩
   rw [HE.o]; clear HE HZ
   simp_all
   try (first | omega | (rw [Bool.eq_iff_iff,beq_iff_eq,beq_iff_eq]; omega))
 ·subst h1
  have hz2 : N / 2 = 0 ↔ (N = 0 \/ N = 1) := by omega
  go_enter Tryz.func156,Tryz.ntmps156
  go_wp2_with (go_at_call 187; refine (HZ.o _ _ _ _ _ _ _ _ _ _).mono ?_; rintro e w1 ⟨rfl,hb1⟩; obtain ⟨hc,hfz⟩ := bcell hb1)
  all_goals
   go_ret
   refine ⟨ret_bool (a := _) ?_,by first | exact (Below.refl _ _).alloc (Nat.le_refl _) _ | exact ((Below.refl _ _).alloc (Nat.le_refl _) _).trans (hb1.mono (by simp))⟩
   rw [HE.o]; clear HE HZ
   simp_all
   try (first | omega | (rw [Bool.eq_iff_iff,beq_iff_eq,beq_iff_eq]; omega))
 ·subst h1
  have hz2 : N / 2 = 0 ↔ (N = 0 \/ N = 1) := by omega
  go_enter Tryz.func156,Tryz.ntmps156
  go_wp2_with (go_at_call 187; refine (HZ.o _ _ _ _ _ _ _ _ _ _).mono ?_; rintro e w1 ⟨rfl,hb1⟩; obtain ⟨hc,hfz⟩ := bcell hb1)
  all_goals
   go_ret
   refine ⟨ret_bool (a := _) ?_,by first | exact (Below.refl _ _).alloc (Nat.le_refl _) _ | exact ((Below.refl _ _).alloc (Nat.le_refl _) _).trans (hb1.mono (by simp))⟩
   rw [HE.o]; clear HE HZ
   simp_all
   try (first | omega | (rw [Bool.eq_iff_iff,beq_iff_eq,beq_iff_eq]; omega))
 ·have j1 : (K == 1) = false := by simp; omega
  have j2 : (K == 2) = false := by simp; omega
  have j3 : (K == 3) = false := by simp; omega
  have j4 : (K == 4) = false := by simp; omega
  have j5 : (K == 5) = false := by simp; omega
  have j6 : (K == 6) = false := by simp; omega
  have HE2 : Hid (R = false) := gh (by rw [HE.o,if_neg (by omega),if_neg (by omega),if_neg (by omega),if_neg (by omega),if_neg (by omega),if_neg (by omega)])
  clear HE HZ
  go_enter Tryz.func156,Tryz.ntmps156
  go_wp2_with fail
  all_goals
   go_ret
   exact ⟨by rw [HE2.o]; rfl, (Below.refl _ _).alloc (Nat.le_refl _) _⟩
-- TAIL
theorem rright_list (v : Val) (far : Nat) (w : World) (hf1 : 1 <= far) (hf2 : far <= 12) (h : v.In w) (hk : v.k = 5)
  (ih : ∀ x,x ∈ v.xs -> ∀ w : World,x.In w -> Calls Tryz.prog 156 #[x.agg, .int .i64 ((far : Int) - 1)] w fun e w' => BoolBelow (x.rightB (13 - far + 1)) w e w') :
  Calls Tryz.prog 156 #[v.agg, .int .i64 far] w fun e w' => BoolBelow (v.rightB (13 - far)) w e w' := by
 have i1 : decide ((far : Int) < 1) = false := by simp; omega
 have e := Val.rightB_eq v (13 - far); rw [if_neg (by omega),if_neg (by omega),if_neg (by omega),if_neg (by omega),if_neg (by omega),if_pos hk] at e
 have hbare : bareB v false false false true = ((v.n == 0) && fsame v.f 0 && v.s.toList.isEmpty) := by
  rw [fsame_ford h.ok.2.2.1 (by omega)]; simp [bareB]
 rw [hbare] at e; obtain ⟨p4,q4,e4⟩ := h.nslice; obtain ⟨p5,q5,e5⟩ := h.xslice; have hnl := h.ok.2.2.2.2.1; have hxl := h.ok.2.2.2.2.2.1; have hns := h.ok.2.2.2.2.2.2; have hNA := fun (W : World) (hb : Below w.heap.size w W) => NamesAt.of (h.below hb)
 unfold Val.agg; simp only [e4] at hNA; rw [e4,e5,hk]; obtain ⟨R,hR⟩ := gXe (v.rightB (13 - far)); obtain ⟨N,hN⟩ := gXe (v.n); obtain ⟨F,hF⟩ := gXe (v.f); obtain ⟨T,hT⟩ := gXe (v.s); obtain ⟨L,hL⟩ := gXe (v.ns.length); obtain ⟨M,hM⟩ := gXe (v.xs.length); rw [<- hR, <- hN, <- hF, <- hT, <- hL] at e; rw [<- hR, <- hN, <- hF, <- hT, <- hL, <- hM]; simp only [<- hL] at hNA; rw [<- hL] at hnl; rw [<- hM] at hxl e5; have HZ := gh (fun (W : World) => rzero_agg 5 N F T p4 L q4 p5 M q5 W)
 obtain ⟨Z,hZ⟩ := gXe (fsame F 0); simp only [<- hZ] at HZ e; have HE := gh e; have HIN := gh h; have HIH := gh ih; have HM := gh hM; have HL := gh hL; have E5 := gh e5; have HNA := gh hNA; have HNS := gh hns; clear e hbare hR hN hF hT hL hM h e4 e5 hZ ih hk hNA hns
 cases Z with
 | false =>
  have HF : Hid (R = false) := gh (by rw [HE.o]; simp)
  clear HE
  go_enter Tryz.func156,Tryz.ntmps156
  try simp only [lapp_cons,lapp_nil]
  go_upto_region 1 with fail
  obtain ⟨W,hW⟩ := gXe (w.alloc (.cells #[.int .i64 5, .int .i64 N, .float .f64 F, .string T, .slice p4 L q4, .slice p5 M q5] 37)); have hBW : Below w.heap.size w W := by rw [hW]; exact (Below.refl _ w).alloc (Nat.le_refl _) _
  have hb0 : Blk W w.heap.size 37 #[.int .i64 5, .int .i64 N, .float .f64 F, .string T, .slice p4 L q4, .slice p5 M q5] := by rw [hW]; exact Blk.new w 37 _
  rw [<- hW]; have a0 := hb0.cell 0; have a1 := hb0.cell 1; have a2 := hb0.cell 2; have a3 := hb0.cell 3; have a4 := hb0.cell 4; have a5 := hb0.cell 5; simp only [gX0,gX1,gX2] at a0 a1 a2 a3 a4 a5; have HBW := gh hBW; have HB0 := gh hb0; clear hW hBW hb0
  go_cut [5] (fun s5 wx => (∃ b : Bool,s5 = .bool b) /\ W = wx)
  case first =>
   go_wp2_with fail
   all_goals
    go_meet
    exact ⟨⟨_,rfl⟩,rfl⟩
  case rest =>
  obtain ⟨⟨pb,rfl⟩,rfl⟩ := hcut
  go_wp2_with fail
  refine (HZ.o _).mono ?_; rintro e w1 ⟨rfl,hb1⟩; have HBB := gh (HBW.o.trans (hb1.mono HBW.o.size)); have HBL := gh (HB0.o.below hb1 HB0.o.lt); clear a0 a1 a2 a3 a4 a5 hb1 HB0 HBW; have a0 := HBL.o.cell 0; have a1 := HBL.o.cell 1; have a2 := HBL.o.cell 2; have a3 := HBL.o.cell 3; have a4 := HBL.o.cell 4; have a5 := HBL.o.cell 5; simp only [gX0,gX1,gX2] at a0 a1 a2 a3 a4 a5
  go_wp2_with fail
  go_ret
  exact ⟨by rw [HF.o]; rfl,HBB.o⟩
 | true =>
 by_cases h0 : N = 0
 case neg =>
  have HF : Hid (R = false) := gh (by rw [HE.o]; simp [h0])
  have t1 : (N != 0) = true := by simpa using h0
  clear HE h0
  go_enter Tryz.func156,Tryz.ntmps156
  try simp only [lapp_cons,lapp_nil]
  go_upto_region 1 with fail
  obtain ⟨W,hW⟩ := gXe (w.alloc (.cells #[.int .i64 5, .int .i64 N, .float .f64 F, .string T, .slice p4 L q4, .slice p5 M q5] 37)); have hBW : Below w.heap.size w W := by rw [hW]; exact (Below.refl _ w).alloc (Nat.le_refl _) _
  have hb0 : Blk W w.heap.size 37 #[.int .i64 5, .int .i64 N, .float .f64 F, .string T, .slice p4 L q4, .slice p5 M q5] := by rw [hW]; exact Blk.new w 37 _
  rw [<- hW]; have a0 := hb0.cell 0; have a1 := hb0.cell 1; have a2 := hb0.cell 2; have a3 := hb0.cell 3; have a4 := hb0.cell 4; have a5 := hb0.cell 5; simp only [gX0,gX1,gX2] at a0 a1 a2 a3 a4 a5; have HBW := gh hBW; have HB0 := gh hb0; clear hW hBW hb0
  go_cut [5] (fun s5 wx => (∃ b : Bool,s5 = .bool b) /\ W = wx)
  case first =>
   go_wp2_with fail
   all_goals
    go_meet
    exact ⟨⟨_,rfl⟩,rfl⟩
  case rest =>
  obtain ⟨⟨pb,rfl⟩,rfl⟩ := hcut
  go_wp2_with fail
  refine (HZ.o _).mono ?_; rintro e w1 ⟨rfl,hb1⟩; have HBB := gh (HBW.o.trans (hb1.mono HBW.o.size)); have HBL := gh (HB0.o.below hb1 HB0.o.lt); clear a0 a1 a2 a3 a4 a5 hb1 HB0 HBW; have a0 := HBL.o.cell 0; have a1 := HBL.o.cell 1; have a2 := HBL.o.cell 2; have a3 := HBL.o.cell 3; have a4 := HBL.o.cell 4; have a5 := HBL.o.cell 5; simp only [gX0,gX1,gX2] at a0 a1 a2 a3 a4 a5
  go_wp2_with fail
  go_ret
  exact ⟨by rw [HF.o]; rfl,HBB.o⟩
 subst h0
 by_cases h1 : T.toList = []
 case neg =>
  have HF : Hid (R = false) := gh (by rw [HE.o]; simp [h1])
  have h1' : T.toList.isEmpty = false := by simpa using h1
  clear HE
  go_enter Tryz.func156,Tryz.ntmps156
  try simp only [lapp_cons,lapp_nil]
  go_upto_region 1 with fail
  obtain ⟨W,hW⟩ := gXe (w.alloc (.cells #[.int .i64 5, .int .i64 0, .float .f64 F, .string T, .slice p4 L q4, .slice p5 M q5] 37)); have hBW : Below w.heap.size w W := by rw [hW]; exact (Below.refl _ w).alloc (Nat.le_refl _) _
  have hb0 : Blk W w.heap.size 37 #[.int .i64 5, .int .i64 0, .float .f64 F, .string T, .slice p4 L q4, .slice p5 M q5] := by rw [hW]; exact Blk.new w 37 _
  rw [<- hW]; have a0 := hb0.cell 0; have a1 := hb0.cell 1; have a2 := hb0.cell 2; have a3 := hb0.cell 3; have a4 := hb0.cell 4; have a5 := hb0.cell 5; simp only [gX0,gX1,gX2] at a0 a1 a2 a3 a4 a5; have HBW := gh hBW; have HB0 := gh hb0; clear hW hBW hb0
  go_cut [5] (fun s5 wx => (∃ b : Bool,s5 = .bool b) /\ W = wx)
  case first =>
   go_wp2_with fail
   all_goals
    go_meet
    exact ⟨⟨_,rfl⟩,rfl⟩
  case rest =>
  obtain ⟨⟨pb,rfl⟩,rfl⟩ := hcut
  go_wp2_with fail
  refine (HZ.o _).mono ?_; rintro e w1 ⟨rfl,hb1⟩; have HBB := gh (HBW.o.trans (hb1.mono HBW.o.size)); have HBL := gh (HB0.o.below hb1 HB0.o.lt); clear a0 a1 a2 a3 a4 a5 hb1 HB0 HBW; have a0 := HBL.o.cell 0; have a1 := HBL.o.cell 1; have a2 := HBL.o.cell 2; have a3 := HBL.o.cell 3; have a4 := HBL.o.cell 4; have a5 := HBL.o.cell 5; simp only [gX0,gX1,gX2] at a0 a1 a2 a3 a4 a5
  go_wp2_with fail
  go_ret
  exact ⟨by rw [HF.o]; rfl,HBB.o⟩
 by_cases h2 : L = 0
 case neg =>
  have HF : Hid (R = false) := gh (by rw [HE.o]; simp [h2])
  have t2 : decide ((0 : Int) < (L : Int)) = true := by simp; omega
  have t2' : decide (0 < L) = true := by simp; omega
  have h1' : T.toList.isEmpty = true := by simp [h1]
  clear HE h2
  go_enter Tryz.func156,Tryz.ntmps156
  try simp only [lapp_cons,lapp_nil]
  go_upto_region 1 with fail
  obtain ⟨W,hW⟩ := gXe (w.alloc (.cells #[.int .i64 5, .int .i64 0, .float .f64 F, .string T, .slice p4 L q4, .slice p5 M q5] 37)); have hBW : Below w.heap.size w W := by rw [hW]; exact (Below.refl _ w).alloc (Nat.le_refl _) _
  have hb0 : Blk W w.heap.size 37 #[.int .i64 5, .int .i64 0, .float .f64 F, .string T, .slice p4 L q4, .slice p5 M q5] := by rw [hW]; exact Blk.new w 37 _
  rw [<- hW]; have a0 := hb0.cell 0; have a1 := hb0.cell 1; have a2 := hb0.cell 2; have a3 := hb0.cell 3; have a4 := hb0.cell 4; have a5 := hb0.cell 5; simp only [gX0,gX1,gX2] at a0 a1 a2 a3 a4 a5; have HBW := gh hBW; have HB0 := gh hb0; clear hW hBW hb0
  go_cut [5] (fun s5 wx => (∃ b : Bool,s5 = .bool b) /\ W = wx)
  case first =>
   go_wp2_with fail
   all_goals
    go_meet
    exact ⟨⟨_,rfl⟩,rfl⟩
  case rest =>
  obtain ⟨⟨pb,rfl⟩,rfl⟩ := hcut
  go_wp2_with fail
  refine (HZ.o _).mono ?_; rintro e w1 ⟨rfl,hb1⟩; have HBB := gh (HBW.o.trans (hb1.mono HBW.o.size)); have HBL := gh (HB0.o.below hb1 HB0.o.lt); clear a0 a1 a2 a3 a4 a5 hb1 HB0 HBW; have a0 := HBL.o.cell 0; have a1 := HBL.o.cell 1; have a2 := HBL.o.cell 2; have a3 := HBL.o.cell 3; have a4 := HBL.o.cell 4; have a5 := HBL.o.cell 5; simp only [gX0,gX1,gX2] at a0 a1 a2 a3 a4 a5
  go_wp2_with fail
  go_ret
  exact ⟨by rw [HF.o]; rfl,HBB.o⟩
 have HE2 : Hid (R = Val.rightAll v.xs (13 - far + 1)) := gh (by rw [HE.o]; simp [h1,h2])
 have t2 : decide ((0 : Int) < (L : Int)) = false := by simp; omega
 have t2' : decide (0 < L) = false := by simp; omega
 have h1' : T.toList.isEmpty = true := by simp [h1]
 clear HE h2
 go_enter Tryz.func156,Tryz.ntmps156
 try simp only [lapp_cons,lapp_nil]
 go_upto_region 1 with fail
 obtain ⟨W,hW⟩ := gXe (w.alloc (.cells #[.int .i64 5, .int .i64 0, .float .f64 F, .string T, .slice p4 L q4, .slice p5 M q5] 37)); have hBW : Below w.heap.size w W := by rw [hW]; exact (Below.refl _ w).alloc (Nat.le_refl _) _
 have hb0 : Blk W w.heap.size 37 #[.int .i64 5, .int .i64 0, .float .f64 F, .string T, .slice p4 L q4, .slice p5 M q5] := by rw [hW]; exact Blk.new w 37 _
 rw [<- hW]; have a0 := hb0.cell 0; have a1 := hb0.cell 1; have a2 := hb0.cell 2; have a3 := hb0.cell 3; have a4 := hb0.cell 4; have a5 := hb0.cell 5; simp only [gX0,gX1,gX2] at a0 a1 a2 a3 a4 a5; have HBW := gh hBW; have HB0 := gh hb0; clear hW hBW hb0
 go_cut [5] (fun s5 wx => (∃ b : Bool,s5 = .bool b) /\ W = wx)
 case first =>
  go_wp2_with fail
  all_goals
   go_meet
   exact ⟨⟨_,rfl⟩,rfl⟩
 case rest =>
 obtain ⟨⟨pb,rfl⟩,rfl⟩ := hcut
 go_wp2_with fail
 refine (HZ.o _).mono ?_; rintro e w1 ⟨rfl,hb1⟩; have HBB := gh (HBW.o.trans (hb1.mono HBW.o.size)); have HBL := gh (HB0.o.below hb1 HB0.o.lt); clear a0 a1 a2 a3 a4 a5 hb1 HB0 HBW; have a0 := HBL.o.cell 0; have a1 := HBL.o.cell 1; have a2 := HBL.o.cell 2; have a3 := HBL.o.cell 3; have a4 := HBL.o.cell 4; have a5 := HBL.o.cell 5; simp only [gX0,gX1,gX2] at a0 a1 a2 a3 a4 a5
 go_wp2_with fail
 obtain ⟨pp,cc,ee,hx⟩ := items_at (HIN.o.below HBB.o); rw [<- HM.o,E5.o] at ee; injection ee with ee1 ee2 ee3; subst ee1 ee3; have HX := gh hx; clear hx ee2 a0 a1 a2 a3 a4 a5
 go_loopw [6] (fun iv wr => ∃ i : Nat,iv = .int .i64 (i : Int) /\ i <= M /\ Hid (Val.rightAll (v.xs.drop i) (13 - far + 1) = R) /\ Hid (Below w1.heap.size w1 wr)) (fun iv _ => M - (intOf iv).toNat)
 case atStart => exact ⟨0,rfl,by omega,gh (by rw [HE2.o]; rfl),gh (Below.refl _ _)⟩
 case round =>
  obtain ⟨i,rfl,hi,HR,HB⟩ := hrel; have a5 := (HBL.o.below HB.o HBL.o.lt).cell 5; simp only [gX0,gX1,gX2] at a5
  by_cases hlt : i < M
  ·have hil : i < v.xs.length := by rw [<- HM.o]; exact hlt
   obtain ⟨xb,xo,rfl,hpx,hlc⟩ := HX.o i hil; rw [<- HM.o] at hlc; have hdr := drop_cons hil; have hrr := HR.o; rw [hdr] at hrr; have hxm : v.xs[i]'hil ∈ v.xs := by simp
   obtain ⟨x,hxx⟩ := gXe (v.xs[i]'hil); rw [<- hxx] at hpx hrr hxm; have hpw := hpx.below HB.o; have d0 := hpw.c0; have d1 := hpw.c1; have d2 := hpw.c2; have d3 := hpw.c3; have d4 := hpw.c4; have d5 := hpw.c5; obtain ⟨r4,t4,g4⟩ := hpw.in.nslice; obtain ⟨r5,t5,g5⟩ := hpw.in.xslice; rw [g4] at d4; rw [g5] at d5; have hc := HIH.o x hxm wr hpw.in; unfold Val.agg at hc; rw [g4,g5] at hc; have hk0 : (0 : Int) <= (i : Int) := by omega
   have hk1 : (i : Int) < (M : Int) := by omega
   cases hrb : x.rightB (13 - far + 1) with
   | false =>
    rw [hrb] at hc; have HC2 := gh hc; have HF : Hid (R = false) := gh (by rw [<- hrr]; simp [Val.rightAll,hrb])
    clear hil hpx hpw hc hxx g4 g5 hrb hrr hdr hxm HR
    go_wp2_with fail
    refine HC2.o.mono ?_; rintro e w3 ⟨rfl,hb3⟩; have HB3 := gh (HBB.o.trans ((HB.o.trans (hb3.mono HB.o.size)).mono HBB.o.size)); clear hb3 d0 d1 d2 d3 d4 d5 a5 HC2
    go_wp2
    go_ret
    exact ⟨by rw [HF.o]; rfl,HB3.o⟩
   | true =>
    rw [hrb] at hc; have HC2 := gh hc; have HR2 : Hid (Val.rightAll (v.xs.drop (i + 1)) (13 - far + 1) = R) := gh (by rw [<- hrr]; simp [Val.rightAll,hrb])
    clear hil hpx hpw hc hxx g4 g5 hrb hrr hdr hxm HR
    go_wp2_with fail
    refine HC2.o.mono ?_; rintro e w3 ⟨rfl,hb3⟩; have HB3 := gh (HB.o.trans (hb3.mono HB.o.size)); clear hb3 d0 d1 d2 d3 d4 d5 a5 HC2
    go_wp2
    go_roundw
    case rel => exact ⟨i + 1,by go_num,by omega,HR2,HB3⟩
    case measure => simp [intOf]; omega
  ·have HT : Hid (R = true) := gh (by rw [<- HR.o, List.drop_eq_nil_of_le (by rw [<- HM.o]; omega)]; simp [Val.rightAll])
   go_wp2
   go_ret
   exact ⟨by rw [HT.o]; rfl,HBB.o.trans (HB.o.mono HBB.o.size)⟩
theorem rright_rec (v : Val) (far : Nat) (w : World) (hf1 : 1 <= far) (hf2 : far <= 12) (h : v.In w) (hk : v.k = 6)
  (ih : ∀ x,x ∈ v.xs -> ∀ w : World,x.In w -> Calls Tryz.prog 156 #[x.agg, .int .i64 ((far : Int) - 1)] w fun e w' => BoolBelow (x.rightB (13 - far + 1)) w e w') :
  Calls Tryz.prog 156 #[v.agg, .int .i64 far] w fun e w' => BoolBelow (v.rightB (13 - far)) w e w' := by
 have i1 : decide ((far : Int) < 1) = false := by simp; omega
 have e := Val.rightB_eq v (13 - far); rw [if_neg (by omega),if_neg (by omega),if_neg (by omega),if_neg (by omega),if_neg (by omega),if_neg (by omega),if_pos hk] at e
 have hbare : bareB v false false false true = ((v.n == 0) && fsame v.f 0 && v.s.toList.isEmpty) := by
  rw [fsame_ford h.ok.2.2.1 (by omega)]; simp [bareB]
 rw [hbare] at e; obtain ⟨p4,q4,e4⟩ := h.nslice; obtain ⟨p5,q5,e5⟩ := h.xslice; have hnl := h.ok.2.2.2.2.1; have hxl := h.ok.2.2.2.2.2.1; have hns := h.ok.2.2.2.2.2.2; have hNA := fun (W : World) (hb : Below w.heap.size w W) => NamesAt.of (h.below hb)
 unfold Val.agg; simp only [e4] at hNA; rw [e4,e5,hk]; obtain ⟨R,hR⟩ := gXe (v.rightB (13 - far)); obtain ⟨N,hN⟩ := gXe (v.n); obtain ⟨F,hF⟩ := gXe (v.f); obtain ⟨T,hT⟩ := gXe (v.s); obtain ⟨L,hL⟩ := gXe (v.ns.length); obtain ⟨M,hM⟩ := gXe (v.xs.length); rw [<- hR, <- hN, <- hF, <- hT, <- hL, <- hM] at e; rw [<- hR, <- hN, <- hF, <- hT, <- hL, <- hM]; simp only [<- hL] at hNA; rw [<- hL] at hnl; rw [<- hM] at hxl e5; have HZ := gh (fun (W : World) => rzero_agg 6 N F T p4 L q4 p5 M q5 W)
 obtain ⟨Z,hZ⟩ := gXe (fsame F 0); simp only [<- hZ] at HZ e; have HE := gh e; have HIN := gh h; have HIH := gh ih; have HM := gh hM; have HL := gh hL; have E5 := gh e5; have HNA := gh hNA; have HNS := gh hns; clear e hbare hR hN hF hT hL hM h e4 e5 hZ ih hk hNA hns
 cases Z with
 | false =>
  have HF : Hid (R = false) := gh (by rw [HE.o]; simp)
  clear HE
  go_enter Tryz.func156,Tryz.ntmps156
  try simp only [lapp_cons,lapp_nil]
  go_upto_region 1 with fail
  obtain ⟨W,hW⟩ := gXe (w.alloc (.cells #[.int .i64 6, .int .i64 N, .float .f64 F, .string T, .slice p4 L q4, .slice p5 M q5] 37)); have hBW : Below w.heap.size w W := by rw [hW]; exact (Below.refl _ w).alloc (Nat.le_refl _) _
  have hb0 : Blk W w.heap.size 37 #[.int .i64 6, .int .i64 N, .float .f64 F, .string T, .slice p4 L q4, .slice p5 M q5] := by rw [hW]; exact Blk.new w 37 _
  rw [<- hW]; have a0 := hb0.cell 0; have a1 := hb0.cell 1; have a2 := hb0.cell 2; have a3 := hb0.cell 3; have a4 := hb0.cell 4; have a5 := hb0.cell 5; simp only [gX0,gX1,gX2] at a0 a1 a2 a3 a4 a5; have HBW := gh hBW; have HB0 := gh hb0; clear hW hBW hb0
  go_cut [5] (fun s5 wx => (∃ b : Bool,s5 = .bool b) /\ W = wx)
  case first =>
   go_wp2_with fail
   all_goals
    go_meet
    exact ⟨⟨_,rfl⟩,rfl⟩
  case rest =>
  obtain ⟨⟨pb,rfl⟩,rfl⟩ := hcut
  go_wp2_with fail
  refine (HZ.o _).mono ?_; rintro e w1 ⟨rfl,hb1⟩; have HBB := gh (HBW.o.trans (hb1.mono HBW.o.size)); have HBL := gh (HB0.o.below hb1 HB0.o.lt); clear a0 a1 a2 a3 a4 a5 hb1 HB0 HBW; have a0 := HBL.o.cell 0; have a1 := HBL.o.cell 1; have a2 := HBL.o.cell 2; have a3 := HBL.o.cell 3; have a4 := HBL.o.cell 4; have a5 := HBL.o.cell 5; simp only [gX0,gX1,gX2] at a0 a1 a2 a3 a4 a5
  go_wp2_with fail
  go_ret
  exact ⟨by rw [HF.o]; rfl,HBB.o⟩
 | true =>
 by_cases h0 : N = 0
 case neg =>
  have HF : Hid (R = false) := gh (by rw [HE.o]; simp [h0])
  have t1 : (N != 0) = true := by simpa using h0
  clear HE h0
  go_enter Tryz.func156,Tryz.ntmps156
  try simp only [lapp_cons,lapp_nil]
  go_upto_region 1 with fail
  obtain ⟨W,hW⟩ := gXe (w.alloc (.cells #[.int .i64 6, .int .i64 N, .float .f64 F, .string T, .slice p4 L q4, .slice p5 M q5] 37)); have hBW : Below w.heap.size w W := by rw [hW]; exact (Below.refl _ w).alloc (Nat.le_refl _) _
  have hb0 : Blk W w.heap.size 37 #[.int .i64 6, .int .i64 N, .float .f64 F, .string T, .slice p4 L q4, .slice p5 M q5] := by rw [hW]; exact Blk.new w 37 _
  rw [<- hW]; have a0 := hb0.cell 0; have a1 := hb0.cell 1; have a2 := hb0.cell 2; have a3 := hb0.cell 3; have a4 := hb0.cell 4; have a5 := hb0.cell 5; simp only [gX0,gX1,gX2] at a0 a1 a2 a3 a4 a5; have HBW := gh hBW; have HB0 := gh hb0; clear hW hBW hb0
  go_cut [5] (fun s5 wx => (∃ b : Bool,s5 = .bool b) /\ W = wx)
  case first =>
   go_wp2_with fail
   all_goals
    go_meet
    exact ⟨⟨_,rfl⟩,rfl⟩
  case rest =>
  obtain ⟨⟨pb,rfl⟩,rfl⟩ := hcut
  go_wp2_with fail
  refine (HZ.o _).mono ?_; rintro e w1 ⟨rfl,hb1⟩; have HBB := gh (HBW.o.trans (hb1.mono HBW.o.size)); have HBL := gh (HB0.o.below hb1 HB0.o.lt); clear a0 a1 a2 a3 a4 a5 hb1 HB0 HBW; have a0 := HBL.o.cell 0; have a1 := HBL.o.cell 1; have a2 := HBL.o.cell 2; have a3 := HBL.o.cell 3; have a4 := HBL.o.cell 4; have a5 := HBL.o.cell 5; simp only [gX0,gX1,gX2] at a0 a1 a2 a3 a4 a5
  go_wp2_with fail
  go_ret
  exact ⟨by rw [HF.o]; rfl,HBB.o⟩
 subst h0
 by_cases h1 : T.toList = []
 case neg =>
  have HF : Hid (R = false) := gh (by rw [HE.o]; simp [h1])
  have h1' : T.toList.isEmpty = false := by simpa using h1
  clear HE
  go_enter Tryz.func156,Tryz.ntmps156
  try simp only [lapp_cons,lapp_nil]
  go_upto_region 1 with fail
  obtain ⟨W,hW⟩ := gXe (w.alloc (.cells #[.int .i64 6, .int .i64 0, .float .f64 F, .string T, .slice p4 L q4, .slice p5 M q5] 37)); have hBW : Below w.heap.size w W := by rw [hW]; exact (Below.refl _ w).alloc (Nat.le_refl _) _
  have hb0 : Blk W w.heap.size 37 #[.int .i64 6, .int .i64 0, .float .f64 F, .string T, .slice p4 L q4, .slice p5 M q5] := by rw [hW]; exact Blk.new w 37 _
  rw [<- hW]; have a0 := hb0.cell 0; have a1 := hb0.cell 1; have a2 := hb0.cell 2; have a3 := hb0.cell 3; have a4 := hb0.cell 4; have a5 := hb0.cell 5; simp only [gX0,gX1,gX2] at a0 a1 a2 a3 a4 a5; have HBW := gh hBW; have HB0 := gh hb0; clear hW hBW hb0
  go_cut [5] (fun s5 wx => (∃ b : Bool,s5 = .bool b) /\ W = wx)
  case first =>
   go_wp2_with fail
   all_goals
    go_meet
    exact ⟨⟨_,rfl⟩,rfl⟩
  case rest =>
  obtain ⟨⟨pb,rfl⟩,rfl⟩ := hcut
  go_wp2_with fail
  refine (HZ.o _).mono ?_; rintro e w1 ⟨rfl,hb1⟩; have HBB := gh (HBW.o.trans (hb1.mono HBW.o.size)); have HBL := gh (HB0.o.below hb1 HB0.o.lt); clear a0 a1 a2 a3 a4 a5 hb1 HB0 HBW; have a0 := HBL.o.cell 0; have a1 := HBL.o.cell 1; have a2 := HBL.o.cell 2; have a3 := HBL.o.cell 3; have a4 := HBL.o.cell 4; have a5 := HBL.o.cell 5; simp only [gX0,gX1,gX2] at a0 a1 a2 a3 a4 a5
  go_wp2_with fail
  go_ret
  exact ⟨by rw [HF.o]; rfl,HBB.o⟩
 obtain ⟨NB,hNB⟩ := gXe ((risingB v.ns && ((v.ns.length : Int) == (M : Int)))); have HNB : Hid ((risingB v.ns && ((v.ns.length : Int) == (M : Int))) = NB) := gh hNB.symm; have hHE := HE.o
 have hb3 : (decide (L = M) && risingB v.ns) = NB := by
  rw [hNB, <- HL.o,Bool.and_comm]
  congr 1
  rw [Bool.eq_iff_iff,decide_eq_true_eq,beq_iff_eq]
  omega
 rw [hb3] at hHE; have h1' : T.toList.isEmpty = true := by simp [h1]
 clear HE hb3 hNB
 cases NB with
 | false =>
  have HF : Hid (R = false) := gh (by rw [hHE]; simp)
  clear hHE
  go_enter Tryz.func156,Tryz.ntmps156
  try simp only [lapp_cons,lapp_nil]
  go_upto_region 1 with fail
  obtain ⟨W,hW⟩ := gXe (w.alloc (.cells #[.int .i64 6, .int .i64 0, .float .f64 F, .string T, .slice p4 L q4, .slice p5 M q5] 37)); have hBW : Below w.heap.size w W := by rw [hW]; exact (Below.refl _ w).alloc (Nat.le_refl _) _
  have hb0 : Blk W w.heap.size 37 #[.int .i64 6, .int .i64 0, .float .f64 F, .string T, .slice p4 L q4, .slice p5 M q5] := by rw [hW]; exact Blk.new w 37 _
  rw [<- hW]; have a0 := hb0.cell 0; have a1 := hb0.cell 1; have a2 := hb0.cell 2; have a3 := hb0.cell 3; have a4 := hb0.cell 4; have a5 := hb0.cell 5; simp only [gX0,gX1,gX2] at a0 a1 a2 a3 a4 a5; have HBW := gh hBW; have HB0 := gh hb0; clear hW hBW hb0
  go_cut [5] (fun s5 wx => (∃ b : Bool,s5 = .bool b) /\ W = wx)
  case first =>
   go_wp2_with fail
   all_goals
    go_meet
    exact ⟨⟨_,rfl⟩,rfl⟩
  case rest =>
  obtain ⟨⟨pb,rfl⟩,rfl⟩ := hcut
  go_wp2_with fail
  refine (HZ.o _).mono ?_; rintro e w1 ⟨rfl,hb1⟩; have HBB := gh (HBW.o.trans (hb1.mono HBW.o.size)); have HBL := gh (HB0.o.below hb1 HB0.o.lt); clear a0 a1 a2 a3 a4 a5 hb1 HB0 HBW; have a0 := HBL.o.cell 0; have a1 := HBL.o.cell 1; have a2 := HBL.o.cell 2; have a3 := HBL.o.cell 3; have a4 := HBL.o.cell 4; have a5 := HBL.o.cell 5; simp only [gX0,gX1,gX2] at a0 a1 a2 a3 a4 a5
  go_wp2_with fail
  refine (rnames_any _ v.ns (M : Int) w1 (HNA.o w1 HBB.o) (by rw [<- HL.o]; exact hnl) HNS.o).mono ?_
  rintro e w2 ⟨rfl,kd,hkd⟩; rw [HNB.o]; have HBX := gh (show Below w.heap.size w w2 by rw [hkd]; exact below_drewN HBB.o _)
  have HBM := gh (show Blk w2 w.heap.size 37 #[.int .i64 6, .int .i64 0, .float .f64 F, .string T, .slice p4 L q4, .slice p5 M q5] by rw [hkd]; exact HBL.o.drewN _)
  clear hkd HBB HBL a0 a1 a2 a3 a4 a5; have HBB := HBX; have HBL := HBM; have a0 := HBL.o.cell 0; have a1 := HBL.o.cell 1; have a2 := HBL.o.cell 2; have a3 := HBL.o.cell 3; have a4 := HBL.o.cell 4; have a5 := HBL.o.cell 5; simp only [gX0,gX1,gX2] at a0 a1 a2 a3 a4 a5
  go_wp2_with fail
  go_ret
  exact ⟨by rw [HF.o]; rfl,HBB.o⟩
 | true =>
 have HE2 : Hid (R = Val.rightAll v.xs (13 - far + 1)) := gh (by rw [hHE]; simp [h1])
 clear hHE
 go_enter Tryz.func156,Tryz.ntmps156
 try simp only [lapp_cons,lapp_nil]
 go_upto_region 1 with fail
 obtain ⟨W,hW⟩ := gXe (w.alloc (.cells #[.int .i64 6, .int .i64 0, .float .f64 F, .string T, .slice p4 L q4, .slice p5 M q5] 37)); have hBW : Below w.heap.size w W := by rw [hW]; exact (Below.refl _ w).alloc (Nat.le_refl _) _
 have hb0 : Blk W w.heap.size 37 #[.int .i64 6, .int .i64 0, .float .f64 F, .string T, .slice p4 L q4, .slice p5 M q5] := by rw [hW]; exact Blk.new w 37 _
 rw [<- hW]; have a0 := hb0.cell 0; have a1 := hb0.cell 1; have a2 := hb0.cell 2; have a3 := hb0.cell 3; have a4 := hb0.cell 4; have a5 := hb0.cell 5; simp only [gX0,gX1,gX2] at a0 a1 a2 a3 a4 a5; have HBW := gh hBW; have HB0 := gh hb0; clear hW hBW hb0
 go_cut [5] (fun s5 wx => (∃ b : Bool,s5 = .bool b) /\ W = wx)
 case first =>
  go_wp2_with fail
  all_goals
   go_meet
   exact ⟨⟨_,rfl⟩,rfl⟩
 case rest =>
 obtain ⟨⟨pb,rfl⟩,rfl⟩ := hcut
 go_wp2_with fail
 refine (HZ.o _).mono ?_; rintro e w1 ⟨rfl,hb1⟩; have HBB := gh (HBW.o.trans (hb1.mono HBW.o.size)); have HBL := gh (HB0.o.below hb1 HB0.o.lt); clear a0 a1 a2 a3 a4 a5 hb1 HB0 HBW; have a0 := HBL.o.cell 0; have a1 := HBL.o.cell 1; have a2 := HBL.o.cell 2; have a3 := HBL.o.cell 3; have a4 := HBL.o.cell 4; have a5 := HBL.o.cell 5; simp only [gX0,gX1,gX2] at a0 a1 a2 a3 a4 a5
 go_wp2_with fail
 refine (rnames_any _ v.ns (M : Int) w1 (HNA.o w1 HBB.o) (by rw [<- HL.o]; exact hnl) HNS.o).mono ?_
 rintro e w2 ⟨rfl,kd,hkd⟩; rw [HNB.o]; have HBX := gh (show Below w.heap.size w w2 by rw [hkd]; exact below_drewN HBB.o _)
 have HBM := gh (show Blk w2 w.heap.size 37 #[.int .i64 6, .int .i64 0, .float .f64 F, .string T, .slice p4 L q4, .slice p5 M q5] by rw [hkd]; exact HBL.o.drewN _)
 clear hkd HBB HBL a0 a1 a2 a3 a4 a5; have HBB := HBX; have HBL := HBM; have a0 := HBL.o.cell 0; have a1 := HBL.o.cell 1; have a2 := HBL.o.cell 2; have a3 := HBL.o.cell 3; have a4 := HBL.o.cell 4; have a5 := HBL.o.cell 5; simp only [gX0,gX1,gX2] at a0 a1 a2 a3 a4 a5
 go_wp2_with fail
 obtain ⟨pp,cc,ee,hx⟩ := items_at (HIN.o.below HBB.o); rw [<- HM.o,E5.o] at ee; injection ee with ee1 ee2 ee3; subst ee1 ee3; have HX := gh hx; clear hx ee2 a0 a1 a2 a3 a4 a5
 go_loopw [6] (fun iv wr => ∃ i : Nat,iv = .int .i64 (i : Int) /\ i <= M /\ Hid (Val.rightAll (v.xs.drop i) (13 - far + 1) = R) /\ Hid (Below w2.heap.size w2 wr)) (fun iv _ => M - (intOf iv).toNat)
 case atStart => exact ⟨0,rfl,by omega,gh (by rw [HE2.o]; rfl),gh (Below.refl _ _)⟩
 case round =>
  obtain ⟨i,rfl,hi,HR,HB⟩ := hrel; have a5 := (HBL.o.below HB.o HBL.o.lt).cell 5; simp only [gX0,gX1,gX2] at a5
  by_cases hlt : i < M
  ·have hil : i < v.xs.length := by rw [<- HM.o]; exact hlt
   obtain ⟨xb,xo,rfl,hpx,hlc⟩ := HX.o i hil; rw [<- HM.o] at hlc; have hdr := drop_cons hil; have hrr := HR.o; rw [hdr] at hrr; have hxm : v.xs[i]'hil ∈ v.xs := by simp
   obtain ⟨x,hxx⟩ := gXe (v.xs[i]'hil); rw [<- hxx] at hpx hrr hxm; have hpw := hpx.below HB.o; have d0 := hpw.c0; have d1 := hpw.c1; have d2 := hpw.c2; have d3 := hpw.c3; have d4 := hpw.c4; have d5 := hpw.c5; obtain ⟨r4,t4,g4⟩ := hpw.in.nslice; obtain ⟨r5,t5,g5⟩ := hpw.in.xslice; rw [g4] at d4; rw [g5] at d5; have hc := HIH.o x hxm wr hpw.in; unfold Val.agg at hc; rw [g4,g5] at hc; have hk0 : (0 : Int) <= (i : Int) := by omega
   have hk1 : (i : Int) < (M : Int) := by omega
   cases hrb : x.rightB (13 - far + 1) with
   | false =>
    rw [hrb] at hc; have HC2 := gh hc; have HF : Hid (R = false) := gh (by rw [<- hrr]; simp [Val.rightAll,hrb])
    clear hil hpx hpw hc hxx g4 g5 hrb hrr hdr hxm HR
    go_wp2_with fail
    refine HC2.o.mono ?_; rintro e w3 ⟨rfl,hb3⟩; have HB3 := gh (HBB.o.trans ((HB.o.trans (hb3.mono HB.o.size)).mono HBB.o.size)); clear hb3 d0 d1 d2 d3 d4 d5 a5 HC2
    go_wp2
    go_ret
    exact ⟨by rw [HF.o]; rfl,HB3.o⟩
   | true =>
    rw [hrb] at hc; have HC2 := gh hc; have HR2 : Hid (Val.rightAll (v.xs.drop (i + 1)) (13 - far + 1) = R) := gh (by rw [<- hrr]; simp [Val.rightAll,hrb])
    clear hil hpx hpw hc hxx g4 g5 hrb hrr hdr hxm HR
    go_wp2_with fail
    refine HC2.o.mono ?_; rintro e w3 ⟨rfl,hb3⟩; have HB3 := gh (HB.o.trans (hb3.mono HB.o.size)); clear hb3 d0 d1 d2 d3 d4 d5 a5 HC2
    go_wp2
    go_roundw
    case rel => exact ⟨i + 1,by go_num,by omega,HR2,HB3⟩
    case measure => simp [intOf]; omega
  ·have HT : Hid (R = true) := gh (by rw [<- HR.o, List.drop_eq_nil_of_le (by rw [<- HM.o]; omega)]; simp [Val.rightAll])
   go_wp2
   go_ret
   exact ⟨by rw [HT.o]; rfl,HBB.o.trans (HB.o.mono HBB.o.size)⟩
theorem rright_0 (v : Val) (w : World) (h : v.In w) : Calls Tryz.prog 156 #[v.agg, .int .i64 0] w fun e w' => BoolBelow (v.rightB 13) w e w' := by
 have hE : v.rightB 13 = false := by rw [Val.rightB_eq,if_pos (by omega)]
 rw [hE]; obtain ⟨p4,q4,e4⟩ := h.nslice; obtain ⟨p5,q5,e5⟩ := h.xslice; unfold Val.agg; rw [e4,e5]; clear hE h e4 e5
 go_enter Tryz.func156,Tryz.ntmps156
 try simp only [lapp_cons,lapp_nil]
 go_wp2_with fail
 all_goals
  go_ret
  exact ⟨rfl, (Below.refl _ _).alloc (Nat.le_refl _) _⟩
theorem rright_any (d : Nat) : ∀ (v : Val) (far : Nat) (w : World), v.sz <= d -> far <= 12 -> v.In w -> Calls Tryz.prog 156 #[v.agg, .int .i64 far] w fun e w' => BoolBelow (v.rightB (13 - far)) w e w' := by
 induction d with
 | zero => intro v far w hd; rw [Val.sz_eq] at hd; omega
 | succ d ih =>
  intro v far w hd hf h
  rcases Nat.eq_zero_or_pos far with h0 | h0
  ·subst h0; exact rright_0 v w h
  ·have hi : ∀ x, x ∈ v.xs -> ∀ w : World, x.In w -> Calls Tryz.prog 156 #[x.agg, .int .i64 ((far : Int) - 1)] w fun e w' => BoolBelow (x.rightB (13 - far + 1)) w e w' := fun x hx w hxi => by
    have := ih x (far - 1) w (by have := Val.size_mem hx; omega) (by omega) hxi
    rw [show (((far - 1 : Nat) : Nat) : Int) = (far : Int) - 1 from by omega,show 13 - (far - 1) = 13 - far + 1 from by omega] at this
    exact this
   by_cases h5 : v.k = 5
   ·exact rright_list v far w h0 hf h h5 hi
   ·by_cases h6 : v.k = 6
    ·exact rright_rec v far w h0 hf h h6 hi
    ·exact rright_leaf v far w h0 hf h ⟨h5,h6⟩
theorem rrightf_any (v : Val) (w : World) (h : v.In w) : Calls Tryz.prog 132 #[v.agg] w fun e w' => BoolBelow v.RightB w e w' := by
 obtain ⟨W,hW⟩ := gXe (w.alloc (.cells v.cells.toArray 37)); have hBW : Below w.heap.size w W := by rw [hW]; exact (Below.refl _ w).alloc (Nat.le_refl _) _
 have hb0 : Blk W w.heap.size 37 v.cells.toArray := by rw [hW]; exact Blk.new w 37 _
 obtain ⟨p4,q4,e4⟩ := h.nslice; obtain ⟨p5,q5,e5⟩ := h.xslice; have hc := rparts_any v W (h.below hBW); have hr := fun (W' : World) (hb : Below W.heap.size W W') => rright_any v.sz v 12 W' (Nat.le_refl _) (by omega) ((h.below hBW).below hb)
 have hcl := Val.count_le v.sz v 0 (Nat.le_refl _) (by omega)
 unfold Val.RightB; unfold Val.cells at hW hb0; unfold Val.agg at hc hr ⊢; rw [e4,e5] at hW hc hb0 ⊢; simp only [e4,e5] at hr; obtain ⟨C,hC⟩ := gXe (v.count 0); obtain ⟨B,hB⟩ := gXe (v.rightB 1); rw [<- hC] at hcl hc ⊢; rw [<- hB]; simp only [show 13 - 12 = 1 from rfl, <- hB] at hr
 obtain ⟨hcl1,hcl2⟩ := hcl; have HW := gh hW; have HBW := gh hBW; have HC := gh hc; have HR := gh hr; have HB0 := gh hb0; clear hW hBW hc hr e4 e5 h hC hb0 hB
 by_cases hd : C <= 200
 ·have t1 : decide ((C : Int) <= 200) = true := by simp; omega
  have HT : Hid ((decide (C <= 200) && B) = B) := gh (by simp [hd])
  go_enter Tryz.func132,Tryz.ntmps132
  go_wp2_with fail
  rw [<- HW.o]; refine HC.o.mono ?_; rintro e w1 ⟨rfl,hb1⟩; have HB1 := gh hb1; have hb2 := HB0.o.below hb1 HB0.o.lt; have c0 := hb2.cell 0; have c1 := hb2.cell 1; have c2 := hb2.cell 2; have c3 := hb2.cell 3; have c4 := hb2.cell 4; have c5 := hb2.cell 5; simp only [gX0,gX1,gX2] at c0 c1 c2 c3 c4 c5; clear hb1 hb2
  go_wp2_with fail
  refine (HR.o _ HB1.o).mono ?_; rintro e w2 ⟨rfl,hb2⟩; have HB2 := gh (HBW.o.trans ((HB1.o.mono HBW.o.size).trans (hb2.mono (Nat.le_trans HBW.o.size HB1.o.size)))); clear hb2
  go_wp2
  go_ret
  exact ⟨by rw [HT.o]; rfl,HB2.o⟩
 ·have t1 : decide ((C : Int) <= 200) = false := by simp; omega
  have HT : Hid ((decide (C <= 200) && B) = false) := gh (by simp [hd])
  go_enter Tryz.func132,Tryz.ntmps132
  go_wp2_with fail
  rw [<- HW.o]; refine HC.o.mono ?_; rintro e w1 ⟨rfl,hb1⟩; have HB1 := gh (HBW.o.trans (hb1.mono HBW.o.size)); clear hb1
  go_wp2
  go_ret
  exact ⟨by rw [HT.o]; rfl,HB1.o⟩
end Go.Proofs.YtaamihdibpioaaaGreat
