/- The document's reader: a byte, a number, a string. -/
import Derived.Test.YtaamihdibpioaaaGreatJpM15
set_option maxRecDepth 100000
set_option maxHeartbeats 40000000
namespace Go.Proofs.YtaamihdibpioaaaGreat
open Go.RowKit
def RAt (w : World) (g : Nat) (s : ByteArray) (p : Nat) (k parts : Int) : Prop := Blk w g 116 #[.string s, .int .i64 p, .int .i64 k, .int .i64 parts]
def Failed (g : Nat) (s : ByteArray) (p : Nat) (k parts : Int) (w : World) (e : Ending) (w' : World) : Prop := e = .returned (.tuple #[]) /\ RAt w' g s p k parts /\ Only w w' g
theorem ffail_any (k : Int) (s : ByteArray) (p : Nat) (parts : Int) (g : Nat) (w : World) (h : RAt w g s p 0 parts) :
  Calls Tryz.prog 115 #[.pointer (some ⟨g, 0,none⟩), .int .i64 k] w fun e w' => Failed g s p k parts w e w' := by
 have c2 := h.cell 2; have f2 := h.frozen 2
 simp at c2
 have HS := gh (Blk.set_ h 2 (.int .i64 k)); clear h
 go_enter Tryz.func115,Tryz.ntmps115
 go_wp2
 go_end0
 exact ⟨rfl,HS.o, (Only.refl w g).set_ (p := ⟨g, 2,none⟩) (.inl rfl) _⟩
theorem ffail_old (k k0 : Int) (s : ByteArray) (p : Nat) (parts : Int) (g : Nat) (w : World) (h : RAt w g s p k0 parts) (hk : k0 ≠ 0) :
  Calls Tryz.prog 115 #[.pointer (some ⟨g, 0,none⟩), .int .i64 k] w fun e w' => e = .returned (.tuple #[]) /\ w = w' := by
 have c2 := h.cell 2
 simp at c2
 have i1 : (k0 == 0) = false := by simpa using hk
 clear h hk
 go_enter Tryz.func115,Tryz.ntmps115
 go_wp2
 go_end0
 exact ⟨rfl,rfl⟩
def FByteOk (c : UInt8) (g : Nat) (s : ByteArray) (p : Nat) (parts : Int) (w : World) (e : Ending) (w' : World) : Prop := e = .returned (.int .i64 c.toNat) /\ RAt w' g s (p + 1) 0 parts /\ Only w w' g
def FByteNo (k : Int) (g : Nat) (s : ByteArray) (p : Nat) (parts : Int) (w : World) (e : Ending) (w' : World) : Prop := e = .returned (.int .i64 0) /\ RAt w' g s p k parts /\ Only w w' g
theorem fbyte_old (k : Int) (s : ByteArray) (p : Nat) (parts : Int) (g : Nat) (w : World) (h : RAt w g s p k parts) (hk : k ≠ 0) :
  Calls Tryz.prog 91 #[.pointer (some ⟨g, 0,none⟩)] w fun e w' => e = .returned (.int .i64 0) /\ w = w' := by
 have c2 := h.cell 2
 simp at c2
 have i1 : (k != 0) = true := by simpa using hk
 clear h hk
 go_enter Tryz.func91,Tryz.ntmps91
 go_wp2
 go_ret
 exact ⟨rfl,rfl⟩
theorem fbyte_torn (s : ByteArray) (p : Nat) (parts : Int) (g : Nat) (w : World) (hs : s.size <= 100000) (hp : s.size <= p) (hp2 : p <= 100000) (h : RAt w g s p 0 parts) :
  Calls Tryz.prog 91 #[.pointer (some ⟨g, 0,none⟩)] w fun e w' => FByteNo 14 g s p parts w e w' := by
 have hd : decide ((s.size : Int) <= (p : Int)) = true := by simp; omega
 have hd2 : decide (s.size <= p) = true := by simp; omega
 have h0 := h.cell 0; have h1 := h.cell 1; have h2 := h.cell 2
 simp at h0 h1 h2
 have H := gh h; clear h
 go_enter Tryz.func91,Tryz.ntmps91
 go_wp2
 go_quiet (fail)
 go_wp2_with fail
 refine (ffail_any 14 s p parts g _ (Blk.drewN H.o nq)).mono ?_; rintro e w2 ⟨rfl,ha,ho⟩; have ho2 := ((Only.refl w g).drewN nq).trans ho; clear H h0 h1 h2 ho; have HA := gh ha; clear ha
 go_wp2
 go_ret
 exact ⟨rfl,HA.o,ho2⟩
theorem fbyte_ok (s : ByteArray) (p : Nat) (parts : Int) (g : Nat) (w : World) (hs : s.size <= 100000) (hp : p < s.size) (h : RAt w g s p 0 parts) :
  Calls Tryz.prog 91 #[.pointer (some ⟨g, 0,none⟩)] w fun e w' => FByteOk (s[p]'hp) g s p parts w e w' := by
 have hd : decide ((s.size : Int) <= (p : Int)) = false := by simp; omega
 have hd2 : decide (s.size <= p) = false := by simp; omega
 have h0 := h.cell 0; have h1 := h.cell 1; have h2' := h.cell 2; have hf := h.frozen 1
 simp at h0 h1 h2'
 have hlt : (p : Int) < (s.size : Int) := by omega
 have hi1 : (0 : Int) <= (p : Int) := by omega
 have hsub : IntKind.i64.wrap (p : Int) = (p : Int) := IntWalk.i64_in _ (by omega)
 have hw1 : IntKind.i64.wrap ((p : Int) + 1) = (p : Int) + 1 := IntWalk.i64_in _ (by omega)
 obtain ⟨c,hc⟩ := gXe (s[p]'hp); rw [<- hc]; have H := gh h; clear h
 go_enter Tryz.func91,Tryz.ntmps91
 go_wp2
 go_quiet (fail)
 obtain ⟨W,hW⟩ := gXe ((w.drewN nq).setCell ⟨g, 1,none⟩ (.int .i64 ((p : Int) + 1)))
 have h2 : RAt W g s (p + 1) 0 parts := by
  rw [hW]; exact (Blk.set_ (Blk.drewN H.o nq) 1 (.int .i64 ((p : Int) + 1)))
 have hO : Only w W g := by rw [hW]; exact ((Only.refl w g).drewN nq).set_ (p := ⟨g, 1,none⟩) (.inl rfl) _
 have g0 := h2.cell 0; have g1 := h2.cell 1
 simp at g0 g1
 have H2 := gh h2; have HO := gh hO; have HW := gh hW; clear h2 hO hW
 go_wp2
 rw [<- HW.o]
 go_quiet (fail)
 go_wp2
 go_ret
 have hc8 := (s[p]'hp).toNat_lt; exact ⟨by rw [hc]; exact congrArg (fun v => Ending.returned (Value.int .i64 v)) (IntWalk.wrap64_in _ ⟨by omega,by omega⟩),Blk.drewN H2.o _,HO.o.drewN _⟩
def FNum (r : Except Int (Nat × Nat)) (s : ByteArray) (parts : Int) (g : Nat) (w : World) (e : Ending) (w' : World) : Prop :=
 Only w w' g /\ match r with
 | .ok (n,q) => e = .returned (.int .u64 n) /\ RAt w' g s q 0 parts
 | .error k => e = .returned (.int .u64 0) /\ ∃ q,q <= s.size /\ RAt w' g s q k parts
theorem group_add {n c i : Nat} (hi : i < 10) (hc : i < 9 \/ c <= 1) (hn : n < 128 ^ i) :
  IntKind.u64.wrap ((n : Int) + IntKind.u64.wrap ((c : Int) % 128 * 2 ^ (7 * i))) = ((n + c % 128 * 128 ^ i : Nat) : Int) := by
 have h1 := group_lt hi hc; have h2 := pow_lt hi
 have e : (c : Int) % 128 * 2 ^ (7 * i) = ((c % 128 * 128 ^ i : Nat) : Int) := by
  rw [<- pow128]; simp
 rw [e,IntKind.wrap_u64,IntKind.wrap_u64]
 omega
theorem group_add9 {n c i : Nat} (h9 : (i : Int) = 9) (hc : i < 9 \/ c <= 1) (hn : n < 128 ^ i) :
  IntKind.u64.wrap ((n : Int) + (c : Int) % 128 * 9223372036854775808) = ((n + c % 128 * 128 ^ i : Nat) : Int) := by
 obtain rfl : i = 9 := by omega
 have h3 : (128 : Nat) ^ 9 = 9223372036854775808 := by decide
 have h1 := group_lt (c := c) (i := 9) (by omega) hc
 have h2 := pow_lt (i := 9) (by omega)
 rw [h3] at h1 hn ⊢; rw [IntKind.wrap_u64]
 omega
theorem readU_err (s : ByteArray) (p i n : Nat) : ∀ k, readU s p i n = .error k -> k = 5 \/ k = 14 := by
 intro k hr
 by_cases hp : p < s.size
 ·by_cases hb : i < 10 /\ (i < 9 \/ (s[p]'hp).toNat <= 1) /\ (i = 0 \/ (s[p]'hp).toNat ≠ 0)
  ·by_cases hl : (s[p]'hp).toNat < 128
   ·rw [readU_end hp hb hl] at hr
    cases hr
   ·rw [readU_on hp hb hl] at hr
    exact readU_err s (p + 1) (i + 1) _ k hr
  ·rw [readU_bad hp hb] at hr
   injection hr with hr; exact .inl hr.symm
 ·rw [readU_torn hp] at hr
  injection hr with hr; exact .inr hr.symm
termination_by s.size - p
theorem fuint_any (s : ByteArray) (p : Nat) (parts : Int) (g : Nat) (w : World) (hs : s.size <= 100000) (hp : p <= s.size) (h : RAt w g s p 0 parts) :
  Calls Tryz.prog 89 #[.pointer (some ⟨g, 0,none⟩)] w fun e w' => FNum (readU s p 0 0) s parts g w e w' := by
 have H := gh h; clear h
 go_enter Tryz.func89,Tryz.ntmps89
 go_wp2_with fail
 go_loopw [3, 4] (fun nv iv wr => ∃ i n q : Nat,nv = .int .u64 n /\ iv = .int .i64 i /\ Hid (Reads5 s q i n p) /\ Hid (RAt wr g s q 0 parts) /\ Hid (Only w wr g)) (fun _ iv _ => (11 - intOf iv).toNat)
 case atStart => exact ⟨0, 0,p,rfl,rfl,gh ⟨by omega,by decide,hp,rfl⟩,H,gh (Only.refl w g)⟩
 case round =>
  obtain ⟨i,n,q,rfl,rfl,HR,HA,HO⟩ := hrel
  by_cases hq : q < s.size
  ·obtain ⟨c, hc⟩ := gXe (s[q]'hq)
   have hb := fbyte_ok s q parts g wr hs hq HA.o; rw [<- hc] at hb; have HB := gh hb; have hru := HR.o.2.2.2; have hn := HR.o.2.1; have hi := HR.o.1; have hc8 := c.toNat_lt; have hend := readU_end (s := s) (i := i) (n := n) hq; have hon := readU_on (s := s) (i := i) (n := n) hq; have hbad := readU_bad (s := s) (i := i) (n := n) hq; rw [<- hc] at hend hon hbad; rw [<- hru] at hend hon hbad; have HEND := gh hend; have HON := gh hon; have HBAD := gh hbad; have HN := gh hn; clear hend hon hbad hru hb hc hn
   by_cases hok : i < 10 /\ (i < 9 \/ c.toNat <= 1) /\ (i = 0 \/ c.toNat ≠ 0)
   ·have HOK := gh hok
    obtain ⟨hk1,hk2,hk3⟩ := hok; have h7 : IntKind.i64.wrap (7 * (i : Int)) = 7 * (i : Int) := IntWalk.i64_in _ (by omega)
    have h7n : decide (7 * (i : Int) < 0) = false := by simp; omega
    clear HA HR
    go_wp2_with fail
    refine HB.o.mono ?_; rintro e w2 ⟨rfl,ha2,ho2⟩; have HA2 := gh ha2; have HO2 := gh (HO.o.trans ho2); have d2 := ha2.cell 2
    simp at d2
    clear ha2 ho2 HB HO
    go_wp2
    all_goals
     first
     | (go_ret
        refine ⟨HO2.o,?_⟩
        rw [HEND.o HOK.o (by omega)]
        first
        | exact ⟨by rw [<- group_add HOK.o.1 HOK.o.2.1 HN.o]; rfl,HA2.o⟩
        | exact ⟨by rw [<- group_add9 (by assumption) HOK.o.2.1 HN.o]; rfl,HA2.o⟩)
     | (go_roundw
        case rel => exact ⟨i + 1,_,q + 1,by rw [group_add HOK.o.1 HOK.o.2.1 HN.o],by go_num,gh ⟨by omega,group_next HN.o,hq,HON.o HOK.o (by omega)⟩,HA2,HO2⟩
        case measure => simp [intOf]; omega)
   ·have he := HBAD.o hok
    have HE := gh he; have HK2 := gh hok; have hk := hok; clear HA HR he hok
    go_wp2_with fail
    refine HB.o.mono ?_; rintro e w2 ⟨rfl,ha2,ho2⟩; have HA2 := gh ha2; have HO2 := gh (HO.o.trans ho2); have d2 := ha2.cell 2
    simp at d2
    clear ha2 ho2 HB HO
    go_wp2_with fail
    all_goals try (exfalso; have := HK2.o; omega)
    all_goals
     refine (ffail_any 5 s (q + 1) parts g _ HA2.o).mono ?_; rintro e w3 ⟨rfl,ha3,ho3⟩; have HA3 := gh ha3; have HO3 := gh (HO2.o.trans ho3); clear ha3 ho3
     go_wp2
     go_ret
     refine ⟨HO3.o,?_⟩; rw [HE.o]; exact ⟨rfl,q + 1,hq,HA3.o⟩
  ·have hb := gh (fbyte_torn s q parts g wr hs (by omega) (by have := HR.o.2.2.1; omega) HA.o)
   have he : readU s p 0 0 = .error 14 := by rw [HR.o.2.2.2,readU_torn hq]
   have hqs := HR.o.2.2.1; have HE := gh he; clear he HR HA
   go_wp2_with fail
   refine hb.out.mono ?_; rintro e w2 ⟨rfl,ha2,ho2⟩; have d2 := ha2.cell 2
   simp at d2
   have HA2 := gh ha2; have HO2 := gh (HO.o.trans ho2); clear hb HO ho2 ha2
   go_wp2
   go_ret
   refine ⟨HO2.o,?_⟩; rw [HE.o]; exact ⟨rfl,q,hqs,HA2.o⟩
def FInt (r : Except Int (Nat × Nat)) (s : ByteArray) (parts : Int) (g : Nat) (w : World) (e : Ending) (w' : World) : Prop :=
 Only w w' g /\ match r with
 | .ok (n,q) => e = .returned (.int .i64 (unzig n)) /\ RAt w' g s q 0 parts
 | .error k => e = .returned (.int .i64 0) /\ ∃ q,q <= s.size /\ RAt w' g s q k parts
theorem fint_any (s : ByteArray) (p : Nat) (parts : Int) (g : Nat) (w : World) (hs : s.size <= 100000) (hp : p <= s.size) (h : RAt w g s p 0 parts) :
  Calls Tryz.prog 161 #[.pointer (some ⟨g, 0,none⟩)] w fun e w' => FInt (readU s p 0 0) s parts g w e w' := by
 have hr := fuint_any s p parts g w hs hp h
 cases hu : readU s p 0 0 with
 | ok nq =>
  obtain ⟨n,q⟩ := nq; rw [hu] at hr; have hn := (readU_lt s p 0 0 (by decide) (by omega) n q hu).1
  have HR := gh hr; clear hr hu h
  by_cases hp : n % 2 = 1
  ·have i1 : ((n : Int) % 2 == 1) = true := by simp; omega
   have HP := gh hp; clear hp
   go_enter Tryz.func161,Tryz.ntmps161
   go_wp2_with fail
   refine HR.o.mono ?_; rintro e w2 ⟨ho2,rfl,ha2⟩
   go_wp2
   go_ret
   refine ⟨ho2,?_,ha2⟩; unfold unzig; rw [if_pos HP.o]; refine congrArg (fun v => Ending.returned (Value.int .i64 v)) ?_
   simp
  ·have i1 : ((n : Int) % 2 == 1) = false := by simp; omega
   have HP := gh hp; clear hp
   go_enter Tryz.func161,Tryz.ntmps161
   go_wp2_with fail
   refine HR.o.mono ?_; rintro e w2 ⟨ho2,rfl,ha2⟩
   go_wp2
   go_ret
   refine ⟨ho2,?_,ha2⟩; unfold unzig; rw [if_neg HP.o]; refine congrArg (fun v => Ending.returned (Value.int .i64 v)) ?_
   simp
 | error k =>
  rw [hu] at hr; have HR := gh hr; clear hr hu h
  go_enter Tryz.func161,Tryz.ntmps161
  go_wp2_with fail
  refine HR.o.mono ?_; rintro e w2 ⟨ho2,rfl,hq⟩; have HQ := gh hq; clear hq
  go_wp2
  go_ret
  exact ⟨ho2,rfl,HQ.o⟩
def FStr (r : Except Int (ByteArray × Nat)) (s : ByteArray) (parts : Int) (g : Nat) (w : World) (e : Ending) (w' : World) : Prop :=
 Only w w' g /\ match r with
 | .ok (t,q) => e = .returned (.string t) /\ RAt w' g s q 0 parts
 | .error k => e = .returned (.string ⟨#[]⟩) /\ ∃ q,q <= s.size /\ RAt w' g s q k parts
theorem fstr_any (s : ByteArray) (p : Nat) (parts most : Int) (g : Nat) (w : World) (hs : s.size <= 100000) (hp : p <= s.size) (hm1 : -9223372036854775808 <= most) (hm2 : most <= 9223372036854775807) (h : RAt w g s p 0 parts) :
  Calls Tryz.prog 163 #[.pointer (some ⟨g, 0,none⟩), .int .i64 most] w fun e w' => FStr (readS s p most) s parts g w e w' := by
 have hr := fuint_any s p parts g w hs hp h; clear h
 cases hu : readU s p 0 0 with
 | error k =>
  rw [hu] at hr; have he : readS s p most = .error k := by unfold readS; rw [hu]
  have hk : (k != 0) = true := by rcases readU_err s p 0 0 k hu with rfl | rfl <;> rfl
  have HE := gh he; have HR := gh hr; clear hr hu he
  go_enter Tryz.func163,Tryz.ntmps163
  go_wp2_with fail
  refine HR.o.mono ?_; rintro e w2 ⟨ho2,rfl,q,hq,ha2⟩; have d2 := ha2.cell 2
  simp at d2
  have HA2 := gh ha2; clear ha2
  go_wp2
  go_ret
  refine ⟨ho2,?_⟩; rw [HE.o]; exact ⟨rfl,q,hq,HA2.o⟩
 | ok nq =>
  obtain ⟨n,q⟩ := nq; rw [hu] at hr; obtain ⟨hn,hpq,hqs⟩ := readU_lt s p 0 0 (by decide) (by omega) n q hu
  have hre : readS s p most = if (n : Int) <= most then (if n <= s.size - q then .ok (s.extract q (q + n),q + n) else .error 14) else .error 5 := by unfold readS; rw [hu]
  have HR := gh hr; clear hr hu
  by_cases hb : (n : Int) <= most
  ·have hge : decide (most < 0) = false := by simp; omega
   have hcv : IntKind.u64.wrap most = most := by rw [IntKind.wrap_u64]; omega
   have hle : decide (most < (n : Int)) = false := by simp; omega
   rw [if_pos hb] at hre; have hsub : IntKind.i64.wrap ((s.size : Int) - (q : Int)) = (s.size : Int) - (q : Int) := IntWalk.i64_in _ (by omega)
   have hcv2 : IntKind.u64.wrap ((s.size : Int) - (q : Int)) = (s.size : Int) - (q : Int) := by rw [IntKind.wrap_u64]; omega
   by_cases hc : n <= s.size - q
   ·rw [if_pos hc] at hre
    have HE := gh hre; have hd : decide ((s.size : Int) - (q : Int) < (n : Int)) = false := by simp; omega
    have hin : IntKind.i64.wrap (n : Int) = (n : Int) := IntWalk.i64_in _ (by omega)
    clear hre
    go_enter Tryz.func163,Tryz.ntmps163
    go_wp2_with fail
    refine HR.o.mono ?_; rintro e w2 ⟨ho2,rfl,ha2⟩; have h0 := ha2.cell 0; have h1 := ha2.cell 1; have hf := ha2.frozen 1; have d2 := ha2.cell 2
    simp at h0 h1 d2
    have HA2 := gh ha2; have HO2 := gh ho2; clear ha2 ho2 HR
    go_wp2
    go_quiet (fail)
    obtain ⟨W,hW⟩ := gXe (((w2.drewN nq).setCell ⟨g, 1,none⟩ (.int .i64 ((q : Int) + (n : Int)))))
    have h2 : RAt W g s (q + n) 0 parts := by
     rw [hW]; exact (Blk.set_ (Blk.drewN HA2.o nq) 1 (.int .i64 ((q : Int) + (n : Int))))
    have hO : Only w W g := by rw [hW]; exact (HO2.o.drewN nq).set_ (p := ⟨g, 1,none⟩) (.inl rfl) _
    have g0 := h2.cell 0; have g1 := h2.cell 1
    simp at g0 g1
    have H2 := gh h2; have HO := gh hO; have HW := gh hW; clear h2 hO hW
    go_wp2
    rw [<- HW.o]
    go_quiet (fail)
    go_wp2
    go_ret
    refine ⟨HO.o.drewN _,?_⟩; rw [HE.o]; exact ⟨rfl,Blk.drewN H2.o _⟩
   ·rw [if_neg hc] at hre
    have HE := gh hre; have hd : decide ((s.size : Int) - (q : Int) < (n : Int)) = true := by simp; omega
    clear hre
    go_enter Tryz.func163,Tryz.ntmps163
    go_wp2_with fail
    refine HR.o.mono ?_; rintro e w2 ⟨ho2,rfl,ha2⟩; have h0 := ha2.cell 0; have h1 := ha2.cell 1; have d2 := ha2.cell 2
    simp at h0 h1 d2
    have HA2 := gh ha2; have HO2 := gh ho2; clear ha2 ho2 HR
    go_wp2
    go_quiet (fail)
    go_wp2_with fail
    refine (ffail_any 14 s q parts g _ (Blk.drewN HA2.o nq)).mono ?_; rintro e w3 ⟨rfl,ha3,ho3⟩; have HA3 := gh ha3; have HO3 := gh ((HO2.o.drewN nq).trans ho3); clear ha3 ho3
    go_wp2
    go_ret
    refine ⟨HO3.o,?_⟩; rw [HE.o]; exact ⟨rfl,q,hqs,HA3.o⟩
  ·rw [if_neg hb] at hre
   have HE := gh hre; clear hre
   by_cases hz : 0 <= most
   ·have hge : decide (most < 0) = false := by simp; omega
    have hcv : IntKind.u64.wrap most = most := by rw [IntKind.wrap_u64]; omega
    have hle : decide (most < (n : Int)) = true := by simp; omega
    go_enter Tryz.func163,Tryz.ntmps163
    go_wp2_with fail
    refine HR.o.mono ?_; rintro e w2 ⟨ho2,rfl,ha2⟩; have d2 := ha2.cell 2
    simp at d2
    have HA2 := gh ha2; have HO2 := gh ho2; clear ha2 ho2 HR
    go_wp2_with fail
    refine (ffail_any 5 s q parts g _ HA2.o).mono ?_; rintro e w3 ⟨rfl,ha3,ho3⟩; have HA3 := gh ha3; have HO3 := gh (HO2.o.trans ho3); clear ha3 ho3
    go_wp2
    go_ret
    refine ⟨HO3.o,?_⟩; rw [HE.o]; exact ⟨rfl,q,hqs,HA3.o⟩
   ·have hge : decide (most < 0) = true := by simp; omega
    go_enter Tryz.func163,Tryz.ntmps163
    go_wp2_with fail
    refine HR.o.mono ?_; rintro e w2 ⟨ho2,rfl,ha2⟩; have d2 := ha2.cell 2
    simp at d2
    have HA2 := gh ha2; have HO2 := gh ho2; clear ha2 ho2 HR
    go_wp2_with fail
    refine (ffail_any 5 s q parts g _ HA2.o).mono ?_; rintro e w3 ⟨rfl,ha3,ho3⟩; have HA3 := gh ha3; have HO3 := gh (HO2.o.trans ho3); clear ha3 ho3
    go_wp2
    go_ret
    refine ⟨HO3.o,?_⟩; rw [HE.o]; exact ⟨rfl,q,hqs,HA3.o⟩
def BegunAt (s : ByteArray) (p : Nat) (w : World) (e : Ending) (w' : World) : Prop :=
 ∃ g,w.heap.size <= g /\ e = .returned (.pointer (some ⟨g, 0,none⟩)) /\ RAt w' g s p 0 0 /\ Below w.heap.size w w'
def BegunOut (s : ByteArray) (a : Int) (w : World) (e : Ending) (w' : World) : Prop :=
 ∃ g,w.heap.size <= g /\ e = .returned (.pointer (some ⟨g, 0,none⟩)) /\ Blk w' g 116 #[.string s, .int .i64 a, .int .i64 3, .int .i64 0] /\ Below w.heap.size w w'
theorem begin_in (s : ByteArray) (p : Nat) (w : World) (hs : s.size <= 100000) (hp : p <= s.size) :
  Calls Tryz.prog 57 #[.string s, .int .i64 p] w fun e w' => BegunAt s p w e w' := by
 have hd : decide ((s.size : Int) < (p : Int)) = false := by simp; omega
 have hd2 : decide (s.size < p) = false := by simp; omega
 have hd3 : decide ((p : Int) < 0) = false := by simp
 go_enter Tryz.func57,Tryz.ntmps57
 go_wp2
 go_ret
 exact ⟨w.heap.size,Nat.le_refl _,rfl,Blk.new w 116 _, (Below.refl _ _).alloc (Nat.le_refl _) _⟩
theorem begin_out (s : ByteArray) (a : Int) (w : World) (hs : s.size <= 100000) (hp : a < 0 \/ (s.size : Int) < a) :
  Calls Tryz.prog 57 #[.string s, .int .i64 a] w fun e w' => BegunOut s a w e w' := by
 by_cases hz : a < 0
 ·have hd3 : decide (a < 0) = true := by simp; omega
  go_enter Tryz.func57,Tryz.ntmps57
  go_wp2
  go_ret
  exact ⟨w.heap.size,Nat.le_refl _,rfl,Blk.new w 116 _, (Below.refl _ _).alloc (Nat.le_refl _) _⟩
 ·have hd3 : decide (a < 0) = false := by simp; omega
  have hd : decide ((s.size : Int) < a) = true := by simp; omega
  go_enter Tryz.func57,Tryz.ntmps57
  go_wp2
  go_ret
  exact ⟨w.heap.size,Nat.le_refl _,rfl,Blk.new w 116 _, (Below.refl _ _).alloc (Nat.le_refl _) _⟩
end Go.Proofs.YtaamihdibpioaaaGreat
