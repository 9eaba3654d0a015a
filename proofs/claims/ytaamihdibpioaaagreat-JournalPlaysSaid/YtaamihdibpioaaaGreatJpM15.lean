/- What a reader reads: a byte, a number. -/
import Derived.Test.YtaamihdibpioaaaGreatJpM6
import Derived.Test.YtaamihdibpioaaaGreatJpM14
import Derived.Recover
import Derived.StillTailTactics
import Derived.Defers
import Derived.Laws.Pointers
set_option maxRecDepth 100000
set_option maxHeartbeats 40000000
namespace Go.Proofs.YtaamihdibpioaaaGreat
open Go.RowKit
theorem must_ok (e : Int) (w : World) : Calls Tryz.prog 151 #[.bool true, .int .i64 e] w fun e w' => e = .returned (.tuple #[]) /\ w = w' := by
 go_enter Tryz.func151,Tryz.ntmps151
 go_wp2
 go_end0
 exact ⟨rfl,rfl⟩
theorem must_true (b : Bool) (e : Int) (w : World) (h : b = true) : Calls Tryz.prog 151 #[.bool b, .int .i64 e] w fun e w' => e = .returned (.tuple #[]) /\ w = w' := by
 subst h; exact must_ok e w
theorem must_bad (k : Int) (w : World) : Calls Tryz.prog 151 #[.bool false, .int .i64 k] w fun e w' => e = .panicked [{ v := .iface 25 (.int .i64 k), recovered := false }] /\ w = w' := by
 go_enter Tryz.func151,Tryz.ntmps151
 go_wp2
 exact ⟨rfl,rfl,rfl⟩
theorem must_false (b : Bool) (k : Int) (w : World) (h : b = false) : Calls Tryz.prog 151 #[.bool b, .int .i64 k] w fun e w' => e = .panicked [{ v := .iface 25 (.int .i64 k), recovered := false }] /\ w = w' := by
 subst h; exact must_bad k w
def gives (k : Int) : Ending := .panicked [{ v := .iface 25 (.int .i64 k),recovered := false }]
def At (w : World) (g : Nat) (s : ByteArray) (p : Nat) (parts : Int) : Prop := Blk w g 220 #[.string s, .int .i64 p, .int .i64 parts]
def ByteRead (s : ByteArray) (p : Nat) (parts : Int) (g : Nat) (c : UInt8) (w : World) (e : Ending) (w' : World) : Prop :=
 e = .returned (.int .u8 c.toNat) /\ At w' g s (p + 1) parts /\ Only w w' g
def GaveUp (k : Int) (g : Nat) (w : World) (e : Ending) (w' : World) : Prop := e = gives k /\ Only w w' g
theorem byte_torn (s : ByteArray) (p : Nat) (parts : Int) (g : Nat) (w : World) (hs : s.size <= 100000) (hp : s.size <= p) (hp2 : p <= 100000) (h : At w g s p parts) :
  Calls Tryz.prog 150 #[.pointer (some ⟨g, 0,none⟩)] w fun e w' => GaveUp 14 g w e w' := by
 have hd : decide ((p : Int) < (s.size : Int)) = false := by simp; omega
 have hd2 : decide (p < s.size) = false := by simp; omega
 have h0 := h.cell 0; have h1 := h.cell 1
 simp at h0 h1
 go_enter Tryz.func150,Tryz.ntmps150
 go_wp2
 go_still_tail 10, (by kernel_rfl)
 change wpList _ _ _ _ _ w.drew
 go_wp2_with fail
 refine (must_bad _ _).mono ?_; rintro e w' ⟨rfl,rfl⟩
 go_wp2
 exact ⟨rfl,rfl, (Only.refl w g).drew⟩
theorem byte_ok (s : ByteArray) (p : Nat) (parts : Int) (g : Nat) (w : World) (hs : s.size <= 100000) (hp : p < s.size) (h : At w g s p parts) :
  Calls Tryz.prog 150 #[.pointer (some ⟨g, 0,none⟩)] w fun e w' => ByteRead s p parts g (s[p]'hp) w e w' := by
 have hd : decide ((p : Int) < (s.size : Int)) = true := by simp; omega
 have hd2 : decide (p < s.size) = true := by simp; omega
 have h0 := h.cell 0; have h1 := h.cell 1; have hf := h.frozen 1
 simp at h0 h1
 have hlt : (p : Int) < (s.size : Int) := by omega
 have hi1 : (0 : Int) <= (p : Int) := by omega
 have hsub : IntKind.i64.wrap (p : Int) = (p : Int) := IntWalk.i64_in _ (by omega)
 have hw1 : IntKind.i64.wrap ((p : Int) + 1) = (p : Int) + 1 := IntWalk.i64_in _ (by omega)
 obtain ⟨W,hW⟩ := gXe ((w.setCell ⟨g, 1,none⟩ (.int .i64 ((p : Int) + 1))).drew)
 have h2 : At W g s (p + 1) parts := by
  rw [hW]; exact (Blk.set_ h 1 (.int .i64 ((p : Int) + 1)))
 have hO : Only w W g := by rw [hW]; exact ((Only.refl w g).set_ (p := ⟨g, 1,none⟩) (.inl rfl) _).drew
 have g0 := h2.cell 0; have g1 := h2.cell 1
 simp at g0 g1
 obtain ⟨c,hc⟩ := gXe (s[p]'hp); rw [<- hc]; have H2 := gh h2; have HO := gh hO; have HW := gh hW; clear h2 hO hW
 go_enter Tryz.func150,Tryz.ntmps150
 go_wp2
 go_still_tail 10, (by kernel_rfl)
 change wpList _ _ _ _ _ w.drew
 go_wp2_with fail
 refine (must_ok _ _).mono ?_; rintro e w' ⟨rfl,rfl⟩
 go_wp2
 rw [<- HW.o]
 go_quiet (fail)
 go_wp2
 go_ret
 exact ⟨by rw [hc]; rfl,Blk.drewN H2.o nq,HO.o.drewN nq⟩
theorem u8_and127 (x : Nat) (h : x < 256) : bits .and .u8 (x : Int) 127 = ((x % 128 : Nat) : Int) := by
 have key : ∀ x : Fin 256,bits .and .u8 ((x.val : Nat) : Int) 127 = ((x.val % 128 : Nat) : Int) := by decide +kernel
 exact key ⟨x,h⟩
theorem pow128 (i : Nat) : (2 : Nat) ^ (7 * i) = 128 ^ i := by rw [Nat.pow_mul]
theorem group_lt {c i : Nat} (hi : i < 10) (hc : i < 9 \/ c <= 1) : c % 128 * 128 ^ i <= 9223372036854775808 := by
 rcases hc with h | h
 ·have h1 : 128 ^ i <= 128 ^ 8 := Nat.pow_le_pow_right (by omega) (by omega)
  have h2 : c % 128 * 128 ^ i <= 127 * 128 ^ 8 := Nat.mul_le_mul (by omega) h1
  have h3 : (127 : Nat) * 128 ^ 8 = 9151314442816847872 := by decide
  omega
 ·have h1 : 128 ^ i <= 128 ^ 9 := Nat.pow_le_pow_right (by omega) (by omega)
  have h2 : c % 128 * 128 ^ i <= 1 * 128 ^ 9 := Nat.mul_le_mul (by omega) h1
  have h3 : (1 : Nat) * 128 ^ 9 = 9223372036854775808 := by decide
  omega
theorem pow_lt {i : Nat} (hi : i < 10) : 128 ^ i <= 9223372036854775808 := by
 have h1 : 128 ^ i <= 128 ^ 9 := Nat.pow_le_pow_right (by omega) (by omega)
 have h3 : (128 : Nat) ^ 9 = 9223372036854775808 := by decide
 omega
theorem ofInt_u64 (a : Nat) (ha : a < 18446744073709551616) : (BitVec.ofInt 64 (a : Int)).toNat = a := by
 rw [BitVec.ofInt_natCast,BitVec.toNat_ofNat]; exact Nat.mod_eq_of_lt (by omega)
theorem u64_or_nat (a b : Nat) (ha : a < 18446744073709551616) (hb : b < 18446744073709551616) : bits .or .u64 (a : Int) (b : Int) = ((a ||| b : Nat) : Int) := by
 have hx : a ||| b < 2 ^ 64 := Nat.or_lt_two_pow (by omega) (by omega)
 show IntKind.u64.wrap ((BitVec.ofInt 64 (a : Int) ||| BitVec.ofInt 64 (b : Int)).toNat : Int) = _
 rw [BitVec.toNat_or,ofInt_u64 a ha,ofInt_u64 b hb,IntKind.wrap_u64]
 omega
theorem group_or {n c i : Nat} (hi : i < 10) (hc : i < 9 \/ c <= 1) (hn : n < 128 ^ i) :
  bits .or .u64 (n : Int) ((c % 128 * 128 ^ i : Nat) : Int) = ((n + c % 128 * 128 ^ i : Nat) : Int) := by
 have h1 := group_lt hi hc; have h2 := pow_lt hi; rw [u64_or_nat _ _ (by omega) (by omega)]
 have h3 := Nat.shiftLeft_add_eq_or_of_lt (b := n) (i := 7 * i) (by rw [pow128]; exact hn) (c % 128)
 rw [Nat.shiftLeft_eq,pow128] at h3; rw [Nat.or_comm, <- h3,Nat.add_comm]
theorem group_shl {n c i : Nat} (hi : i < 10) (hc : i < 9 \/ c <= 1) (hn : n < 128 ^ i) :
  bits .or .u64 (n : Int) (IntKind.u64.wrap ((c : Int) % 128 * 2 ^ (7 * i))) = ((n + c % 128 * 128 ^ i : Nat) : Int) := by
 have h1 := group_lt hi hc
 have e : (c : Int) % 128 * 2 ^ (7 * i) = ((c % 128 * 128 ^ i : Nat) : Int) := by
  rw [<- pow128]; simp
 rw [e,IntKind.wrap_u64,show ((c % 128 * 128 ^ i : Nat) : Int) % 18446744073709551616 = ((c % 128 * 128 ^ i : Nat) : Int) by omega]
 exact group_or hi hc hn
theorem group_next {n c i : Nat} (hn : n < 128 ^ i) : n + c % 128 * 128 ^ i < 128 ^ (i + 1) := by
 have : c % 128 * 128 ^ i <= 127 * 128 ^ i := Nat.mul_le_mul_right _ (by omega)
 rw [Nat.pow_succ]
 omega
def readU (s : ByteArray) (p i n : Nat) : Except Int (Nat × Nat) :=
 if h : p < s.size then
  if i < 10 /\ (i < 9 \/ (s[p]'h).toNat <= 1) /\ (i = 0 \/ (s[p]'h).toNat ≠ 0) then
   if (s[p]'h).toNat < 128 then .ok (n + (s[p]'h).toNat % 128 * 128 ^ i,p + 1) else readU s (p + 1) (i + 1) (n + (s[p]'h).toNat % 128 * 128 ^ i)
  else .error 5
 else .error 14
termination_by s.size - p
theorem readU_torn {s : ByteArray} {p i n : Nat} (h : ¬ p < s.size) : readU s p i n = .error 14 := by rw [readU,dif_neg h]
theorem readU_bad {s : ByteArray} {p i n : Nat} (h : p < s.size) (hb : ¬ (i < 10 /\ (i < 9 \/ (s[p]'h).toNat <= 1) /\ (i = 0 \/ (s[p]'h).toNat ≠ 0))) : readU s p i n = .error 5 := by rw [readU,dif_pos h,if_neg hb]
theorem readU_end {s : ByteArray} {p i n : Nat} (h : p < s.size) (hb : i < 10 /\ (i < 9 \/ (s[p]'h).toNat <= 1) /\ (i = 0 \/ (s[p]'h).toNat ≠ 0)) (hl : (s[p]'h).toNat < 128) : readU s p i n = .ok (n + (s[p]'h).toNat % 128 * 128 ^ i, p + 1) := by
 rw [readU,dif_pos h,if_pos hb,if_pos hl]
theorem readU_on {s : ByteArray} {p i n : Nat} (h : p < s.size) (hb : i < 10 /\ (i < 9 \/ (s[p]'h).toNat <= 1) /\ (i = 0 \/ (s[p]'h).toNat ≠ 0)) (hl : ¬ (s[p]'h).toNat < 128) : readU s p i n = readU s (p + 1) (i + 1) (n + (s[p]'h).toNat % 128 * 128 ^ i) := by
 rw [readU,dif_pos h,if_pos hb,if_neg hl]
def NumRead (r : Except Int (Nat × Nat)) (s : ByteArray) (parts : Int) (g : Nat) (w : World) (e : Ending) (w' : World) : Prop :=
 match r with
 | .ok (n,q) => e = .returned (.int .u64 n) /\ At w' g s q parts /\ Only w w' g
 | .error k => e = gives k /\ Only w w' g
def Reads5 (s : ByteArray) (p i n p0 : Nat) : Prop := i <= 10 /\ n < 128 ^ i /\ p <= s.size /\ readU s p0 0 0 = readU s p i n
theorem ruint_any (s : ByteArray) (p : Nat) (parts : Int) (g : Nat) (w : World) (hs : s.size <= 100000) (hp : p <= s.size) (h : At w g s p parts) :
  Calls Tryz.prog 126 #[.pointer (some ⟨g, 0,none⟩)] w fun e w' => NumRead (readU s p 0 0) s parts g w e w' := by
 have H := gh h; clear h
 go_enter Tryz.func126,Tryz.ntmps126
 go_wp2_with fail
 go_loopw [2, 3] (fun nv iv wr => ∃ i n q : Nat,nv = .int .u64 n /\ iv = .int .i64 i /\ Hid (Reads5 s q i n p) /\ Hid (At wr g s q parts) /\ Hid (Only w wr g)) (fun _ iv _ => (11 - intOf iv).toNat)
 case atStart => exact ⟨0, 0,p,rfl,rfl,gh ⟨by omega,by decide,hp,rfl⟩,H,gh (Only.refl w g)⟩
 case round =>
  obtain ⟨i,n,q,rfl,rfl,HR,HA,HO⟩ := hrel
  by_cases hq : q < s.size
  ·obtain ⟨c, hc⟩ := gXe (s[q]'hq)
   have hb := byte_ok s q parts g wr hs hq HA.o; rw [<- hc] at hb; have HB := gh hb; have hru := HR.o.2.2.2; have hn := HR.o.2.1; have hi := HR.o.1; have hc8 := c.toNat_lt; have hend := readU_end (s := s) (i := i) (n := n) hq; have hon := readU_on (s := s) (i := i) (n := n) hq; have hbad := readU_bad (s := s) (i := i) (n := n) hq; rw [<- hc] at hend hon hbad; rw [<- hru] at hend hon hbad; have HEND := gh hend; have HON := gh hon; have HBAD := gh hbad; have HN := gh hn; clear hend hon hbad hru hb hc hn
   by_cases hok : i < 10 /\ (i < 9 \/ c.toNat <= 1) /\ (i = 0 \/ c.toNat ≠ 0)
   ·have HOK := gh hok
    obtain ⟨hk1,hk2,hk3⟩ := hok
    have hor0 : i = 0 -> bits .or .u64 (n : Int) ((c.toNat : Int) % 128) = ((n + c.toNat % 128 * 128 ^ i : Nat) : Int) := fun h0 => by
     have := group_or HOK.o.1 HOK.o.2.1 HN.o; rw [<- this,h0]
     simp
    have HOR0 := gh hor0; clear hor0; have hand : bits .and .u8 (c.toNat : Int) 127 = ((c.toNat % 128 : Nat) : Int) := u8_and127 _ hc8; have h7 : IntKind.i64.wrap (7 * (i : Int)) = 7 * (i : Int) := IntWalk.i64_in _ (by omega)
    have h7n : decide (7 * (i : Int) < 0) = false := by simp; omega
    clear HA HR
    go_wp2_with fail
    all_goals
     refine HB.o.mono ?_; rintro e w2 ⟨rfl,ha2,ho2⟩; have HA2 := gh ha2; have HO2 := gh (HO.o.trans ho2); clear ha2 ho2 HB HO
     go_wp2_with fail
    all_goals try (exfalso; omega)
    all_goals
     refine (must_true _ _ _ (by first | rfl | (simp; omega))).mono ?_
     rintro e w3 ⟨rfl,rfl⟩
     go_wp2_with fail
    all_goals
     first
     | (go_ret
        refine HEND.o HOK.o (by omega) ▸ ?_
        first
        | exact ⟨by rw [<- group_shl HOK.o.1 HOK.o.2.1 HN.o]; rfl,HA2.o,HO2.o⟩
        | exact ⟨by rw [<- HOR0.o (by omega)]; rfl,HA2.o,HO2.o⟩)
     | (go_roundw
        case rel =>
         first
         | exact ⟨i + 1,_,q + 1,by rw [group_shl HOK.o.1 HOK.o.2.1 HN.o],rfl,gh ⟨by omega,group_next HN.o,hq,HON.o HOK.o (by omega)⟩,HA2,HO2⟩
         | exact ⟨i + 1,_,q + 1,by rw [HOR0.o (by omega)],by simp; omega,gh ⟨by omega,group_next HN.o,hq,HON.o HOK.o (by omega)⟩,HA2,HO2⟩
        case measure => simp [intOf]; omega)
   ·have he := HBAD.o hok
    have HE := gh he; have HK2 := gh hok; clear HA HR he hok
    go_wp2_with fail
    all_goals
     refine HB.o.mono ?_; rintro e w2 ⟨rfl,ha2,ho2⟩; have HO2 := gh (HO.o.trans ho2); clear ha2 ho2 HB HO
     go_wp2_with fail
    all_goals try (exfalso; have := HK2.o; omega)
    all_goals
     refine (must_false _ _ _ (by first | rfl | (have := HK2.o; simp; omega))).mono ?_
     rintro e w3 ⟨rfl,rfl⟩
     go_wp2
     exact ⟨rfl,by unfold NumRead; rw [HE.o]; exact ⟨rfl,HO2.o⟩⟩
  ·have hb := gh (byte_torn s q parts g wr hs (by omega) (by have := HR.o.2.2.1; omega) HA.o)
   have he : readU s p 0 0 = .error 14 := by rw [HR.o.2.2.2,readU_torn hq]
   have HE := gh he; clear he HR HA
   go_wp2_with fail
   refine hb.out.mono ?_; rintro e w2 ⟨rfl,ho2⟩; have ho := HO.o.trans ho2; clear hb HO ho2; unfold gives
   go_wp2
   refine ⟨rfl,?_⟩; unfold NumRead; rw [HE.o]; exact ⟨rfl,ho⟩
end Go.Proofs.YtaamihdibpioaaaGreat
namespace Go.Proofs.YtaamihdibpioaaaGreat
open Go.RowKit
def unzig (n : Nat) : Int := if n % 2 = 1 then -1 - ((n / 2 : Nat) : Int) else ((n / 2 : Nat) : Int)
theorem u64_and_nat (a b : Nat) (ha : a < 18446744073709551616) (hb : b < 18446744073709551616) : bits .and .u64 (a : Int) (b : Int) = ((a &&& b : Nat) : Int) := by
 have hx : a &&& b < 2 ^ 64 := Nat.and_lt_two_pow _ (by omega)
 show IntKind.u64.wrap ((BitVec.ofInt 64 (a : Int) &&& BitVec.ofInt 64 (b : Int)).toNat : Int) = _
 rw [BitVec.toNat_and,ofInt_u64 a ha,ofInt_u64 b hb,IntKind.wrap_u64]
 omega
theorem u64_and_one (n : Nat) (h : n < 18446744073709551616) : bits .and .u64 (n : Int) 1 = ((n % 2 : Nat) : Int) := by
 have := u64_and_nat n 1 h (by omega)
 rw [Nat.and_one_is_mod] at this; exact this
theorem i64_xor_zero (a : Nat) (ha : a < 9223372036854775808) : bits .xor .i64 (a : Int) 0 = a := by
 have := i64_xor_nat a 0 ha (by omega)
 simpa using this
theorem i64_xor_m1 (a : Nat) (ha : a < 9223372036854775808) : bits .xor .i64 (a : Int) (-1) = -1 - (a : Int) := by
 show IntKind.i64.wrap ((BitVec.ofInt 64 (a : Int) ^^^ BitVec.ofInt 64 (-1)).toNat : Int) = _
 have e : BitVec.ofInt 64 (-1) = BitVec.allOnes 64 := by decide
 rw [e,BitVec.xor_allOnes,BitVec.toNat_not,ofInt_i64 a ha,IntKind.wrap_i64]
 omega
theorem readU_lt (s : ByteArray) (p i n : Nat) (hn : n < 128 ^ i) (hi : i <= 10) : ∀ m q, readU s p i n = .ok (m, q) -> m < 18446744073709551616 /\ p < q /\ q <= s.size := by
 intro m q hr
 by_cases hp : p < s.size
 ·by_cases hb : i < 10 /\ (i < 9 \/ (s[p]'hp).toNat <= 1) /\ (i = 0 \/ (s[p]'hp).toNat ≠ 0)
  ·by_cases hl : (s[p]'hp).toNat < 128
   ·rw [readU_end hp hb hl] at hr
    have h1 := group_lt (c := (s[p]'hp).toNat) hb.1 hb.2.1; have h2 := pow_lt hb.1; injection hr with hr; injection hr with h3 h4
    omega
   ·rw [readU_on hp hb hl] at hr
    have := readU_lt s (p + 1) (i + 1) _ (group_next hn) (by omega) m q hr
    omega
  ·rw [readU_bad hp hb] at hr
   cases hr
 ·rw [readU_torn hp] at hr
  cases hr
termination_by s.size - p
theorem unzig_go (n : Nat) (h : n < 18446744073709551616) : bits .xor .i64 (IntKind.i64.wrap ((n : Int) / 2)) (IntKind.i64.wrap (-(IntKind.i64.wrap (bits .and .u64 (n : Int) 1)))) = unzig n := by
 rw [u64_and_one n h]; have e1 : IntKind.i64.wrap ((n : Int) / 2) = ((n / 2 : Nat) : Int) := (IntWalk.i64_in _ (by omega)).trans (by omega)
 rw [e1]; unfold unzig
 by_cases hp : n % 2 = 1
 ·rw [if_pos hp, hp]
  exact i64_xor_m1 (n / 2) (by omega)
 ·have h0 : n % 2 = 0 := by omega
  rw [if_neg hp,h0]; exact i64_xor_zero (n / 2) (by omega)
def IntRead (r : Except Int (Nat × Nat)) (s : ByteArray) (parts : Int) (g : Nat) (w : World) (e : Ending) (w' : World) : Prop :=
 match r with
 | .ok (n,q) => e = .returned (.int .i64 (unzig n)) /\ At w' g s q parts /\ Only w w' g
 | .error k => e = gives k /\ Only w w' g
theorem rint_any (s : ByteArray) (p : Nat) (parts : Int) (g : Nat) (w : World) (hs : s.size <= 100000) (hp : p <= s.size) (h : At w g s p parts) :
  Calls Tryz.prog 176 #[.pointer (some ⟨g, 0,none⟩)] w fun e w' => IntRead (readU s p 0 0) s parts g w e w' := by
 have hr := ruint_any s p parts g w hs hp h; clear h
 cases hu : readU s p 0 0 with
 | ok nq =>
  obtain ⟨n,q⟩ := nq; rw [hu] at hr; have hz := unzig_go n (readU_lt s p 0 0 (by decide) (by omega) n q hu).1
  have HZ := gh hz; have HR := gh hr; clear hr hu hz
  go_enter Tryz.func176,Tryz.ntmps176
  go_wp2_with fail
  refine HR.o.mono ?_; rintro e w2 ⟨rfl,ha2,ho2⟩
  go_wp2
  go_ret
  refine ⟨?_,ha2,ho2⟩; have hz := HZ.o; simp only [IntKind.wrap_i64] at hz; rw [<- hz]
  simp [wrap64]
 | error k =>
  rw [hu] at hr; have HR := gh hr; clear hr hu
  go_enter Tryz.func176,Tryz.ntmps176
  go_wp2_with fail
  refine HR.o.mono ?_; rintro e w2 ⟨rfl,ho2⟩; unfold gives
  go_wp2
  exact ⟨rfl,rfl,ho2⟩
end Go.Proofs.YtaamihdibpioaaaGreat
namespace Go.Proofs.YtaamihdibpioaaaGreat
open Go.RowKit
def readS (s : ByteArray) (p : Nat) (most : Int) : Except Int (ByteArray × Nat) :=
 match readU s p 0 0 with
 | .error k => .error k
 | .ok (n,q) => if (n : Int) <= most then (if n <= s.size - q then .ok (s.extract q (q + n),q + n) else .error 14) else .error 5
def StrRead (r : Except Int (ByteArray × Nat)) (s : ByteArray) (parts : Int) (g : Nat) (w : World) (e : Ending) (w' : World) : Prop :=
 match r with
 | .ok (t,q) => e = .returned (.string t) /\ At w' g s q parts /\ Only w w' g
 | .error k => e = gives k /\ Only w w' g
theorem rstr_any (s : ByteArray) (p : Nat) (parts most : Int) (g : Nat) (w : World) (hs : s.size <= 100000) (hp : p <= s.size) (hm1 : -9223372036854775808 <= most) (hm2 : most <= 9223372036854775807) (h : At w g s p parts) :
  Calls Tryz.prog 178 #[.pointer (some ⟨g, 0,none⟩), .int .i64 most] w fun e w' => StrRead (readS s p most) s parts g w e w' := by
 have hr := ruint_any s p parts g w hs hp h; clear h
 cases hu : readU s p 0 0 with
 | error k =>
  rw [hu] at hr; have he : readS s p most = .error k := by unfold readS; rw [hu]
  have HE := gh he; have HR := gh hr; clear hr hu he
  go_enter Tryz.func178,Tryz.ntmps178
  go_wp2_with fail
  refine HR.o.mono ?_; rintro e w2 ⟨rfl,ho2⟩; unfold gives
  go_wp2
  refine ⟨rfl,?_⟩; unfold StrRead; rw [HE.o]; exact ⟨rfl,ho2⟩
 | ok nq =>
  obtain ⟨n,q⟩ := nq; rw [hu] at hr; obtain ⟨hn,hpq,hqs⟩ := readU_lt s p 0 0 (by decide) (by omega) n q hu
  have hre : readS s p most = if (n : Int) <= most then (if n <= s.size - q then .ok (s.extract q (q + n),q + n) else .error 14) else .error 5 := by unfold readS; rw [hu]
  have HR := gh hr; clear hr hu
  by_cases hb : (n : Int) <= most
  ·have hge : decide ((0 : Int) <= most) = true := by simp; omega
   have hcv : IntKind.u64.wrap most = most := by rw [IntKind.wrap_u64]; omega
   have hle : decide ((n : Int) <= most) = true := by simp; omega
   have hin : IntKind.i64.wrap (n : Int) = (n : Int) := IntWalk.i64_in _ (by omega)
   rw [if_pos hb] at hre
   by_cases hc : n <= s.size - q
   ·rw [if_pos hc] at hre
    have HE := gh hre; have hd : decide ((n : Int) <= (s.size : Int) - (q : Int)) = true := by simp; omega
    have hsub : IntKind.i64.wrap ((s.size : Int) - (q : Int)) = (s.size : Int) - (q : Int) := IntWalk.i64_in _ (by omega)
    have hsum : IntKind.i64.wrap ((q : Int) + (n : Int)) = (q : Int) + (n : Int) := IntWalk.i64_in _ (by omega)
    have hback : IntKind.i64.wrap ((q : Int) + (n : Int) - (n : Int)) = (q : Int) := by rw [IntWalk.i64_in _ (by omega)]; omega
    have hext : s.extract (q + n - n) (q + n) = s.extract q (q + n) := by rw [Nat.add_sub_cancel]
    have HX := gh hsum; have HY := gh hback; clear hre hsum hback hext
    go_enter Tryz.func178,Tryz.ntmps178
    go_wp2_with fail
    refine HR.o.mono ?_; rintro e w2 ⟨rfl,ha2,ho2⟩; obtain ⟨W,hW⟩ := gXe ((w2.setCell ⟨g, 1,none⟩ (.int .i64 ((q : Int) + (n : Int)))).drew)
    have h2 : At W g s (q + n) parts := by
     rw [hW]; exact (Blk.set_ ha2 1 (.int .i64 ((q : Int) + (n : Int))))
    have hO : Only w W g := by rw [hW]; exact (ho2.set_ (p := ⟨g, 1,none⟩) (.inl rfl) _).drew
    have h0 := ha2.cell 0; have h1 := ha2.cell 1; have hf := ha2.frozen 1; have g0 := h2.cell 0; have g1 := h2.cell 1
    simp at h0 h1 g0 g1
    have H2 := gh h2; have HO := gh hO; have HW := gh hW; clear ha2 ho2 HR h2 hO hW
    go_wp2_with fail
    refine (must_ok _ _).mono ?_; rintro e w' ⟨rfl,rfl⟩
    go_wp2_with fail
    go_still_tail 13, (by kernel_rfl)
    change wpList _ _ _ _ _ w2.drew
    go_wp2_with fail
    refine (must_ok _ _).mono ?_; rintro e w' ⟨rfl,rfl⟩
    go_wp2
    rw [<- HW.o]
    go_quiet (fail)
    go_wp2
    go_ret
    unfold StrRead; rw [HE.o]; exact ⟨rfl,Blk.drewN H2.o nq,HO.o.drewN nq⟩
   ·rw [if_neg hc] at hre
    have HE := gh hre; have hd : decide ((n : Int) <= (s.size : Int) - (q : Int)) = false := by simp; omega
    have hsub : IntKind.i64.wrap ((s.size : Int) - (q : Int)) = (s.size : Int) - (q : Int) := IntWalk.i64_in _ (by omega)
    clear hre
    go_enter Tryz.func178,Tryz.ntmps178
    go_wp2_with fail
    refine HR.o.mono ?_; rintro e w2 ⟨rfl,ha2,ho2⟩; have h0 := ha2.cell 0; have h1 := ha2.cell 1
    simp at h0 h1
    have HO := gh ho2; clear ha2 ho2 HR
    go_wp2_with fail
    refine (must_ok _ _).mono ?_; rintro e w' ⟨rfl,rfl⟩
    go_wp2_with fail
    go_still_tail 13, (by kernel_rfl)
    change wpList _ _ _ _ _ w2.drew
    go_wp2_with fail
    refine (must_bad _ _).mono ?_; rintro e w' ⟨rfl,rfl⟩
    go_wp2
    refine ⟨rfl,?_⟩; unfold StrRead; rw [HE.o]; exact ⟨rfl,HO.o.drew⟩
  ·rw [if_neg hb] at hre
   have HE := gh hre; clear hre
   by_cases hz : 0 <= most
   ·have hge : decide ((0 : Int) <= most) = true := by simp; omega
    have hcv : IntKind.u64.wrap most = most := by rw [IntKind.wrap_u64]; omega
    have hle : decide ((n : Int) <= most) = false := by simp; omega
    go_enter Tryz.func178,Tryz.ntmps178
    go_wp2_with fail
    refine HR.o.mono ?_; rintro e w2 ⟨rfl,ha2,ho2⟩; have HO := gh ho2; clear ha2 ho2 HR
    go_wp2_with fail
    refine (must_bad _ _).mono ?_; rintro e w' ⟨rfl,rfl⟩
    go_wp2
    refine ⟨rfl,?_⟩; unfold StrRead; rw [HE.o]; exact ⟨rfl,HO.o⟩
   ·have hge : decide ((0 : Int) <= most) = false := by simp; omega
    go_enter Tryz.func178,Tryz.ntmps178
    go_wp2_with fail
    refine HR.o.mono ?_; rintro e w2 ⟨rfl,ha2,ho2⟩; have HO := gh ho2; clear ha2 ho2 HR
    go_wp2_with fail
    refine (must_bad _ _).mono ?_; rintro e w' ⟨rfl,rfl⟩
    go_wp2
    refine ⟨rfl,?_⟩; unfold StrRead; rw [HE.o]; exact ⟨rfl,HO.o⟩
end Go.Proofs.YtaamihdibpioaaaGreat
namespace Go.Proofs.YtaamihdibpioaaaGreat
open Go.RowKit
theorem alloc_size' (w : World) (o : Obj) : (w.alloc o).heap.size = w.heap.size + 1 := by simp
theorem as_errno (W : World) (v : Value) : (Instr.typeAssert (.iface 25 v) 20 25 true).run Tryz.prog W = .ok (.tuple #[v, .bool true]) W := by kernel_rfl
theorem as_nil (W : World) : (Instr.typeAssert .nilIface 20 25 true).run Tryz.prog W = .ok (.tuple #[.int .i64 0, .bool false]) W := by kernel_rfl
theorem catch_panicking (p q : Addr) (k : Int) (x y : Value) (older : List PanicEntry) (w : World) (hc : w.cell? p = some x) (hz : w.frozen? p = false)
  (hd : (w.setCell p (.int .i64 0)).cell? q = some y) (hy : (w.setCell p (.int .i64 0)).frozen? q = false) :
  CallsD Tryz.prog 149 #[.pointer (some p), .pointer (some q)] (.panicking ({ v := .iface 25 (.int .i64 k), recovered := false } :: older)) w fun e u' w' =>
   e = .returned (.tuple #[]) /\ u' = .panicking ({ v := .iface 25 (.int .i64 k),recovered := true } :: older) /\ w' = (w.setCell p (.int .i64 0)).setCell q (.int .i64 k) := by
 refine callsD_of_wpS Tryz.func149 rfl fun c₀ cs hu => ?_
 apply wpS_seq
 apply wpS_region
 simp [wpOpsS,go_sem,recoverD,hu,Tryz.ntmps149,Exit.thenS,as_errno]
 apply wpS_seq
 apply wpS_region
 simp [wpOpsS,go_sem,Exit.thenS]
 refine wpS_cond (t := true) (by simp [Act.eval]) ?_
 simp only [if_true]
 apply wpS_region
 simp [wpOpsS,go_sem,hc,hz,hd,hy,bodyPostS,results,Tryz.results149]
theorem catch_idle (p q : Addr) (w : World) :
  CallsD Tryz.prog 149 #[.pointer (some p), .pointer (some q)] .returning w fun e u' w' => e = .returned (.tuple #[]) /\ u' = .returning /\ w' = w := by
 refine callsD_of_wpS Tryz.func149 rfl fun c₀ cs hu => ?_
 apply wpS_seq
 apply wpS_region
 simp [wpOpsS,go_sem,recoverD,hu,Tryz.ntmps149,Exit.thenS,as_nil]
 apply wpS_seq
 apply wpS_region
 simp [wpOpsS,go_sem,Exit.thenS]
 refine wpS_cond (t := false) (by simp [Act.eval]) ?_
 simp only [Bool.false_eq_true,if_false]; refine wpS_of_wp (wp_skip ?_)
 cases c₀
 simp_all [bodyPostS,results,Tryz.results149]
def CloRead (r : Except Int (Nat × Nat)) (s : ByteArray) (parts : Int) (g m : Nat) (w : World) (e : Ending) (w' : World) : Prop :=
 ∃ w1, Only w w1 g /\ Only w1 w' m /\ match r with
  | .ok (n,q) => e = .returned (.tuple #[]) /\ At w' g s q parts /\ Blk w' m 147 #[.int .u64 n]
  | .error k => e = gives k /\ w1 = w'
theorem clo_any (s : ByteArray) (p : Nat) (parts : Int) (g m : Nat) (w : World) (hs : s.size <= 100000) (hp : p <= s.size) (h : At w g s p parts) (hm : Blk w m 147 #[.int .u64 0]) (hgm : g ≠ m) :
  Calls Tryz.prog 125 #[.pointer (some ⟨g, 0,none⟩), .pointer (some ⟨m, 0,none⟩)] w fun e w' => CloRead (readU s p 0 0) s parts g m w e w' := by
 have hr := ruint_any s p parts g w hs hp h; have HR := gh hr
 cases hu : readU s p 0 0 with
 | ok nq =>
  obtain ⟨n,q⟩ := nq; rw [hu] at hr; have HR := gh hr; have HM := gh hm; clear hr hu h hm
  go_enter Tryz.func125,Tryz.ntmps125
  go_wp2_with fail
  refine HR.o.mono ?_; rintro e w2 ⟨rfl,ha2,ho2⟩; have hm2 : Blk w2 m 147 #[.int .u64 0] := HM.o.grown ho2 (by simp; omega)
  have c0 := hm2.cell 0; have f0 := hm2.frozen 0
  simp at c0
  have hm3 := hm2.set_ 0 (.int .u64 n); have ha3 := Blk.far ha2 (p := ⟨m, 0,none⟩) hgm (.int .u64 n); have HM3 := gh hm3; have HA3 := gh ha3; have HO2 := gh ho2; clear hm3 ha3 ho2 hm2 ha2
  go_wp2
  go_end0
  exact ⟨w2,HO2.o, (Only.refl w2 m).set_ (p := ⟨m, 0,none⟩) (.inl rfl) _,rfl,HA3.o,HM3.o⟩
 | error k =>
  rw [hu] at hr; have HR := gh hr; clear hr hu h hm
  go_enter Tryz.func125,Tryz.ntmps125
  go_wp2_with fail
  refine HR.o.mono ?_; rintro e w2 ⟨rfl,ho2⟩; unfold gives
  go_wp2
  exact ⟨rfl,w2,ho2,Only.refl w2 m,rfl,rfl⟩
def ReadsRes (r : Except Int (Nat × Nat)) (m : Nat) (w : World) (e : Ending) (w' : World) : Prop :=
 Only w w' m /\ match r with
  | .ok (n,q) => e = .returned (.tuple #[.int .i64 q, .int .i64 0]) /\ Blk w' m 147 #[.int .u64 n]
  | .error k => e = .returned (.tuple #[.int .i64 0, .int .i64 k]) /\ Blk w' m 147 #[.int .u64 0]
theorem reads_uint (s : ByteArray) (p : Nat) (m : Nat) (w : World) (hs : s.size <= 100000) (hp : p <= s.size) (hm : Blk w m 147 #[.int .u64 0]) :
  Calls Tryz.prog 124 #[.string s, .int .i64 p, .func (Fn.func 125) #[] #[.pointer (some ⟨m, 0,none⟩)]] w fun e w' => ReadsRes (readU s p 0 0) m w e w' := by
 have hmf : ∀ (fn : Fn) (first cap : Array Value) (w : World), (Instr.makeFunc fn first cap).run Tryz.prog w = .ok (.func fn first cap) w := fun _ _ _ _ => rfl
 have hd : decide ((s.size : Int) < (p : Int)) = false := by simp; omega
 have hd2 : decide (s.size < p) = false := by simp; omega
 obtain ⟨W,hW⟩ := gXe (((w.alloc (.cells #[.int .i64 0] 3)).alloc (.cells #[.int .i64 0] 25)).alloc (.cells #[.string s, .int .i64 p, .int .i64 0] 220)); have hmlt := hm.lt; have b0 : Blk W w.heap.size 3 #[.int .i64 0] := by rw [hW]; exact ((Blk.new w 3 _).alloc _).alloc _
 have b1 : Blk W (w.heap.size + 1) 25 #[.int .i64 0] := by
  rw [hW]; have := Blk.new (w.alloc (.cells #[.int .i64 0] 3)) 25 #[.int .i64 0]; rw [alloc_size'] at this; exact this.alloc _
 have b2 : At W (w.heap.size + 1 + 1) s p 0 := by
  rw [hW]; have := Blk.new ((w.alloc (.cells #[.int .i64 0] 3)).alloc (.cells #[.int .i64 0] 25)) 220 #[.string s, .int .i64 p, .int .i64 0]; rw [alloc_size',alloc_size'] at this; exact this
 have bm : Blk W m 147 #[.int .u64 0] := by rw [hW]; exact ((hm.alloc _).alloc _).alloc _
 have hO : Only w W m := by rw [hW]; exact (((Only.refl w m).alloc _).alloc _).alloc _
 have hclo := clo_any s p 0 (w.heap.size + 1 + 1) m W hs hp b2 bm (by omega)
 have HW := gh hW; have B0 := gh b0; have B1 := gh b1; have HO := gh hO; have HC := gh hclo; have HBM := gh bm; clear hm hW b0 b1 b2 bm hO hclo
 cases hu : readU s p 0 0 with
 | ok nq =>
  obtain ⟨n,q⟩ := nq; have HU := gh hu; clear hu
  go_enter_defers Tryz.func124,Tryz.ntmps124
  go_wp2_with fail
  rw [<- HW.o]; refine HC.o.mono ?_; rw [HU.o]; rintro e w2 ⟨w1,ho1,ho2,rfl,ha,hb⟩; have b0 := (B0.o.grown ho1 (by simp; omega)).grown ho2 (by simp; omega)
  have b1 := (B1.o.grown ho1 (by simp)).grown ho2 (by simp; omega)
  have c2 := ha.cell 1; have c0 := b0.cell 0; have f0 := b0.frozen 0; have c1 := b1.cell 0; have f1 := b1.frozen 0
  simp at c0 c1 c2
  have d1 := (Blk.far b1 (p := ⟨w.heap.size, 0,none⟩) (by simp) (.int .i64 q)).cell 0
  have g1 := (Blk.far b1 (p := ⟨w.heap.size, 0,none⟩) (by simp) (.int .i64 q)).frozen 0
  simp at d1
  have hO2 : Only w w2 m := by
   have h1 : Only w w1 m := ⟨ho1.os.trans HO.o.os,ho1.tape.trans HO.o.tape,ho1.output.trans HO.o.output,Nat.le_trans HO.o.size ho1.size,fun i hi hne => (ho1.block i (Nat.lt_of_lt_of_le hi HO.o.size) (by simp; omega)).trans (HO.o.block i hi hne)⟩
   exact h1.trans ho2
  have hbm : Blk ((w2.setCell ⟨w.heap.size, 0, none⟩ (.int .i64 q)).setCell ⟨w.heap.size + 1, 0, none⟩ (.int .i64 0)) m 147 #[.int .u64 n] :=
   Blk.far (Blk.far hb (p := ⟨w.heap.size, 0,none⟩) (by simp; omega) _) (p := ⟨w.heap.size + 1, 0,none⟩) (by simp; omega) _
  have hO3 : Only w ((w2.setCell ⟨w.heap.size, 0, none⟩ (.int .i64 q)).setCell ⟨w.heap.size + 1, 0, none⟩ (.int .i64 0)) m :=
   (hO2.set_ (p := ⟨w.heap.size, 0,none⟩) (.inr (by simp)) _).set_ (p := ⟨w.heap.size + 1, 0,none⟩) (.inr (by simp)) _
  have e0 := ((b0.set_ 0 (.int .i64 q)).far (p := ⟨w.heap.size + 1, 0,none⟩) (by simp) (.int .i64 0)).cell 0
  have e1 := ((Blk.far b1 (p := ⟨w.heap.size, 0,none⟩) (by simp) (.int .i64 q)).set_ 0 (.int .i64 0)).cell 0
  simp at e0 e1
  have HB := gh hbm; have HO3 := gh hO3; have E0 := gh e0; have E1 := gh e1; clear b0 b1 ha hb ho1 ho2 hO2 hbm hO3 HC B0 B1 HO e0 e1 HW
  go_wp2
  refine leaves_cons (f := 149) (args := #[.pointer (some ⟨w.heap.size, 0,none⟩), .pointer (some ⟨w.heap.size + 1, 0,none⟩)]) (by simp) (by simp [go_sem]) ?_
  refine (catch_idle _ _ _).mono ?_; rintro e u' w'' ⟨rfl,rfl,rfl⟩; have e0 := E0.o; have e1 := E1.o
  simp [Leaves,settle,results,Tryz.results124,go_sem,e0,e1]
  exact ⟨HO3.o,rfl,HB.o⟩
 | error k =>
  have HU := gh hu; clear hu
  go_enter_defers Tryz.func124,Tryz.ntmps124
  go_wp2_with fail
  rw [<- HW.o]; refine HC.o.mono ?_; rw [HU.o]; rintro e w2 ⟨w1,ho1,ho2,rfl,rfl⟩; have b0 := B0.o.grown ho1 (by simp; omega)
  have b1 := B1.o.grown ho1 (by simp)
  have bm := HBM.o.grown ho1 (by simp; omega)
  have c0 := b0.cell 0; have f0 := b0.frozen 0; have d1 := (Blk.far b1 (p := ⟨w.heap.size, 0,none⟩) (by simp) (.int .i64 0)).cell 0
  have g1 := (Blk.far b1 (p := ⟨w.heap.size, 0,none⟩) (by simp) (.int .i64 0)).frozen 0
  simp at c0 d1
  have hO2 : Only w w1 m := ⟨ho1.os.trans HO.o.os,ho1.tape.trans HO.o.tape,ho1.output.trans HO.o.output,Nat.le_trans HO.o.size ho1.size,fun i hi hne => (ho1.block i (Nat.lt_of_lt_of_le hi HO.o.size) (by simp; omega)).trans (HO.o.block i hi hne)⟩
  have hbm : Blk ((w1.setCell ⟨w.heap.size, 0, none⟩ (.int .i64 0)).setCell ⟨w.heap.size + 1, 0, none⟩ (.int .i64 k)) m 147 #[.int .u64 0] :=
   Blk.far (Blk.far bm (p := ⟨w.heap.size, 0,none⟩) (by simp; omega) _) (p := ⟨w.heap.size + 1, 0,none⟩) (by simp; omega) _
  have hO3 : Only w ((w1.setCell ⟨w.heap.size, 0, none⟩ (.int .i64 0)).setCell ⟨w.heap.size + 1, 0, none⟩ (.int .i64 k)) m :=
   (hO2.set_ (p := ⟨w.heap.size, 0,none⟩) (.inr (by simp)) _).set_ (p := ⟨w.heap.size + 1, 0,none⟩) (.inr (by simp)) _
  have e0 := ((b0.set_ 0 (.int .i64 0)).far (p := ⟨w.heap.size + 1, 0,none⟩) (by simp) (.int .i64 k)).cell 0
  have e1 := ((Blk.far b1 (p := ⟨w.heap.size, 0,none⟩) (by simp) (.int .i64 0)).set_ 0 (.int .i64 k)).cell 0
  simp at e0 e1
  have HB := gh hbm; have HO3 := gh hO3; have E0 := gh e0; have E1 := gh e1; clear b0 b1 bm ho1 ho2 hO2 hbm hO3 HC B0 B1 HO e0 e1 HW; unfold gives
  go_wp2
  refine leaves_cons (f := 149) (args := #[.pointer (some ⟨w.heap.size, 0,none⟩), .pointer (some ⟨w.heap.size + 1, 0,none⟩)]) (by simp) (by simp [go_sem]) ?_
  refine (catch_panicking _ _ k _ _ [] _ c0 f0 d1 g1).mono ?_; rintro e u' w'' ⟨rfl,rfl,rfl⟩; have e0 := E0.o; have e1 := E1.o
  simp [Leaves,settle,results,Tryz.results124,go_sem,e0,e1]
  exact ⟨HO3.o,rfl,HB.o⟩
def UintRead (r : Except Int (Nat × Nat)) (w : World) (e : Ending) (w' : World) : Prop :=
 Below w.heap.size w w' /\ match r with
  | .ok (n,q) => e = .returned (.tuple #[.int .u64 n, .int .i64 q, .int .i64 0])
  | .error k => e = .returned (.tuple #[.int .u64 0, .int .i64 0, .int .i64 k])
theorem readuint_any (s : ByteArray) (p : Nat) (w : World) (hs : s.size <= 100000) (hp : p <= s.size) :
  Calls Tryz.prog 104 #[.string s, .int .i64 p] w fun e w' => UintRead (readU s p 0 0) w e w' := by
 have hmf : ∀ (fn : Fn) (first cap : Array Value) (w : World), (Instr.makeFunc fn first cap).run Tryz.prog w = .ok (.func fn first cap) w := fun _ _ _ _ => rfl
 obtain ⟨W,hW⟩ := gXe (w.alloc (.cells #[.int .u64 0] 147)); have bm : Blk W w.heap.size 147 #[.int .u64 0] := by rw [hW]; exact Blk.new w 147 _
 have hB : Below w.heap.size w W := by rw [hW]; exact (Below.refl _ _).alloc (Nat.le_refl _) _
 have hr := reads_uint s p w.heap.size W hs hp bm; have HW := gh hW; have HB := gh hB; have HR := gh hr; clear hW bm hB hr
 cases hu : readU s p 0 0 with
 | ok nq =>
  obtain ⟨n,q⟩ := nq; have HU := gh hu; clear hu
  go_enter Tryz.func104,Tryz.ntmps104
  go_wp2_with fail
  rw [<- HW.o]; refine HR.o.mono ?_; rw [HU.o]; rintro e w2 ⟨ho,rfl,hb⟩; have c0 := hb.cell 0; have f0 := hb.frozen 0; have c1 := (hb.set_ 0 (.int .u64 n)).cell 0
  simp at c0 c1
  have hl := (Go.Proofs.YtaamihdibpioaaaGreat.Below.only HB.o ho (Nat.le_refl _) HB.o.size).setCell (p := ⟨w.heap.size, 0,none⟩) (Nat.le_refl _) (.int .u64 n); have HL := gh hl; clear hl ho hb HR HB HW
  go_wp2
  refine bodyPost_ret (v := .tuple #[.int .u64 n, .int .i64 q, .int .i64 0]) (by simp [results,Tryz.results104,go_sem,c1]) rfl ?_
  exact ⟨HL.o,rfl⟩
 | error k =>
  have HU := gh hu; clear hu
  go_enter Tryz.func104,Tryz.ntmps104
  go_wp2_with fail
  rw [<- HW.o]; refine HR.o.mono ?_; rw [HU.o]; rintro e w2 ⟨ho,rfl,hb⟩; have c0 := hb.cell 0; have f0 := hb.frozen 0; have c1 := (hb.set_ 0 (.int .u64 0)).cell 0
  simp at c0 c1
  have hl := (Go.Proofs.YtaamihdibpioaaaGreat.Below.only HB.o ho (Nat.le_refl _) HB.o.size).setCell (p := ⟨w.heap.size, 0,none⟩) (Nat.le_refl _) (.int .u64 0); have HL := gh hl; clear hl ho hb HR HB HW
  go_wp2
  refine bodyPost_ret (v := .tuple #[.int .u64 0, .int .i64 0, .int .i64 k]) (by simp [results,Tryz.results104,go_sem,c1]) rfl ?_
  exact ⟨HL.o,rfl⟩
end Go.Proofs.YtaamihdibpioaaaGreat
namespace Go.Proofs.YtaamihdibpioaaaGreat
open Go.RowKit
def CloDid (r : Except Int Nat) (s : ByteArray) (g m : Nat) (Q Z : World -> Prop) (w : World) (e : Ending) (w' : World) : Prop :=
 ∃ w1, Only w w1 g /\ Only w1 w' m /\ match r with
  | .ok q => e = .returned (.tuple #[]) /\ (∃ parts : Int,At w' g s q parts) /\ Q w'
  | .error k => e = gives k /\ Z w'
def ReadsDid (r : Except Int Nat) (m : Nat) (Q Z : World -> Prop) (w : World) (e : Ending) (w' : World) : Prop :=
 Only w w' m /\ match r with
  | .ok q => e = .returned (.tuple #[.int .i64 q, .int .i64 0]) /\ Q w'
  | .error k => e = .returned (.tuple #[.int .i64 0, .int .i64 k]) /\ Z w'
def Apart2 (b : Nat) (Q : World -> Prop) : Prop := ∀ (W : World) (p : Addr) (u : Value), (p.block = b \/ p.block = b + 1) -> Q W -> Q (W.setCell p u)
theorem reads_any (CLO : FuncId) (caps : Array Value) (r : Except Int Nat) (s : ByteArray) (p : Nat) (m : Nat) (Q Z : World -> Prop) (w : World) (hs : s.size <= 100000) (hp : p <= s.size) (hm : m < w.heap.size)
  (henter : ∀ (args : Array Value) (W : World), (callFunc CLO args).run Tryz.prog W = .ok (.enter CLO args) W) (hQ : Apart2 w.heap.size Q) (hZ : Apart2 w.heap.size Z)
  (hclo : ∀ W,Below w.heap.size w W -> W.heap.size = w.heap.size + 1 + 1 + 1 -> At W (w.heap.size + 1 + 1) s p 0 -> Calls Tryz.prog CLO (#[.pointer (some ⟨w.heap.size + 1 + 1, 0,none⟩)] ++ caps) W fun e w' => CloDid r s (w.heap.size + 1 + 1) m Q Z W e w') :
  Calls Tryz.prog 124 #[.string s, .int .i64 p, .func (Fn.func CLO) #[] caps] w fun e w' => ReadsDid r m Q Z w e w' := by
 have hmf : ∀ (fn : Fn) (first cap : Array Value) (w : World), (Instr.makeFunc fn first cap).run Tryz.prog w = .ok (.func fn first cap) w := fun _ _ _ _ => rfl
 have hd : decide ((s.size : Int) < (p : Int)) = false := by simp; omega
 have hd2 : decide (s.size < p) = false := by simp; omega
 obtain ⟨W,hW⟩ := gXe (((w.alloc (.cells #[.int .i64 0] 3)).alloc (.cells #[.int .i64 0] 25)).alloc (.cells #[.string s, .int .i64 p, .int .i64 0] 220)); have b0 : Blk W w.heap.size 3 #[.int .i64 0] := by rw [hW]; exact ((Blk.new w 3 _).alloc _).alloc _
 have b1 : Blk W (w.heap.size + 1) 25 #[.int .i64 0] := by
  rw [hW]; have := Blk.new (w.alloc (.cells #[.int .i64 0] 3)) 25 #[.int .i64 0]; rw [alloc_size'] at this; exact this.alloc _
 have b2 : At W (w.heap.size + 1 + 1) s p 0 := by
  rw [hW]; have := Blk.new ((w.alloc (.cells #[.int .i64 0] 3)).alloc (.cells #[.int .i64 0] 25)) 220 #[.string s, .int .i64 p, .int .i64 0]; rw [alloc_size',alloc_size'] at this; exact this
 have hO : Only w W m := by rw [hW]; exact (((Only.refl w m).alloc _).alloc _).alloc _
 have hBW : Below w.heap.size w W := by rw [hW]; exact (((Below.refl _ w).alloc (Nat.le_refl _) _).alloc (by simp) _).alloc (by simp; omega) _
 have hc := hclo W hBW (by rw [hW]; simp) b2
 have HW := gh hW; have B0 := gh b0; have B1 := gh b1; have HO := gh hO; have HC := gh hc; have HQ := gh hQ; have HZ := gh hZ; clear hW b0 b1 b2 hO hc hclo hBW hQ hZ
 cases hu : r with
 | ok q =>
  have HU := gh hu; clear hu
  go_enter_defers Tryz.func124,Tryz.ntmps124
  go_wp2_with fail
  rw [<- HW.o]; refine HC.o.mono ?_; rw [HU.o]; rintro e w2 ⟨w1,ho1,ho2,rfl,⟨parts,ha⟩,hq⟩; have b0 := (B0.o.grown ho1 (by simp; omega)).grown ho2 (by simp; omega)
  have b1 := (B1.o.grown ho1 (by simp)).grown ho2 (by simp; omega)
  have c2 := ha.cell 1; have c0 := b0.cell 0; have f0 := b0.frozen 0; have c1 := b1.cell 0; have f1 := b1.frozen 0
  simp at c0 c1 c2
  have d1 := (Blk.far b1 (p := ⟨w.heap.size, 0,none⟩) (by simp) (.int .i64 q)).cell 0
  have g1 := (Blk.far b1 (p := ⟨w.heap.size, 0,none⟩) (by simp) (.int .i64 q)).frozen 0
  simp at d1
  have hO2 : Only w w2 m := by
   have h1 : Only w w1 m := ⟨ho1.os.trans HO.o.os,ho1.tape.trans HO.o.tape,ho1.output.trans HO.o.output,Nat.le_trans HO.o.size ho1.size,fun i hi hne => (ho1.block i (Nat.lt_of_lt_of_le hi HO.o.size) (by simp; omega)).trans (HO.o.block i hi hne)⟩
   exact h1.trans ho2
  have hq3 : Q ((w2.setCell ⟨w.heap.size, 0, none⟩ (.int .i64 q)).setCell ⟨w.heap.size + 1, 0, none⟩ (.int .i64 0)) :=
   HQ.o _ ⟨w.heap.size + 1, 0,none⟩ _ (.inr rfl) (HQ.o _ ⟨w.heap.size, 0,none⟩ _ (.inl rfl) hq)
  have hO3 : Only w ((w2.setCell ⟨w.heap.size, 0, none⟩ (.int .i64 q)).setCell ⟨w.heap.size + 1, 0, none⟩ (.int .i64 0)) m :=
   (hO2.set_ (p := ⟨w.heap.size, 0,none⟩) (.inr (by simp)) _).set_ (p := ⟨w.heap.size + 1, 0,none⟩) (.inr (by simp)) _
  have e0 := ((b0.set_ 0 (.int .i64 q)).far (p := ⟨w.heap.size + 1, 0,none⟩) (by simp) (.int .i64 0)).cell 0
  have e1 := ((Blk.far b1 (p := ⟨w.heap.size, 0,none⟩) (by simp) (.int .i64 q)).set_ 0 (.int .i64 0)).cell 0
  simp at e0 e1
  have HB := gh hq3; have HO3 := gh hO3; have E0 := gh e0; have E1 := gh e1; clear b0 b1 ha hq ho1 ho2 hO2 hq3 hO3 HC B0 B1 HO e0 e1 HW
  go_wp2
  refine leaves_cons (f := 149) (args := #[.pointer (some ⟨w.heap.size, 0,none⟩), .pointer (some ⟨w.heap.size + 1, 0,none⟩)]) (by simp) (by simp [go_sem]) ?_
  refine (catch_idle _ _ _).mono ?_; rintro e u' w'' ⟨rfl,rfl,rfl⟩; have e0 := E0.o; have e1 := E1.o
  simp [Leaves,settle,results,Tryz.results124,go_sem,e0,e1]
  exact ⟨HO3.o,rfl,HB.o⟩
 | error k =>
  have HU := gh hu; clear hu
  go_enter_defers Tryz.func124,Tryz.ntmps124
  go_wp2_with fail
  rw [<- HW.o]; refine HC.o.mono ?_; rw [HU.o]; rintro e w2 ⟨w1,ho1,ho2,rfl,hz⟩; have b0 := (B0.o.grown ho1 (by simp; omega)).grown ho2 (by simp; omega)
  have b1 := (B1.o.grown ho1 (by simp)).grown ho2 (by simp; omega)
  have c0 := b0.cell 0; have f0 := b0.frozen 0; have d1 := (Blk.far b1 (p := ⟨w.heap.size, 0,none⟩) (by simp) (.int .i64 0)).cell 0
  have g1 := (Blk.far b1 (p := ⟨w.heap.size, 0,none⟩) (by simp) (.int .i64 0)).frozen 0
  simp at c0 d1
  have hO2 : Only w w2 m := by
   have h1 : Only w w1 m := ⟨ho1.os.trans HO.o.os,ho1.tape.trans HO.o.tape,ho1.output.trans HO.o.output,Nat.le_trans HO.o.size ho1.size,fun i hi hne => (ho1.block i (Nat.lt_of_lt_of_le hi HO.o.size) (by simp; omega)).trans (HO.o.block i hi hne)⟩
   exact h1.trans ho2
  have hq3 : Z ((w2.setCell ⟨w.heap.size, 0, none⟩ (.int .i64 0)).setCell ⟨w.heap.size + 1, 0, none⟩ (.int .i64 k)) :=
   HZ.o _ ⟨w.heap.size + 1, 0,none⟩ _ (.inr rfl) (HZ.o _ ⟨w.heap.size, 0,none⟩ _ (.inl rfl) hz)
  have hO3 : Only w ((w2.setCell ⟨w.heap.size, 0, none⟩ (.int .i64 0)).setCell ⟨w.heap.size + 1, 0, none⟩ (.int .i64 k)) m :=
   (hO2.set_ (p := ⟨w.heap.size, 0,none⟩) (.inr (by simp)) _).set_ (p := ⟨w.heap.size + 1, 0,none⟩) (.inr (by simp)) _
  have e0 := ((b0.set_ 0 (.int .i64 0)).far (p := ⟨w.heap.size + 1, 0,none⟩) (by simp) (.int .i64 k)).cell 0
  have e1 := ((Blk.far b1 (p := ⟨w.heap.size, 0,none⟩) (by simp) (.int .i64 0)).set_ 0 (.int .i64 k)).cell 0
  simp at e0 e1
  have HB := gh hq3; have HO3 := gh hO3; have E0 := gh e0; have E1 := gh e1; clear b0 b1 hz ho1 ho2 hO2 hq3 hO3 HC B0 B1 HO e0 e1 HW; unfold gives
  go_wp2
  refine leaves_cons (f := 149) (args := #[.pointer (some ⟨w.heap.size, 0,none⟩), .pointer (some ⟨w.heap.size + 1, 0,none⟩)]) (by simp) (by simp [go_sem]) ?_
  refine (catch_panicking _ _ k _ _ [] _ c0 f0 d1 g1).mono ?_; rintro e u' w'' ⟨rfl,rfl,rfl⟩; have e0 := E0.o; have e1 := E1.o
  simp [Leaves,settle,results,Tryz.results124,go_sem,e0,e1]
  exact ⟨HO3.o,rfl,HB.o⟩
theorem reads_out (CLO : FuncId) (caps : Array Value) (s : ByteArray) (at_ : Int) (w : World) (hs : s.size <= 100000) (hp : at_ < 0 \/ (s.size : Int) < at_) :
  Calls Tryz.prog 124 #[.string s, .int .i64 at_, .func (Fn.func CLO) #[] caps] w fun e w' => e = .returned (.tuple #[.int .i64 0, .int .i64 3]) /\ Below w.heap.size w w' := by
 obtain ⟨W,hW⟩ := gXe (((w.alloc (.cells #[.int .i64 0] 3)).alloc (.cells #[.int .i64 3] 25))); have b0 : Blk W w.heap.size 3 #[.int .i64 0] := by rw [hW]; exact (Blk.new w 3 _).alloc _
 have b1 : Blk W (w.heap.size + 1) 25 #[.int .i64 3] := by
  rw [hW]; have := Blk.new (w.alloc (.cells #[.int .i64 0] 3)) 25 #[.int .i64 3]; rw [alloc_size'] at this; exact this
 have hBW : Below w.heap.size w W := by rw [hW]; exact ((Below.refl _ w).alloc (Nat.le_refl _) _).alloc (by simp) _
 have e0 := b0.cell 0; have e1 := b1.cell 0
 simp at e0 e1
 have HW := gh hW; have HB := gh hBW; have E0 := gh e0; have E1 := gh e1; clear hW hBW e0 e1 b0 b1
 by_cases hz : at_ < 0
 ·have i1 : decide (at_ < 0) = true := by simp; omega
  go_enter_defers Tryz.func124,Tryz.ntmps124
  go_wp2
  rw [<- HW.o]; have e0 := E0.o; have e1 := E1.o
  simp [bodyPostD,Leaves,settle,results,Tryz.results124,go_sem,e0,e1]
  exact HB.o
 ·have i1 : decide (at_ < 0) = false := by simp; omega
  have i2 : decide ((s.size : Int) < at_) = true := by simp; omega
  go_enter_defers Tryz.func124,Tryz.ntmps124
  go_wp2
  rw [<- HW.o]; have e0 := E0.o; have e1 := E1.o
  simp [bodyPostD,Leaves,settle,results,Tryz.results124,go_sem,e0,e1]
  exact HB.o
end Go.Proofs.YtaamihdibpioaaaGreat
namespace Go.Proofs.YtaamihdibpioaaaGreat
open Go.RowKit
theorem run_enter {P : Program} {f : FuncId} {fn : Func} {c : Code} (hf : P.funcs[f]? = some fn) (hname : (fn.name == "runtime.NumGoroutine") = false) (hb : fn.body = some c) (args : Array Value) (w : World) :
  (callFunc f args).run P w = .ok (.enter f args) w := by
 have h1 : fn.name ≠ "runtime.NumGoroutine" := by simpa using hname
 simp [callFunc,hf,h1,hb]
theorem apart_blk {b m : Nat} {t : TypeId} {cs : Array Value} (h : m < b) : Apart2 b (fun W => Blk W m t cs) := fun W p u hp hq => Blk.far hq (by rcases hp with h' | h' <;> omega) u
def place {A : Type} (r : Except Int (A × Nat)) : Except Int Nat := match r with
 | .ok (_,q) => .ok q
 | .error k => .error k
end Go.Proofs.YtaamihdibpioaaaGreat
namespace Go.Proofs.YtaamihdibpioaaaGreat
open Go.RowKit
theorem bits_run0 (f : Nat) (w : World) : (callFunc 129 #[.float .f64 f]).run Tryz.prog w = .ok (.value (.int .u64 f)) w := by
 rw [run_callFunc_extern Tryz.func129 (by kernel_rfl) (by kernel_rfl) (by kernel_rfl) (e := Extern.MathFloatBits.float64bits) (by kernel_rfl)]
 rfl
def fbyte (x k : Nat) : UInt8 := UInt8.ofNat (x / 2 ^ (56 - 8 * k) % 256)
theorem fbyte_nat (x k : Nat) : ((x : Int) / 2 ^ (56 - 8 * k) % 256) = ((fbyte x k).toNat : Int) := by
 have e : ((x : Int) / 2 ^ (56 - 8 * k) % 256) = ((x / 2 ^ (56 - 8 * k) % 256 : Nat) : Int) := by simp
 have h : (fbyte x k).toNat = x / 2 ^ (56 - 8 * k) % 256 := by unfold fbyte; simp
 rw [e,h]
def fbytes (x k : Nat) : List UInt8 := (List.range k).map (fbyte x)
theorem fbytes_succ (x k : Nat) : fbytes x (k + 1) = fbytes x k ++ [fbyte x k] := by simp [fbytes,List.range_succ]
end Go.Proofs.YtaamihdibpioaaaGreat
