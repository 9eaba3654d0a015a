/- The code's reader: the beginning of a part, how many items, a float. -/
import Derived.Test.YtaamihdibpioaaaGreatJpM16
import Derived.Deep.DeepCutAuto
set_option maxRecDepth 100000
set_option maxHeartbeats 40000000
namespace Go.Proofs.YtaamihdibpioaaaGreat
open Go.RowKit
def Begun (s : ByteArray) (p m g : Nat) (w : World) (e : Ending) (w' : World) : Prop := e = .returned (.tuple #[]) /\ At w' g s p ((m + 1 : Nat) : Int) /\ Only w w' g
theorem rbegin_ok (s : ByteArray) (p m deep g : Nat) (w : World) (hd : deep <= 12) (hm : m + 1 <= 200) (h : At w g s p (m : Int)) :
  Calls Tryz.prog 175 #[.pointer (some ⟨g, 0,none⟩), .int .i64 deep] w fun e w' => Begun s p m g w e w' := by
 have hw1 : IntKind.i64.wrap ((m : Int) + 1) = (m : Int) + 1 := IntWalk.i64_in _ (by omega)
 have i1 : decide ((deep : Int) <= 12) = true := by simp; omega
 have i2 : decide ((m : Int) + 1 <= 200) = true := by simp; omega
 have h2 := h.cell 2; have f2 := h.frozen 2
 simp at h2
 obtain ⟨W,hW⟩ := gXe (w.setCell ⟨g, 2,none⟩ (.int .i64 ((m : Int) + 1)))
 have hA : At W g s p ((m + 1 : Nat) : Int) := by
  rw [hW]; have := Blk.set_ h 2 (.int .i64 ((m : Int) + 1)); exact this
 have hO : Only w W g := by rw [hW]; exact (Only.refl w g).set_ (p := ⟨g, 2,none⟩) (.inl rfl) _
 have c2 := hA.cell 2
 simp at c2
 have HA := gh hA; have HO := gh hO; have HW := gh hW; clear h hA hO hW hm hd
 go_enter Tryz.func175,Tryz.ntmps175
 go_upto_region 1 with fail
 rw [<- HW.o]
 go_wp2_with fail
 refine (must_true _ _ _ (by first | rfl | (simp; omega))).mono ?_
 rintro e w3 ⟨rfl,rfl⟩
 go_wp2
 go_end0
 exact ⟨rfl,HA.o,HO.o⟩
theorem rbegin_bad (s : ByteArray) (p m deep g : Nat) (w : World) (hm : m <= 200) (hbad : 12 < deep \/ 200 < m + 1) (h : At w g s p (m : Int)) :
  Calls Tryz.prog 175 #[.pointer (some ⟨g, 0,none⟩), .int .i64 deep] w fun e w' => GaveUp 5 g w e w' := by
 have hw1 : IntKind.i64.wrap ((m : Int) + 1) = (m : Int) + 1 := IntWalk.i64_in _ (by omega)
 have h2 := h.cell 2; have f2 := h.frozen 2
 simp at h2
 obtain ⟨W,hW⟩ := gXe (w.setCell ⟨g, 2,none⟩ (.int .i64 ((m : Int) + 1)))
 have hA : At W g s p ((m + 1 : Nat) : Int) := by
  rw [hW]; have := Blk.set_ h 2 (.int .i64 ((m : Int) + 1)); exact this
 have hO : Only w W g := by rw [hW]; exact (Only.refl w g).set_ (p := ⟨g, 2,none⟩) (.inl rfl) _
 have c2 := hA.cell 2
 simp at c2
 have HA := gh hA; have HO := gh hO; have HW := gh hW; clear h hA hO hW
 by_cases hd : 12 < deep
 ·have i1 : decide ((deep : Int) <= 12) = false := by simp; omega
  clear hbad hd hm
  go_enter Tryz.func175,Tryz.ntmps175
  go_upto_region 1 with fail
  rw [<- HW.o]
  go_wp2_with fail
  refine (must_false _ _ _ (by first | rfl | (simp; omega))).mono ?_
  rintro e w3 ⟨rfl,rfl⟩
  go_wp2
  exact ⟨rfl,rfl,HO.o⟩
 ·have i1 : decide ((deep : Int) <= 12) = true := by simp; omega
  have i2 : decide ((m : Int) + 1 <= 200) = false := by simp; omega
  clear hbad hd hm
  go_enter Tryz.func175,Tryz.ntmps175
  go_upto_region 1 with fail
  rw [<- HW.o]
  go_wp2_with fail
  refine (must_false _ _ _ (by first | rfl | (simp; omega))).mono ?_
  rintro e w3 ⟨rfl,rfl⟩
  go_wp2
  exact ⟨rfl,rfl,HO.o⟩
def ManyRead (r : Except Int (Nat × Nat)) (s : ByteArray) (parts : Int) (g : Nat) (w : World) (e : Ending) (w' : World) : Prop :=
 match r with
 | .ok (n,q) => e = .returned (.int .i64 n) /\ At w' g s q parts /\ Only w w' g
 | .error k => e = gives k /\ Only w w' g
theorem rmany_any (s : ByteArray) (p : Nat) (parts : Int) (g : Nat) (w : World) (hs : s.size <= 100000) (hp : p <= s.size) (h : At w g s p parts) :
  Calls Tryz.prog 179 #[.pointer (some ⟨g, 0,none⟩)] w fun e w' => ManyRead (readM s p) s parts g w e w' := by
 have hr := ruint_any s p parts g w hs hp h; clear h
 cases hu : readU s p 0 0 with
 | error k =>
  rw [hu] at hr; have he : readM s p = .error k := by unfold readM; rw [hu]
  have HE := gh he; have HR := gh hr; clear hr hu he
  go_enter Tryz.func179,Tryz.ntmps179
  go_wp2_with fail
  refine HR.o.mono ?_; rintro e w2 ⟨rfl,ho2⟩; unfold gives
  go_wp2
  refine ⟨rfl,?_⟩; unfold ManyRead; rw [HE.o]; exact ⟨rfl,ho2⟩
 | ok nq =>
  obtain ⟨n,q⟩ := nq; rw [hu] at hr; obtain ⟨hn,hpq,hqs⟩ := readU_lt s p 0 0 (by decide) (by omega) n q hu
  have hre : readM s p = if n <= 200 then .ok (n,q) else .error 5 := by unfold readM; rw [hu]
  have HR := gh hr; clear hr hu
  by_cases hb : n <= 200
  ·rw [if_pos hb] at hre
   have i1 : decide ((n : Int) <= 200) = true := by simp; omega
   have HE := gh hre; clear hre
   go_enter Tryz.func179,Tryz.ntmps179
   go_wp2_with fail
   refine HR.o.mono ?_; rintro e w2 ⟨rfl,ha2,ho2⟩; have HA2 := gh ha2; have HO2 := gh ho2; clear ha2 ho2 HR
   go_wp2_with fail
   refine (must_true _ _ _ (by first | rfl | (simp; omega))).mono ?_
   rintro e w3 ⟨rfl,rfl⟩
   go_wp2
   go_ret
   unfold ManyRead; rw [HE.o]; refine ⟨?_,HA2.o,HO2.o⟩
   first
   | rfl
   | exact congrArg (fun v => Ending.returned (Value.int .i64 v)) (IntWalk.wrap64_in _ (by omega))
   | (refine congrArg (fun v => Ending.returned (Value.int .i64 v)) ?_; simp; omega)
  ·rw [if_neg hb] at hre
   have i1 : decide ((n : Int) <= 200) = false := by simp; omega
   have HE := gh hre; clear hre
   go_enter Tryz.func179,Tryz.ntmps179
   go_wp2_with fail
   refine HR.o.mono ?_; rintro e w2 ⟨rfl,ha2,ho2⟩; have HO2 := gh ho2; clear ha2 ho2 HR
   go_wp2_with fail
   refine (must_false _ _ _ (by first | rfl | (simp; omega))).mono ?_
   rintro e w3 ⟨rfl,rfl⟩
   go_wp2
   refine ⟨rfl,?_⟩; unfold ManyRead; rw [HE.o]; exact ⟨rfl,HO2.o⟩
theorem shl_or (b c : Nat) (hb : b < 72057594037927936) (hc : c < 256) : bits .or .u64 (IntKind.u64.wrap ((b : Int) * 256)) (IntKind.u64.wrap (c : Int)) = ((b * 256 + c : Nat) : Int) := by
 have e : IntKind.u64.wrap ((b : Int) * 256) = ((b * 256 : Nat) : Int) := by rw [IntKind.wrap_u64]; omega
 have e2 : IntKind.u64.wrap (c : Int) = ((c : Nat) : Int) := by rw [IntKind.wrap_u64]; omega
 rw [e,e2,u64_or_nat _ _ (by omega) (by omega)]
 have h3 := Nat.shiftLeft_add_eq_or_of_lt (b := c) (i := 8) (by omega) b
 rw [Nat.shiftLeft_eq] at h3; have h4 : (2 : Nat) ^ 8 = 256 := by decide
 rw [h4] at h3; rw [<- h3]
def FloatRead (r : Except Int (Nat × Nat)) (s : ByteArray) (parts : Int) (g : Nat) (w : World) (e : Ending) (w' : World) : Prop :=
 match r with
 | .ok (f,q) => e = .returned (.float .f64 f) /\ At w' g s q parts /\ Only w w' g
 | .error k => e = gives k /\ Only w w' g
theorem rfloat_any (s : ByteArray) (p : Nat) (parts : Int) (g : Nat) (w : World) (hs : s.size <= 100000) (hp : p <= s.size) (h : At w g s p parts) :
  Calls Tryz.prog 177 #[.pointer (some ⟨g, 0,none⟩)] w fun e w' => FloatRead (readF s p) s parts g w e w' := by
 have hfrom := frombits_run (beAt s p 8); have hbits := bits_run' (fcan (beAt s p 8)); have H := gh h; clear h
 go_enter Tryz.func177,Tryz.ntmps177
 go_wp2_with fail
 go_loopw [3, 5] (fun bv iv wr => ∃ k : Nat,k <= 8 /\ p + k <= s.size /\ bv = .int .u64 (beAt s p k : Nat) /\ iv = .int .i64 k /\ Hid (At wr g s (p + k) parts) /\ Hid (Only w wr g)) (fun _ iv _ => (8 - intOf iv).toNat)
 case atStart => exact ⟨0,by omega,by omega,rfl,rfl,H,gh (Only.refl w g)⟩
 case round =>
  obtain ⟨k,hk,hpk,rfl,rfl,HA,HO⟩ := hrel
  by_cases hlt : k < 8
  ·have i1 : decide ((k : Int) < 8) = true := by simp; omega
   by_cases hin : p + k < s.size
   ·obtain ⟨c, hc⟩ := gXe (s[p + k]'hin)
    have hb := byte_ok s (p + k) parts g wr hs hin HA.o; rw [<- hc] at hb; have hbe : beAt s p (k + 1) = beAt s p k * 256 + c.toNat := by rw [hc, <- byteAt_eq]; rfl
    have hlt8 : beAt s p k < 72057594037927936 := by
     have h1 := beAt_lt s p k; have h2 : 256 ^ k <= 256 ^ 7 := Nat.pow_le_pow_right (by omega) (by omega)
     have h3 : (256 : Nat) ^ 7 = 72057594037927936 := by decide
     omega
    have hor := shl_or (beAt s p k) c.toNat hlt8 c.toNat_lt; have HB := gh hb; have HBE := gh hbe; have HOR := gh hor; clear hb hbe hor hc hlt8 HA
    go_wp2_with fail
    refine HB.o.mono ?_; rintro e w2 ⟨rfl,ha2,ho2⟩; have HA2 := gh ha2; have HO2 := gh (HO.o.trans ho2); clear ha2 ho2 HB HO
    go_wp2
    go_roundw
    case rel => exact ⟨k + 1,by omega,by omega,by rw [HBE.o, <- HOR.o],by go_num,HA2,HO2⟩
    case measure => simp [intOf]; omega
   ·have hb := gh (byte_torn s (p + k) parts g wr hs (by omega) (by omega) HA.o)
    have he : readF s p = .error 14 := by unfold readF; rw [if_neg (by omega)]
    have HE := gh he; clear he HA
    go_wp2_with fail
    refine hb.out.mono ?_; rintro e w2 ⟨rfl,ho2⟩; have ho := HO.o.trans ho2; clear hb HO ho2; unfold gives
    go_wp2
    refine ⟨rfl,?_⟩; unfold FloatRead; rw [HE.o]; exact ⟨rfl,ho⟩
  ·obtain rfl : k = 8 := by omega
   have i1 : decide (((8 : Nat) : Int) < 8) = false := by simp
   have hre : readF s p = if fcan (beAt s p 8) = beAt s p 8 then .ok (beAt s p 8,p + 8) else .error 5 := by unfold readF; rw [if_pos hpk]
   by_cases hf : fcan (beAt s p 8) = beAt s p 8
   ·rw [if_pos hf] at hre
    have HE := gh hre; rw [hf] at hbits; have hcan := gh (fun W => canon_any (beAt s p 8) W)
    rw [hf] at hcan; clear hre hf
    go_wp2_with fail
    refine (hcan.out _).mono ?_; rintro e w3 ⟨rfl,rfl⟩
    go_wp2_with fail
    refine (must_true _ _ _ (by first | rfl | simp)).mono ?_
    rintro e w3 ⟨rfl,rfl⟩
    go_wp2
    go_ret
    unfold FloatRead; rw [HE.o]; exact ⟨rfl,HA.o,HO.o⟩
   ·rw [if_neg hf] at hre
    have HE := gh hre; have hne : (((fcan (beAt s p 8) : Nat) : Int) == ((beAt s p 8 : Nat) : Int)) = false := by simpa using fun h => hf (by omega)
    clear hre hf
    go_wp2_with fail
    refine (canon_any _ _).mono ?_; rintro e w3 ⟨rfl,rfl⟩
    go_wp2_with fail
    refine (must_false _ _ _ (by first | rfl | assumption | simp)).mono ?_
    rintro e w3 ⟨rfl,rfl⟩
    go_wp2
    refine ⟨rfl,?_⟩; unfold FloatRead; rw [HE.o]; exact ⟨rfl,HO.o⟩
end Go.Proofs.YtaamihdibpioaaaGreat
namespace Go.Proofs.YtaamihdibpioaaaGreat
open Go.RowKit
def ValRead (r : Except Int (Val × Nat × Nat)) (s : ByteArray) (g : Nat) (w : World) (e : Ending) (w' : World) : Prop :=
 Only w w' g /\ match r with
 | .ok (v,q,m) => ∃ u : Val,e = .returned u.agg /\ u.erase = v /\ u.In w' /\ u.Sep (fun b => w.heap.size <= b) /\ At w' g s q (m : Int)
 | .error k => e = gives k
theorem only_far {w a b : World} {g V : Nat} (h : Only w a g) (k : Only a b V) (hV : w.heap.size <= V) : Only w b g :=
 ⟨k.os.trans h.os,k.tape.trans h.tape,k.output.trans h.output,Nat.le_trans h.size k.size,fun i hi hne => (k.block i (Nat.lt_of_lt_of_le hi h.size) (by simp; omega)).trans (h.block i hi hne)⟩
theorem blk_set {W : World} {g i : Nat} {T : TypeId} {l : List Value} (hb : Blk W g T l.toArray) (u : Value) : Blk (W.setCell ⟨g, i, none⟩ u) g T (l.set i u).toArray := by
 have := hb.set_ i u
 simpa using this
theorem stored6' {w5 : World} {g : Nat} {T : TypeId} {x0 x1 x2 x3 x4 x5 : Value} (hb : Blk w5 g T [x0, x1, x2, x3, x4, x5].toArray) (u0 u1 u2 u3 u4 u5 : Value) :
  Blk ((((((w5.setCell ⟨g, 0,none⟩ u0).setCell ⟨g, 1,none⟩ u1).setCell ⟨g, 2,none⟩ u2).setCell ⟨g, 3,none⟩ u3).setCell ⟨g, 4,none⟩ u4).setCell ⟨g, 5,none⟩ u5) g T [u0,u1,u2,u3,u4,u5].toArray /\ Only w5 ((((((w5.setCell ⟨g, 0,none⟩ u0).setCell ⟨g, 1,none⟩ u1).setCell ⟨g, 2,none⟩ u2).setCell ⟨g, 3,none⟩ u3).setCell ⟨g, 4,none⟩ u4).setCell ⟨g, 5,none⟩ u5) g :=
 ⟨blk_set (i := 5) (blk_set (i := 4) (blk_set (i := 3) (blk_set (i := 2) (blk_set (i := 1) (blk_set (i := 0) hb u0) u1) u2) u3) u4) u5,
  ((((((Only.refl w5 g).set_ (.inl rfl) _).set_ (.inl rfl) _).set_ (.inl rfl) _).set_ (.inl rfl) _).set_ (.inl rfl) _).set_ (.inl rfl) _⟩
structure RS (TE : TypeId) (w wr : World) (g V : Nat) (s : ByteArray) (q : Nat) (m : Int) (cs : List Value) : Prop where
 rd : At wr g s q m
 blk : Blk wr V TE cs.toArray
 only : Only w wr g
 lt : g < V
 eq : V = w.heap.size
section
variable {TE : TypeId} {w wr w2 : World} {g V : Nat} {s : ByteArray} {q q' : Nat} {m m' : Int} {cs : List Value}
theorem RS.read (h : RS TE w wr g V s q m cs) (ha : At w2 g s q' m') (ho : Only wr w2 g) : RS TE w w2 g V s q' m' cs :=
 ⟨ha,h.blk.grown ho (by have := h.lt; simp; omega),h.only.trans ho,h.lt,h.eq⟩
theorem RS.set_ (h : RS TE w wr g V s q m cs) (i : Nat) (u : Value) : RS TE w (wr.setCell ⟨V, i, none⟩ u) g V s q m (cs.set i u) :=
 ⟨Blk.far h.rd (by have := h.lt; simp; omega) u,blk_set h.blk u,h.only.set_ (p := ⟨V,i,none⟩) (.inr (by rw [h.eq]; exact Nat.le_refl _)) u,h.lt,h.eq⟩
theorem RS.cell (h : RS TE w wr g V s q m cs) (i : Nat) : wr.cell? ⟨V,i,none⟩ = cs[i]? := by rw [h.blk.cell]; simp
theorem RS.frozen (h : RS TE w wr g V s q m cs) (i : Nat) : wr.frozen? ⟨V,i,none⟩ = false := h.blk.frozen i
theorem RS.vlt (h : RS TE w wr g V s q m cs) : V < wr.heap.size := h.blk.lt
theorem RS.start (w : World) (g : Nat) (s : ByteArray) (q : Nat) (m : Int) (cs : List Value) (h : At w g s q m) : RS TE w (w.alloc (.cells cs.toArray TE)) g w.heap.size s q m cs :=
 ⟨h.alloc _,Blk.new w TE _, (Only.refl w g).alloc _,h.lt,rfl⟩
theorem RS.six {x0 x1 x2 x3 x4 x5 : Value} (h : RS TE w wr g V s q m [x0, x1, x2, x3, x4, x5]) (u0 u1 u2 u3 u4 u5 : Value) :
  RS TE w ((((((wr.setCell ⟨V, 0,none⟩ u0).setCell ⟨V, 1,none⟩ u1).setCell ⟨V, 2,none⟩ u2).setCell ⟨V, 3,none⟩ u3).setCell ⟨V, 4,none⟩ u4).setCell ⟨V, 5,none⟩ u5) g V s q m [u0,u1,u2,u3,u4,u5] := by
 have := stored6' h.blk u0 u1 u2 u3 u4 u5; exact ⟨Blk.grown h.rd this.2 (by have := h.lt; simp; omega),this.1,only_far h.only this.2 (by rw [h.eq]; exact Nat.le_refl _),h.lt,h.eq⟩
theorem stored3 {w5 : World} {g : Nat} {T : TypeId} {x0 x1 x2 : Value} (hb : Blk w5 g T [x0, x1, x2].toArray) (u0 u1 u2 : Value) :
  Blk (((w5.setCell ⟨g, 0,none⟩ u0).setCell ⟨g, 1,none⟩ u1).setCell ⟨g, 2,none⟩ u2) g T [u0,u1,u2].toArray /\ Only w5 (((w5.setCell ⟨g, 0,none⟩ u0).setCell ⟨g, 1,none⟩ u1).setCell ⟨g, 2,none⟩ u2) g :=
 ⟨blk_set (i := 2) (blk_set (i := 1) (blk_set (i := 0) hb u0) u1) u2, (((Only.refl w5 g).set_ (.inl rfl) _).set_ (.inl rfl) _).set_ (.inl rfl) _⟩
theorem RS.three {x0 x1 x2 : Value} (h : RS TE w wr g V s q m [x0, x1, x2]) (u0 u1 u2 : Value) :
  RS TE w (((wr.setCell ⟨V, 0,none⟩ u0).setCell ⟨V, 1,none⟩ u1).setCell ⟨V, 2,none⟩ u2) g V s q m [u0,u1,u2] := by
 have := stored3 h.blk u0 u1 u2; exact ⟨Blk.grown h.rd this.2 (by have := h.lt; simp; omega),this.1,only_far h.only this.2 (by rw [h.eq]; exact Nat.le_refl _),h.lt,h.eq⟩
theorem leaf_end {k n : Int} {f M : Nat} {t : ByteArray} {cs : List Value} (h : RS 37 w wr g V s q (M : Int) cs) {r : Except Int (Val × Nat × Nat)} (hr : r = .ok (.mk k n f t .no [] .no [], q, M)) (hk : i64r k) (hn : i64r n) (hf : f < 18446744073709551616) (ht : strok t) :
  ValRead r s g w (.returned (.agg #[.int .i64 k, .int .i64 n, .float .f64 f, .string t, .slice none 0 0, .slice none 0 0])) wr := by
 refine ⟨h.only,?_⟩; rw [hr]; refine ⟨.mk k n f t .no [] .no [],rfl,rfl,?_,?_,h.rd⟩
 ·rw [Val.in_iff]
  exact ⟨⟨hk,hn,hf,ht,by simp [Val.ns],by simp [Val.xs],fun s h => by simp [Val.ns] at h⟩,rfl,rfl,fun x hx => by simp [Val.xs] at hx⟩
 ·rw [Val.sep_iff]
  exact ⟨trivial,trivial,fun x hx => by simp [Val.xs] at hx⟩
end
theorem byte_k (s : ByteArray) (p : Nat) (parts : Int) (g k : Nat) (w : World) (hs : s.size <= 100000) (hp : p < s.size) (h : At w g s p parts) (hk : (byteAt s p).toNat = k) :
  Calls Tryz.prog 150 #[.pointer (some ⟨g, 0,none⟩)] w fun e w' => e = .returned (.int .u8 k) /\ At w' g s (p + 1) parts /\ Only w w' g :=
 (byte_ok s p parts g w hs hp h).mono fun e w' ⟨he,ha,ho⟩ => ⟨by rw [he, <- byteAt_eq,hk],ha,ho⟩
theorem rv_begin (s : ByteArray) (hs : s.size <= 100000) (d p m deep g : Nat) (w : World) (hd : deep + d = 12) (hp : p <= s.size) (hm : m <= 200) (hm1 : 200 < m + 1) (h : At w g s p (m : Int)) :
  Calls Tryz.prog 153 #[.pointer (some ⟨g, 0,none⟩), .int .i64 deep] w fun e w' => ValRead (rdV s (d + 1) p m) s g w e w' := by
 have hsf := run_store_flt; obtain ⟨V,hV⟩ := gXe (w.heap.size); obtain ⟨W,hW⟩ := gXe (w.alloc (.cells #[.int .i64 0, .int .i64 0, .float .f64 0, .string ⟨#[]⟩, .slice none 0 0, .slice none 0 0] 37)); have hst : RS 37 w W g V s p (m : Int) [.int .i64 0, .int .i64 0, .float .f64 0, .string ⟨#[]⟩, .slice none 0 0, .slice none 0 0] := by rw [hV,hW]; exact RS.start w g s p m _ h
 have HV := gh hV; have HW := gh hW; have HS0 := gh hst; clear hV hW hst h; have HE : Hid (rdV s (d + 1) p m = .error 5) := gh (by unfold rdV; rw [if_pos hm1])
 have HBEG := gh (rbegin_bad s p m deep g W hm (.inr hm1) HS0.o.rd)
 go_enter Tryz.func153,Tryz.ntmps153
 go_wp2_with fail
 rw [<- HW.o, <- HV.o]; refine HBEG.o.mono ?_; rintro e w1 ⟨rfl,ho1⟩; have ho := HS0.o.only.trans ho1; unfold gives
 go_wp2
 refine ⟨rfl,?_⟩; refine ⟨ho,?_⟩; rw [HE.o]
 rfl
theorem rv_deep (s : ByteArray) (hs : s.size <= 100000) (p m g : Nat) (w : World) (hp : p <= s.size) (hm : m <= 200) (h : At w g s p (m : Int)) :
  Calls Tryz.prog 153 #[.pointer (some ⟨g, 0,none⟩), .int .i64 13] w fun e w' => ValRead (rdV s 0 p m) s g w e w' := by
 have hsf := run_store_flt; obtain ⟨V,hV⟩ := gXe (w.heap.size); obtain ⟨W,hW⟩ := gXe (w.alloc (.cells #[.int .i64 0, .int .i64 0, .float .f64 0, .string ⟨#[]⟩, .slice none 0 0, .slice none 0 0] 37)); have hst : RS 37 w W g V s p (m : Int) [.int .i64 0, .int .i64 0, .float .f64 0, .string ⟨#[]⟩, .slice none 0 0, .slice none 0 0] := by rw [hV,hW]; exact RS.start w g s p m _ h
 have HV := gh hV; have HW := gh hW; have HS0 := gh hst; clear hV hW hst h; have HE : Hid (rdV s 0 p m = .error 5) := gh (by unfold rdV; rfl)
 have HBEG := gh (rbegin_bad s p m 13 g W hm (.inl (by omega)) HS0.o.rd)
 go_enter Tryz.func153,Tryz.ntmps153
 go_wp2_with fail
 rw [<- HW.o, <- HV.o]; refine HBEG.o.mono ?_; rintro e w1 ⟨rfl,ho1⟩; have ho := HS0.o.only.trans ho1; unfold gives
 go_wp2
 refine ⟨rfl,?_⟩; refine ⟨ho,?_⟩; rw [HE.o]
 rfl
theorem rv_torn (s : ByteArray) (hs : s.size <= 100000) (d p m deep g : Nat) (w : World) (hd : deep + d = 12) (hp : p <= s.size) (hm : m <= 200) (hm1 : m + 1 <= 200) (hin : ¬ p < s.size) (h : At w g s p (m : Int)) :
  Calls Tryz.prog 153 #[.pointer (some ⟨g, 0,none⟩), .int .i64 deep] w fun e w' => ValRead (rdV s (d + 1) p m) s g w e w' := by
 have hsf := run_store_flt; obtain ⟨V,hV⟩ := gXe (w.heap.size); obtain ⟨W,hW⟩ := gXe (w.alloc (.cells #[.int .i64 0, .int .i64 0, .float .f64 0, .string ⟨#[]⟩, .slice none 0 0, .slice none 0 0] 37)); have hst : RS 37 w W g V s p (m : Int) [.int .i64 0, .int .i64 0, .float .f64 0, .string ⟨#[]⟩, .slice none 0 0, .slice none 0 0] := by rw [hV,hW]; exact RS.start w g s p m _ h
 have HV := gh hV; have HW := gh hW; have HS0 := gh hst; clear hV hW hst h; have HBEG := gh (rbegin_ok s p m deep g W (by omega) hm1 HS0.o.rd)
 have HE : Hid (rdV s (d + 1) p m = .error 14) := gh (by unfold rdV; rw [if_neg (by omega),if_pos (by omega)])
 go_enter Tryz.func153,Tryz.ntmps153
 go_wp2_with fail
 rw [<- HW.o, <- HV.o]; refine HBEG.o.mono ?_; rintro e w1 ⟨rfl,ha1,ho1⟩; have HS1 := gh (HS0.o.read ha1 ho1); clear ha1 ho1 HBEG HW; have HB1 := gh (byte_torn s p ((m + 1 : Nat) : Int) g w1 hs (by omega) (by omega) HS1.o.rd)
 go_wp2_with fail
 refine HB1.o.mono ?_; rintro e w2 ⟨rfl,ho2⟩; have ho := HS1.o.only.trans ho2; unfold gives
 go_wp2
 refine ⟨rfl,?_⟩; refine ⟨ho,?_⟩; rw [HE.o]
 rfl
theorem rv_bool_torn (s : ByteArray) (hs : s.size <= 100000) (d p m deep g : Nat) (w : World) (hd : deep + d = 12) (hp : p <= s.size) (hm : m <= 200) (hm1 : m + 1 <= 200) (hin : p < s.size) (hk : (byteAt s p).toNat = 1) (h2 : ¬ p + 1 < s.size) (h : At w g s p (m : Int)) :
  Calls Tryz.prog 153 #[.pointer (some ⟨g, 0,none⟩), .int .i64 deep] w fun e w' => ValRead (rdV s (d + 1) p m) s g w e w' := by
 have hsf := run_store_flt; obtain ⟨V,hV⟩ := gXe (w.heap.size); obtain ⟨W,hW⟩ := gXe (w.alloc (.cells #[.int .i64 0, .int .i64 0, .float .f64 0, .string ⟨#[]⟩, .slice none 0 0, .slice none 0 0] 37)); have hst : RS 37 w W g V s p (m : Int) [.int .i64 0, .int .i64 0, .float .f64 0, .string ⟨#[]⟩, .slice none 0 0, .slice none 0 0] := by rw [hV,hW]; exact RS.start w g s p m _ h
 have HV := gh hV; have HW := gh hW; have HS0 := gh hst; clear hV hW hst h; have HBEG := gh (rbegin_ok s p m deep g W (by omega) hm1 HS0.o.rd)
 have HE : Hid (rdV s (d + 1) p m = .error 14) := gh (by unfold rdV; rw [if_neg (by omega),if_neg (by omega),if_pos hk,if_pos (by omega)])
 go_enter Tryz.func153,Tryz.ntmps153
 go_wp2_with fail
 rw [<- HW.o, <- HV.o]; refine HBEG.o.mono ?_; rintro e w1 ⟨rfl,ha1,ho1⟩; have HS1 := gh (HS0.o.read ha1 ho1); clear ha1 ho1 HBEG HW; have HB1 := gh (byte_k s p ((m + 1 : Nat) : Int) g 1 w1 hs hin HS1.o.rd hk)
 go_wp2_with fail
 refine HB1.o.mono ?_; rintro e w2 ⟨rfl,ha2,ho2⟩; have HS2 := gh (HS1.o.read ha2 ho2); clear ha2 ho2 HB1 HS1; have c0 := HS2.o.cell 0; have f0 := HS2.o.frozen 0; have hvl := HS2.o.vlt; simp only [gX1,gX2] at c0; obtain ⟨W2,hW2⟩ := gXe (w2.setCell ⟨V, 0,none⟩ (.int .i64 1)); have hs3 : RS 37 w W2 g V s (p + 1) ((m + 1 : Nat) : Int) [.int .i64 1, .int .i64 0, .float .f64 0, .string ⟨#[]⟩, .slice none 0 0, .slice none 0 0] := by rw [hW2]; exact HS2.o.set_ 0 _
 have HS3 := gh hs3; have HW2 := gh hW2; clear hs3 hW2
 go_upto_region 3 with fail
 rw [<- HW2.o]; clear c0 f0 hvl HS2; have c0 := HS3.o.cell 0; have hvl := HS3.o.vlt; simp only [gX1,gX2] at c0; have HB2 := gh (byte_torn s (p + 1) ((m + 1 : Nat) : Int) g W2 hs (by omega) (by omega) HS3.o.rd)
 go_wp2_with fail
 refine HB2.o.mono ?_; rintro e w3 ⟨rfl,ho3⟩; have ho := HS3.o.only.trans ho3; unfold gives
 go_wp2
 refine ⟨rfl,?_⟩; refine ⟨ho,?_⟩; rw [HE.o]
 rfl
theorem rv_bool_bad (s : ByteArray) (hs : s.size <= 100000) (d p m deep g : Nat) (w : World) (hd : deep + d = 12) (hp : p <= s.size) (hm : m <= 200) (hm1 : m + 1 <= 200) (hin : p < s.size) (hk : (byteAt s p).toNat = 1) (h2 : p + 1 < s.size) (h3 : ¬ (byteAt s (p + 1)).toNat <= 1) (h : At w g s p (m : Int)) :
  Calls Tryz.prog 153 #[.pointer (some ⟨g, 0,none⟩), .int .i64 deep] w fun e w' => ValRead (rdV s (d + 1) p m) s g w e w' := by
 have hsf := run_store_flt; obtain ⟨V,hV⟩ := gXe (w.heap.size); obtain ⟨W,hW⟩ := gXe (w.alloc (.cells #[.int .i64 0, .int .i64 0, .float .f64 0, .string ⟨#[]⟩, .slice none 0 0, .slice none 0 0] 37)); have hst : RS 37 w W g V s p (m : Int) [.int .i64 0, .int .i64 0, .float .f64 0, .string ⟨#[]⟩, .slice none 0 0, .slice none 0 0] := by rw [hV,hW]; exact RS.start w g s p m _ h
 have HV := gh hV; have HW := gh hW; have HS0 := gh hst; clear hV hW hst h; have HBEG := gh (rbegin_ok s p m deep g W (by omega) hm1 HS0.o.rd)
 have HE : Hid (rdV s (d + 1) p m = .error 5) := gh (by unfold rdV; rw [if_neg (by omega),if_neg (by omega),if_pos hk,if_neg (by omega),if_neg h3])
 obtain ⟨c,hc⟩ := gXe ((byteAt s (p + 1)).toNat); have hc8 : c < 256 := by rw [hc]; exact (byteAt s (p + 1)).toNat_lt
 rw [<- hc] at h3; have i1 : decide ((c : Int) <= 1) = false := by simp; omega
 have HC := gh hc; clear hc
 go_enter Tryz.func153,Tryz.ntmps153
 go_wp2_with fail
 rw [<- HW.o, <- HV.o]; refine HBEG.o.mono ?_; rintro e w1 ⟨rfl,ha1,ho1⟩; have HS1 := gh (HS0.o.read ha1 ho1); clear ha1 ho1 HBEG HW; have HB1 := gh (byte_k s p ((m + 1 : Nat) : Int) g 1 w1 hs hin HS1.o.rd hk)
 go_wp2_with fail
 refine HB1.o.mono ?_; rintro e w2 ⟨rfl,ha2,ho2⟩; have HS2 := gh (HS1.o.read ha2 ho2); clear ha2 ho2 HB1 HS1; have c0 := HS2.o.cell 0; have f0 := HS2.o.frozen 0; have hvl := HS2.o.vlt; simp only [gX1,gX2] at c0; obtain ⟨W2,hW2⟩ := gXe (w2.setCell ⟨V, 0,none⟩ (.int .i64 1)); have hs3 : RS 37 w W2 g V s (p + 1) ((m + 1 : Nat) : Int) [.int .i64 1, .int .i64 0, .float .f64 0, .string ⟨#[]⟩, .slice none 0 0, .slice none 0 0] := by rw [hW2]; exact HS2.o.set_ 0 _
 have HS3 := gh hs3; have HW2 := gh hW2; clear hs3 hW2
 go_upto_region 3 with fail
 rw [<- HW2.o]; clear c0 f0 hvl HS2; have c0 := HS3.o.cell 0; have hvl := HS3.o.vlt; simp only [gX1,gX2] at c0; have HB2 := gh (byte_k s (p + 1) ((m + 1 : Nat) : Int) g c W2 hs h2 HS3.o.rd HC.o.symm); have hcv : IntKind.i64.wrap (c : Int) = (c : Int) := IntWalk.i64_in _ (by omega)
 go_wp2_with fail
 refine HB2.o.mono ?_; rintro e w3 ⟨rfl,ha3,ho3⟩; have HS4 := gh (HS3.o.read ha3 ho3); clear ha3 ho3 HB2 HS3 c0 hvl; have c1 := HS4.o.cell 1; have f1 := HS4.o.frozen 1; have hvl := HS4.o.vlt; simp only [gX1,gX2] at c1; obtain ⟨W4,hW4⟩ := gXe (w3.setCell ⟨V, 1,none⟩ (.int .i64 c)); have hs5 : RS 37 w W4 g V s (p + 2) ((m + 1 : Nat) : Int) [.int .i64 1, .int .i64 c, .float .f64 0, .string ⟨#[]⟩, .slice none 0 0, .slice none 0 0] := by rw [hW4]; exact HS4.o.set_ 1 _
 have HS5 := gh hs5; have HW4 := gh hW4; clear hs5 hW4
 go_upto_region 7 with fail
 rw [<- HW4.o]; clear c1 f1 hvl HS4; have c1 := HS5.o.cell 1; simp only [gX1,gX2] at c1
 go_wp2_with fail
 refine (must_false _ _ _ (by first | rfl | (simp; omega))).mono ?_
 rintro e w5 ⟨rfl,rfl⟩; have ho := HS5.o.only
 go_wp2
 refine ⟨rfl,?_⟩; refine ⟨ho,?_⟩; rw [HE.o]
 rfl
theorem rv_bool (s : ByteArray) (hs : s.size <= 100000) (d p m deep g : Nat) (w : World) (hd : deep + d = 12) (hp : p <= s.size) (hm : m <= 200) (hm1 : m + 1 <= 200) (hin : p < s.size) (hk : (byteAt s p).toNat = 1) (h2 : p + 1 < s.size) (h3 : (byteAt s (p + 1)).toNat <= 1) (h : At w g s p (m : Int)) :
  Calls Tryz.prog 153 #[.pointer (some ⟨g, 0,none⟩), .int .i64 deep] w fun e w' => ValRead (rdV s (d + 1) p m) s g w e w' := by
 have hsf := run_store_flt; obtain ⟨V,hV⟩ := gXe (w.heap.size); obtain ⟨W,hW⟩ := gXe (w.alloc (.cells #[.int .i64 0, .int .i64 0, .float .f64 0, .string ⟨#[]⟩, .slice none 0 0, .slice none 0 0] 37)); have hst : RS 37 w W g V s p (m : Int) [.int .i64 0, .int .i64 0, .float .f64 0, .string ⟨#[]⟩, .slice none 0 0, .slice none 0 0] := by rw [hV,hW]; exact RS.start w g s p m _ h
 have HV := gh hV; have HW := gh hW; have HS0 := gh hst; clear hV hW hst h; have HBEG := gh (rbegin_ok s p m deep g W (by omega) hm1 HS0.o.rd)
 have HE : Hid (rdV s (d + 1) p m = .ok (Val.leafN 1 (byteAt s (p + 1)).toNat,p + 2,m + 1)) := gh (by unfold rdV; rw [if_neg (by omega),if_neg (by omega),if_pos hk,if_neg (by omega),if_pos h3])
 obtain ⟨c,hc⟩ := gXe ((byteAt s (p + 1)).toNat); have hc8 : c < 256 := by rw [hc]; exact (byteAt s (p + 1)).toNat_lt
 rw [<- hc] at h3 HE; have i1 : decide ((c : Int) <= 1) = true := by simp; omega
 have HC := gh hc; clear hc
 go_enter Tryz.func153,Tryz.ntmps153
 go_wp2_with fail
 rw [<- HW.o, <- HV.o]; refine HBEG.o.mono ?_; rintro e w1 ⟨rfl,ha1,ho1⟩; have HS1 := gh (HS0.o.read ha1 ho1); clear ha1 ho1 HBEG HW; have HB1 := gh (byte_k s p ((m + 1 : Nat) : Int) g 1 w1 hs hin HS1.o.rd hk)
 go_wp2_with fail
 refine HB1.o.mono ?_; rintro e w2 ⟨rfl,ha2,ho2⟩; have HS2 := gh (HS1.o.read ha2 ho2); clear ha2 ho2 HB1 HS1; have c0 := HS2.o.cell 0; have f0 := HS2.o.frozen 0; have hvl := HS2.o.vlt; simp only [gX1,gX2] at c0; obtain ⟨W2,hW2⟩ := gXe (w2.setCell ⟨V, 0,none⟩ (.int .i64 1)); have hs3 : RS 37 w W2 g V s (p + 1) ((m + 1 : Nat) : Int) [.int .i64 1, .int .i64 0, .float .f64 0, .string ⟨#[]⟩, .slice none 0 0, .slice none 0 0] := by rw [hW2]; exact HS2.o.set_ 0 _
 have HS3 := gh hs3; have HW2 := gh hW2; clear hs3 hW2
 go_upto_region 3 with fail
 rw [<- HW2.o]; clear c0 f0 hvl HS2; have c0 := HS3.o.cell 0; have hvl := HS3.o.vlt; simp only [gX1,gX2] at c0; have HB2 := gh (byte_k s (p + 1) ((m + 1 : Nat) : Int) g c W2 hs h2 HS3.o.rd HC.o.symm); have hcv : IntKind.i64.wrap (c : Int) = (c : Int) := IntWalk.i64_in _ (by omega)
 go_wp2_with fail
 refine HB2.o.mono ?_; rintro e w3 ⟨rfl,ha3,ho3⟩; have HS4 := gh (HS3.o.read ha3 ho3); clear ha3 ho3 HB2 HS3 c0 hvl; have c1 := HS4.o.cell 1; have f1 := HS4.o.frozen 1; have hvl := HS4.o.vlt; simp only [gX1,gX2] at c1; obtain ⟨W4,hW4⟩ := gXe (w3.setCell ⟨V, 1,none⟩ (.int .i64 c)); have hs5 : RS 37 w W4 g V s (p + 2) ((m + 1 : Nat) : Int) [.int .i64 1, .int .i64 c, .float .f64 0, .string ⟨#[]⟩, .slice none 0 0, .slice none 0 0] := by rw [hW4]; exact HS4.o.set_ 1 _
 have HS5 := gh hs5; have HW4 := gh hW4; clear hs5 hW4
 go_upto_region 7 with fail
 rw [<- HW4.o]; clear c1 f1 hvl HS4; have c1 := HS5.o.cell 1; simp only [gX1,gX2] at c1
 go_wp2_with fail
 refine (must_true _ _ _ (by first | rfl | (simp; omega))).mono ?_
 rintro e w5 ⟨rfl,rfl⟩; clear c1; have e0 := HS5.o.cell 0; have e1 := HS5.o.cell 1; have e2 := HS5.o.cell 2; have e3 := HS5.o.cell 3; have e4 := HS5.o.cell 4; have e5 := HS5.o.cell 5; have f0 := HS5.o.frozen 0; have f1 := HS5.o.frozen 1; have f2 := HS5.o.frozen 2; have f3 := HS5.o.frozen 3; have f4 := HS5.o.frozen 4; have f5 := HS5.o.frozen 5; simp only [gX1,gX2] at e0 e1 e2 e3 e4 e5; obtain ⟨WF,hWF⟩ := gXe (((((((W4.setCell ⟨V, 0,none⟩ (.int .i64 1)).setCell ⟨V, 1,none⟩ (.int .i64 c)).setCell ⟨V, 2,none⟩ (.float .f64 0)).setCell ⟨V, 3,none⟩ (.string ⟨#[]⟩)).setCell ⟨V, 4,none⟩ (.slice none 0 0)).setCell ⟨V, 5,none⟩ (.slice none 0 0))); have HSF : Hid (RS 37 w WF g V s _ _ [.int .i64 1, .int .i64 c, .float .f64 0, .string ⟨#[]⟩, .slice none 0 0, .slice none 0 0]) := gh (by rw [hWF]; exact HS5.o.six _ _ _ _ _ _)
 have HWF := gh hWF; clear hWF
 go_wp2_with fail
 rw [<- HWF.o]; clear e0 e1 e2 e3 e4 e5 f0 f1 f2 f3 f4 f5; have e0 := HSF.o.cell 0; have e1 := HSF.o.cell 1; have e2 := HSF.o.cell 2; have e3 := HSF.o.cell 3; have e4 := HSF.o.cell 4; have e5 := HSF.o.cell 5; simp only [gX1,gX2] at e0 e1 e2 e3 e4 e5; refine bodyPost_ret (v := .agg #[.int .i64 1, .int .i64 c, .float .f64 0, .string ⟨#[]⟩, .slice none 0 0, .slice none 0 0]) (by simp [results,Tryz.results153,go_sem,e0,e1,e2,e3,e4,e5]) rfl ?_
 exact leaf_end HSF.o HE.o (by unfold i64r; omega) (by unfold i64r; omega) (by omega) (by unfold strok; decide)
theorem rv_int_bad (s : ByteArray) (hs : s.size <= 100000) (d p m deep g : Nat) (w : World) (hd : deep + d = 12) (hp : p <= s.size) (hm : m <= 200) (hm1 : m + 1 <= 200) (hin : p < s.size) (hk : (byteAt s p).toNat = 2) (k : Int) (hu : readU s (p + 1) 0 0 = .error k) (h : At w g s p (m : Int)) :
  Calls Tryz.prog 153 #[.pointer (some ⟨g, 0,none⟩), .int .i64 deep] w fun e w' => ValRead (rdV s (d + 1) p m) s g w e w' := by
 have hsf := run_store_flt; obtain ⟨V,hV⟩ := gXe (w.heap.size); obtain ⟨W,hW⟩ := gXe (w.alloc (.cells #[.int .i64 0, .int .i64 0, .float .f64 0, .string ⟨#[]⟩, .slice none 0 0, .slice none 0 0] 37)); have hst : RS 37 w W g V s p (m : Int) [.int .i64 0, .int .i64 0, .float .f64 0, .string ⟨#[]⟩, .slice none 0 0, .slice none 0 0] := by rw [hV,hW]; exact RS.start w g s p m _ h
 have HV := gh hV; have HW := gh hW; have HS0 := gh hst; clear hV hW hst h; have HBEG := gh (rbegin_ok s p m deep g W (by omega) hm1 HS0.o.rd)
 have HE : Hid (rdV s (d + 1) p m = .error k) := gh (by unfold rdV; rw [if_neg (by omega),if_neg (by omega),if_neg (by rw [hk]; decide),if_pos hk,hu])
 go_enter Tryz.func153,Tryz.ntmps153
 go_wp2_with fail
 rw [<- HW.o, <- HV.o]; refine HBEG.o.mono ?_; rintro e w1 ⟨rfl,ha1,ho1⟩; have HS1 := gh (HS0.o.read ha1 ho1); clear ha1 ho1 HBEG HW; have HB1 := gh (byte_k s p ((m + 1 : Nat) : Int) g 2 w1 hs hin HS1.o.rd hk)
 go_wp2_with fail
 refine HB1.o.mono ?_; rintro e w2 ⟨rfl,ha2,ho2⟩; have HS2 := gh (HS1.o.read ha2 ho2); clear ha2 ho2 HB1 HS1; have c0 := HS2.o.cell 0; have f0 := HS2.o.frozen 0; have hvl := HS2.o.vlt; simp only [gX1,gX2] at c0; obtain ⟨W2,hW2⟩ := gXe (w2.setCell ⟨V, 0,none⟩ (.int .i64 2)); have hs3 : RS 37 w W2 g V s (p + 1) ((m + 1 : Nat) : Int) [.int .i64 2, .int .i64 0, .float .f64 0, .string ⟨#[]⟩, .slice none 0 0, .slice none 0 0] := by rw [hW2]; exact HS2.o.set_ 0 _
 have HS3 := gh hs3; have HW2 := gh hW2; clear hs3 hW2
 go_upto_region 3 with fail
 rw [<- HW2.o]; clear c0 f0 hvl HS2; have c0 := HS3.o.cell 0; have hvl := HS3.o.vlt; simp only [gX1,gX2] at c0; have HR := gh (rint_any s (p + 1) ((m + 1 : Nat) : Int) g W2 hs (by omega) HS3.o.rd)
 rw [hu] at HR
 go_wp2_with fail
 refine HR.o.mono ?_; rintro e w3 ⟨rfl,ho3⟩; have ho := HS3.o.only.trans ho3; unfold gives
 go_wp2
 refine ⟨rfl,?_⟩; refine ⟨ho,?_⟩; rw [HE.o]
 rfl
theorem rv_int (s : ByteArray) (hs : s.size <= 100000) (d p m deep g : Nat) (w : World) (hd : deep + d = 12) (hp : p <= s.size) (hm : m <= 200) (hm1 : m + 1 <= 200) (hin : p < s.size) (hk : (byteAt s p).toNat = 2) (n q : Nat) (hu : readU s (p + 1) 0 0 = .ok (n, q)) (h : At w g s p (m : Int)) :
  Calls Tryz.prog 153 #[.pointer (some ⟨g, 0,none⟩), .int .i64 deep] w fun e w' => ValRead (rdV s (d + 1) p m) s g w e w' := by
 have hsf := run_store_flt; obtain ⟨V,hV⟩ := gXe (w.heap.size); obtain ⟨W,hW⟩ := gXe (w.alloc (.cells #[.int .i64 0, .int .i64 0, .float .f64 0, .string ⟨#[]⟩, .slice none 0 0, .slice none 0 0] 37)); have hst : RS 37 w W g V s p (m : Int) [.int .i64 0, .int .i64 0, .float .f64 0, .string ⟨#[]⟩, .slice none 0 0, .slice none 0 0] := by rw [hV,hW]; exact RS.start w g s p m _ h
 have HV := gh hV; have HW := gh hW; have HS0 := gh hst; clear hV hW hst h; have HBEG := gh (rbegin_ok s p m deep g W (by omega) hm1 HS0.o.rd)
 have HE : Hid (rdV s (d + 1) p m = .ok (Val.leafN 2 (unzig n),q,m + 1)) := gh (by unfold rdV; rw [if_neg (by omega),if_neg (by omega),if_neg (by rw [hk]; decide),if_pos hk,hu])
 have hul := (readU_lt s (p + 1) 0 0 (by decide) (by omega) n q hu).1
 go_enter Tryz.func153,Tryz.ntmps153
 go_wp2_with fail
 rw [<- HW.o, <- HV.o]; refine HBEG.o.mono ?_; rintro e w1 ⟨rfl,ha1,ho1⟩; have HS1 := gh (HS0.o.read ha1 ho1); clear ha1 ho1 HBEG HW; have HB1 := gh (byte_k s p ((m + 1 : Nat) : Int) g 2 w1 hs hin HS1.o.rd hk)
 go_wp2_with fail
 refine HB1.o.mono ?_; rintro e w2 ⟨rfl,ha2,ho2⟩; have HS2 := gh (HS1.o.read ha2 ho2); clear ha2 ho2 HB1 HS1; have c0 := HS2.o.cell 0; have f0 := HS2.o.frozen 0; have hvl := HS2.o.vlt; simp only [gX1,gX2] at c0; obtain ⟨W2,hW2⟩ := gXe (w2.setCell ⟨V, 0,none⟩ (.int .i64 2)); have hs3 : RS 37 w W2 g V s (p + 1) ((m + 1 : Nat) : Int) [.int .i64 2, .int .i64 0, .float .f64 0, .string ⟨#[]⟩, .slice none 0 0, .slice none 0 0] := by rw [hW2]; exact HS2.o.set_ 0 _
 have HS3 := gh hs3; have HW2 := gh hW2; clear hs3 hW2
 go_upto_region 3 with fail
 rw [<- HW2.o]; clear c0 f0 hvl HS2; have c0 := HS3.o.cell 0; have hvl := HS3.o.vlt; simp only [gX1,gX2] at c0; have HR := gh (rint_any s (p + 1) ((m + 1 : Nat) : Int) g W2 hs (by omega) HS3.o.rd)
 rw [hu] at HR
 go_wp2_with fail
 refine HR.o.mono ?_; rintro e w3 ⟨rfl,ha3,ho3⟩; have HS4 := gh (HS3.o.read ha3 ho3); clear ha3 ho3 HR HS3 c0 hvl; have c1 := HS4.o.cell 1; have f1 := HS4.o.frozen 1; have hvl := HS4.o.vlt; simp only [gX1,gX2] at c1; obtain ⟨W4,hW4⟩ := gXe (w3.setCell ⟨V, 1,none⟩ (.int .i64 (unzig n))); have hs5 : RS 37 w W4 g V s q ((m + 1 : Nat) : Int) [.int .i64 2, .int .i64 (unzig n), .float .f64 0, .string ⟨#[]⟩, .slice none 0 0, .slice none 0 0] := by rw [hW4]; exact HS4.o.set_ 1 _
 have HS5 := gh hs5; have HW4 := gh hW4; clear hs5 hW4
 go_upto_region 22 with fail
 rw [<- HW4.o]; clear c1 f1 hvl HS4; have e0 := HS5.o.cell 0; have e1 := HS5.o.cell 1; have e2 := HS5.o.cell 2; have e3 := HS5.o.cell 3; have e4 := HS5.o.cell 4; have e5 := HS5.o.cell 5; have f0 := HS5.o.frozen 0; have f1 := HS5.o.frozen 1; have f2 := HS5.o.frozen 2; have f3 := HS5.o.frozen 3; have f4 := HS5.o.frozen 4; have f5 := HS5.o.frozen 5; simp only [gX1,gX2] at e0 e1 e2 e3 e4 e5; obtain ⟨WF,hWF⟩ := gXe (((((((W4.setCell ⟨V, 0,none⟩ (.int .i64 2)).setCell ⟨V, 1,none⟩ (.int .i64 (unzig n))).setCell ⟨V, 2,none⟩ (.float .f64 0)).setCell ⟨V, 3,none⟩ (.string ⟨#[]⟩)).setCell ⟨V, 4,none⟩ (.slice none 0 0)).setCell ⟨V, 5,none⟩ (.slice none 0 0))); have HSF : Hid (RS 37 w WF g V s _ _ [.int .i64 2, .int .i64 (unzig n), .float .f64 0, .string ⟨#[]⟩, .slice none 0 0, .slice none 0 0]) := gh (by rw [hWF]; exact HS5.o.six _ _ _ _ _ _)
 have HWF := gh hWF; clear hWF
 go_wp2_with fail
 rw [<- HWF.o]; clear e0 e1 e2 e3 e4 e5 f0 f1 f2 f3 f4 f5; have e0 := HSF.o.cell 0; have e1 := HSF.o.cell 1; have e2 := HSF.o.cell 2; have e3 := HSF.o.cell 3; have e4 := HSF.o.cell 4; have e5 := HSF.o.cell 5; simp only [gX1,gX2] at e0 e1 e2 e3 e4 e5; refine bodyPost_ret (v := .agg #[.int .i64 2, .int .i64 (unzig n), .float .f64 0, .string ⟨#[]⟩, .slice none 0 0, .slice none 0 0]) (by simp [results,Tryz.results153,go_sem,e0,e1,e2,e3,e4,e5]) rfl ?_
 exact leaf_end HSF.o HE.o (by unfold i64r; omega) (by unfold i64r unzig; split <;> omega) (by omega) (by unfold strok; decide)
theorem rv_float_bad (s : ByteArray) (hs : s.size <= 100000) (d p m deep g : Nat) (w : World) (hd : deep + d = 12) (hp : p <= s.size) (hm : m <= 200) (hm1 : m + 1 <= 200) (hin : p < s.size) (hk : (byteAt s p).toNat = 3) (k : Int) (hu : readF s (p + 1) = .error k) (h : At w g s p (m : Int)) :
  Calls Tryz.prog 153 #[.pointer (some ⟨g, 0,none⟩), .int .i64 deep] w fun e w' => ValRead (rdV s (d + 1) p m) s g w e w' := by
 have hsf := run_store_flt; obtain ⟨V,hV⟩ := gXe (w.heap.size); obtain ⟨W,hW⟩ := gXe (w.alloc (.cells #[.int .i64 0, .int .i64 0, .float .f64 0, .string ⟨#[]⟩, .slice none 0 0, .slice none 0 0] 37)); have hst : RS 37 w W g V s p (m : Int) [.int .i64 0, .int .i64 0, .float .f64 0, .string ⟨#[]⟩, .slice none 0 0, .slice none 0 0] := by rw [hV,hW]; exact RS.start w g s p m _ h
 have HV := gh hV; have HW := gh hW; have HS0 := gh hst; clear hV hW hst h; have HBEG := gh (rbegin_ok s p m deep g W (by omega) hm1 HS0.o.rd)
 have HE : Hid (rdV s (d + 1) p m = .error k) := gh (by unfold rdV; rw [if_neg (by omega),if_neg (by omega),if_neg (by rw [hk]; decide),if_neg (by rw [hk]; decide),if_pos hk,hu])
 go_enter Tryz.func153,Tryz.ntmps153
 go_wp2_with fail
 rw [<- HW.o, <- HV.o]; refine HBEG.o.mono ?_; rintro e w1 ⟨rfl,ha1,ho1⟩; have HS1 := gh (HS0.o.read ha1 ho1); clear ha1 ho1 HBEG HW; have HB1 := gh (byte_k s p ((m + 1 : Nat) : Int) g 3 w1 hs hin HS1.o.rd hk)
 go_wp2_with fail
 refine HB1.o.mono ?_; rintro e w2 ⟨rfl,ha2,ho2⟩; have HS2 := gh (HS1.o.read ha2 ho2); clear ha2 ho2 HB1 HS1; have c0 := HS2.o.cell 0; have f0 := HS2.o.frozen 0; have hvl := HS2.o.vlt; simp only [gX1,gX2] at c0; obtain ⟨W2,hW2⟩ := gXe (w2.setCell ⟨V, 0,none⟩ (.int .i64 3)); have hs3 : RS 37 w W2 g V s (p + 1) ((m + 1 : Nat) : Int) [.int .i64 3, .int .i64 0, .float .f64 0, .string ⟨#[]⟩, .slice none 0 0, .slice none 0 0] := by rw [hW2]; exact HS2.o.set_ 0 _
 have HS3 := gh hs3; have HW2 := gh hW2; clear hs3 hW2
 go_upto_region 3 with fail
 rw [<- HW2.o]; clear c0 f0 hvl HS2; have c0 := HS3.o.cell 0; have hvl := HS3.o.vlt; simp only [gX1,gX2] at c0; have HR := gh (rfloat_any s (p + 1) ((m + 1 : Nat) : Int) g W2 hs (by omega) HS3.o.rd)
 rw [hu] at HR
 go_wp2_with fail
 refine HR.o.mono ?_; rintro e w3 ⟨rfl,ho3⟩; have ho := HS3.o.only.trans ho3; unfold gives
 go_wp2
 refine ⟨rfl,?_⟩; refine ⟨ho,?_⟩; rw [HE.o]
 rfl
theorem rv_float (s : ByteArray) (hs : s.size <= 100000) (d p m deep g : Nat) (w : World) (hd : deep + d = 12) (hp : p <= s.size) (hm : m <= 200) (hm1 : m + 1 <= 200) (hin : p < s.size) (hk : (byteAt s p).toNat = 3) (n q : Nat) (hu : readF s (p + 1) = .ok (n, q)) (h : At w g s p (m : Int)) :
  Calls Tryz.prog 153 #[.pointer (some ⟨g, 0,none⟩), .int .i64 deep] w fun e w' => ValRead (rdV s (d + 1) p m) s g w e w' := by
 have hsf := run_store_flt; obtain ⟨V,hV⟩ := gXe (w.heap.size); obtain ⟨W,hW⟩ := gXe (w.alloc (.cells #[.int .i64 0, .int .i64 0, .float .f64 0, .string ⟨#[]⟩, .slice none 0 0, .slice none 0 0] 37)); have hst : RS 37 w W g V s p (m : Int) [.int .i64 0, .int .i64 0, .float .f64 0, .string ⟨#[]⟩, .slice none 0 0, .slice none 0 0] := by rw [hV,hW]; exact RS.start w g s p m _ h
 have HV := gh hV; have HW := gh hW; have HS0 := gh hst; clear hV hW hst h; have HBEG := gh (rbegin_ok s p m deep g W (by omega) hm1 HS0.o.rd)
 have HE : Hid (rdV s (d + 1) p m = .ok (Val.leafF n,q,m + 1)) := gh (by unfold rdV; rw [if_neg (by omega),if_neg (by omega),if_neg (by rw [hk]; decide),if_neg (by rw [hk]; decide),if_pos hk,hu])
 have hul := (readF_lt hu).2.2.1
 go_enter Tryz.func153,Tryz.ntmps153
 go_wp2_with fail
 rw [<- HW.o, <- HV.o]; refine HBEG.o.mono ?_; rintro e w1 ⟨rfl,ha1,ho1⟩; have HS1 := gh (HS0.o.read ha1 ho1); clear ha1 ho1 HBEG HW; have HB1 := gh (byte_k s p ((m + 1 : Nat) : Int) g 3 w1 hs hin HS1.o.rd hk)
 go_wp2_with fail
 refine HB1.o.mono ?_; rintro e w2 ⟨rfl,ha2,ho2⟩; have HS2 := gh (HS1.o.read ha2 ho2); clear ha2 ho2 HB1 HS1; have c0 := HS2.o.cell 0; have f0 := HS2.o.frozen 0; have hvl := HS2.o.vlt; simp only [gX1,gX2] at c0; obtain ⟨W2,hW2⟩ := gXe (w2.setCell ⟨V, 0,none⟩ (.int .i64 3)); have hs3 : RS 37 w W2 g V s (p + 1) ((m + 1 : Nat) : Int) [.int .i64 3, .int .i64 0, .float .f64 0, .string ⟨#[]⟩, .slice none 0 0, .slice none 0 0] := by rw [hW2]; exact HS2.o.set_ 0 _
 have HS3 := gh hs3; have HW2 := gh hW2; clear hs3 hW2
 go_upto_region 3 with fail
 rw [<- HW2.o]; clear c0 f0 hvl HS2; have c0 := HS3.o.cell 0; have hvl := HS3.o.vlt; simp only [gX1,gX2] at c0; have HR := gh (rfloat_any s (p + 1) ((m + 1 : Nat) : Int) g W2 hs (by omega) HS3.o.rd)
 rw [hu] at HR
 go_wp2_with fail
 refine HR.o.mono ?_; rintro e w3 ⟨rfl,ha3,ho3⟩; have HS4 := gh (HS3.o.read ha3 ho3); clear ha3 ho3 HR HS3 c0 hvl; have c1 := HS4.o.cell 2; have f1 := HS4.o.frozen 2; have hvl := HS4.o.vlt; simp only [gX1,gX2] at c1; obtain ⟨W4,hW4⟩ := gXe (w3.setCell ⟨V, 2,none⟩ (.float .f64 n)); have hs5 : RS 37 w W4 g V s q ((m + 1 : Nat) : Int) [.int .i64 3, .int .i64 0, .float .f64 n, .string ⟨#[]⟩, .slice none 0 0, .slice none 0 0] := by rw [hW4]; exact HS4.o.set_ 2 _
 have HS5 := gh hs5; have HW4 := gh hW4; clear hs5 hW4
 go_upto_region 22 with fail
 rw [<- HW4.o]; clear c1 f1 hvl HS4; have e0 := HS5.o.cell 0; have e1 := HS5.o.cell 1; have e2 := HS5.o.cell 2; have e3 := HS5.o.cell 3; have e4 := HS5.o.cell 4; have e5 := HS5.o.cell 5; have f0 := HS5.o.frozen 0; have f1 := HS5.o.frozen 1; have f2 := HS5.o.frozen 2; have f3 := HS5.o.frozen 3; have f4 := HS5.o.frozen 4; have f5 := HS5.o.frozen 5; simp only [gX1,gX2] at e0 e1 e2 e3 e4 e5; obtain ⟨WF,hWF⟩ := gXe (((((((W4.setCell ⟨V, 0,none⟩ (.int .i64 3)).setCell ⟨V, 1,none⟩ (.int .i64 0)).setCell ⟨V, 2,none⟩ (.float .f64 n)).setCell ⟨V, 3,none⟩ (.string ⟨#[]⟩)).setCell ⟨V, 4,none⟩ (.slice none 0 0)).setCell ⟨V, 5,none⟩ (.slice none 0 0))); have HSF : Hid (RS 37 w WF g V s _ _ [.int .i64 3, .int .i64 0, .float .f64 n, .string ⟨#[]⟩, .slice none 0 0, .slice none 0 0]) := gh (by rw [hWF]; exact HS5.o.six _ _ _ _ _ _)
 have HWF := gh hWF; clear hWF
 go_wp2_with fail
 rw [<- HWF.o]; clear e0 e1 e2 e3 e4 e5 f0 f1 f2 f3 f4 f5; have e0 := HSF.o.cell 0; have e1 := HSF.o.cell 1; have e2 := HSF.o.cell 2; have e3 := HSF.o.cell 3; have e4 := HSF.o.cell 4; have e5 := HSF.o.cell 5; simp only [gX1,gX2] at e0 e1 e2 e3 e4 e5; refine bodyPost_ret (v := .agg #[.int .i64 3, .int .i64 0, .float .f64 n, .string ⟨#[]⟩, .slice none 0 0, .slice none 0 0]) (by simp [results,Tryz.results153,go_sem,e0,e1,e2,e3,e4,e5]) rfl ?_
 exact leaf_end HSF.o HE.o (by unfold i64r; omega) (by unfold i64r; omega) hul (by unfold strok; decide)
theorem rv_str_bad (s : ByteArray) (hs : s.size <= 100000) (d p m deep g : Nat) (w : World) (hd : deep + d = 12) (hp : p <= s.size) (hm : m <= 200) (hm1 : m + 1 <= 200) (hin : p < s.size) (hk : (byteAt s p).toNat = 4) (k : Int) (hu : readS s (p + 1) 200 = .error k) (h : At w g s p (m : Int)) :
  Calls Tryz.prog 153 #[.pointer (some ⟨g, 0,none⟩), .int .i64 deep] w fun e w' => ValRead (rdV s (d + 1) p m) s g w e w' := by
 have hsf := run_store_flt; obtain ⟨V,hV⟩ := gXe (w.heap.size); obtain ⟨W,hW⟩ := gXe (w.alloc (.cells #[.int .i64 0, .int .i64 0, .float .f64 0, .string ⟨#[]⟩, .slice none 0 0, .slice none 0 0] 37)); have hst : RS 37 w W g V s p (m : Int) [.int .i64 0, .int .i64 0, .float .f64 0, .string ⟨#[]⟩, .slice none 0 0, .slice none 0 0] := by rw [hV,hW]; exact RS.start w g s p m _ h
 have HV := gh hV; have HW := gh hW; have HS0 := gh hst; clear hV hW hst h; have HBEG := gh (rbegin_ok s p m deep g W (by omega) hm1 HS0.o.rd)
 have HE : Hid (rdV s (d + 1) p m = .error k) := gh (by unfold rdV; rw [if_neg (by omega),if_neg (by omega),if_neg (by rw [hk]; decide),if_neg (by rw [hk]; decide),if_neg (by rw [hk]; decide),if_pos hk,hu])
 go_enter Tryz.func153,Tryz.ntmps153
 go_wp2_with fail
 rw [<- HW.o, <- HV.o]; refine HBEG.o.mono ?_; rintro e w1 ⟨rfl,ha1,ho1⟩; have HS1 := gh (HS0.o.read ha1 ho1); clear ha1 ho1 HBEG HW; have HB1 := gh (byte_k s p ((m + 1 : Nat) : Int) g 4 w1 hs hin HS1.o.rd hk)
 go_wp2_with fail
 refine HB1.o.mono ?_; rintro e w2 ⟨rfl,ha2,ho2⟩; have HS2 := gh (HS1.o.read ha2 ho2); clear ha2 ho2 HB1 HS1; have c0 := HS2.o.cell 0; have f0 := HS2.o.frozen 0; have hvl := HS2.o.vlt; simp only [gX1,gX2] at c0; obtain ⟨W2,hW2⟩ := gXe (w2.setCell ⟨V, 0,none⟩ (.int .i64 4)); have hs3 : RS 37 w W2 g V s (p + 1) ((m + 1 : Nat) : Int) [.int .i64 4, .int .i64 0, .float .f64 0, .string ⟨#[]⟩, .slice none 0 0, .slice none 0 0] := by rw [hW2]; exact HS2.o.set_ 0 _
 have HS3 := gh hs3; have HW2 := gh hW2; clear hs3 hW2
 go_upto_region 3 with fail
 rw [<- HW2.o]; clear c0 f0 hvl HS2; have c0 := HS3.o.cell 0; have hvl := HS3.o.vlt; simp only [gX1,gX2] at c0; have HR := gh (rstr_any s (p + 1) ((m + 1 : Nat) : Int) 200 g W2 hs (by omega) (by omega) (by omega) HS3.o.rd)
 rw [hu] at HR
 go_wp2_with fail
 refine HR.o.mono ?_; rintro e w3 ⟨rfl,ho3⟩; have ho := HS3.o.only.trans ho3; unfold gives
 go_wp2
 refine ⟨rfl,?_⟩; refine ⟨ho,?_⟩; rw [HE.o]
 rfl
theorem rv_str (s : ByteArray) (hs : s.size <= 100000) (d p m deep g : Nat) (w : World) (hd : deep + d = 12) (hp : p <= s.size) (hm : m <= 200) (hm1 : m + 1 <= 200) (hin : p < s.size) (hk : (byteAt s p).toNat = 4) (t : ByteArray) (q : Nat) (hu : readS s (p + 1) 200 = .ok (t, q)) (h : At w g s p (m : Int)) :
  Calls Tryz.prog 153 #[.pointer (some ⟨g, 0,none⟩), .int .i64 deep] w fun e w' => ValRead (rdV s (d + 1) p m) s g w e w' := by
 have hsf := run_store_flt; obtain ⟨V,hV⟩ := gXe (w.heap.size); obtain ⟨W,hW⟩ := gXe (w.alloc (.cells #[.int .i64 0, .int .i64 0, .float .f64 0, .string ⟨#[]⟩, .slice none 0 0, .slice none 0 0] 37)); have hst : RS 37 w W g V s p (m : Int) [.int .i64 0, .int .i64 0, .float .f64 0, .string ⟨#[]⟩, .slice none 0 0, .slice none 0 0] := by rw [hV,hW]; exact RS.start w g s p m _ h
 have HV := gh hV; have HW := gh hW; have HS0 := gh hst; clear hV hW hst h; have HBEG := gh (rbegin_ok s p m deep g W (by omega) hm1 HS0.o.rd)
 have HE : Hid (rdV s (d + 1) p m = .ok (Val.leafS t,q,m + 1)) := gh (by unfold rdV; rw [if_neg (by omega),if_neg (by omega),if_neg (by rw [hk]; decide),if_neg (by rw [hk]; decide),if_neg (by rw [hk]; decide),if_pos hk,hu])
 have hul := (readS_lt hu).2.2
 go_enter Tryz.func153,Tryz.ntmps153
 go_wp2_with fail
 rw [<- HW.o, <- HV.o]; refine HBEG.o.mono ?_; rintro e w1 ⟨rfl,ha1,ho1⟩; have HS1 := gh (HS0.o.read ha1 ho1); clear ha1 ho1 HBEG HW; have HB1 := gh (byte_k s p ((m + 1 : Nat) : Int) g 4 w1 hs hin HS1.o.rd hk)
 go_wp2_with fail
 refine HB1.o.mono ?_; rintro e w2 ⟨rfl,ha2,ho2⟩; have HS2 := gh (HS1.o.read ha2 ho2); clear ha2 ho2 HB1 HS1; have c0 := HS2.o.cell 0; have f0 := HS2.o.frozen 0; have hvl := HS2.o.vlt; simp only [gX1,gX2] at c0; obtain ⟨W2,hW2⟩ := gXe (w2.setCell ⟨V, 0,none⟩ (.int .i64 4)); have hs3 : RS 37 w W2 g V s (p + 1) ((m + 1 : Nat) : Int) [.int .i64 4, .int .i64 0, .float .f64 0, .string ⟨#[]⟩, .slice none 0 0, .slice none 0 0] := by rw [hW2]; exact HS2.o.set_ 0 _
 have HS3 := gh hs3; have HW2 := gh hW2; clear hs3 hW2
 go_upto_region 3 with fail
 rw [<- HW2.o]; clear c0 f0 hvl HS2; have c0 := HS3.o.cell 0; have hvl := HS3.o.vlt; simp only [gX1,gX2] at c0; have HR := gh (rstr_any s (p + 1) ((m + 1 : Nat) : Int) 200 g W2 hs (by omega) (by omega) (by omega) HS3.o.rd)
 rw [hu] at HR
 go_wp2_with fail
 refine HR.o.mono ?_; rintro e w3 ⟨rfl,ha3,ho3⟩; have HS4 := gh (HS3.o.read ha3 ho3); clear ha3 ho3 HR HS3 c0 hvl; have c1 := HS4.o.cell 3; have f1 := HS4.o.frozen 3; have hvl := HS4.o.vlt; simp only [gX1,gX2] at c1; obtain ⟨W4,hW4⟩ := gXe (w3.setCell ⟨V, 3,none⟩ (.string t)); have hs5 : RS 37 w W4 g V s q ((m + 1 : Nat) : Int) [.int .i64 4, .int .i64 0, .float .f64 0, .string t, .slice none 0 0, .slice none 0 0] := by rw [hW4]; exact HS4.o.set_ 3 _
 have HS5 := gh hs5; have HW4 := gh hW4; clear hs5 hW4
 go_upto_region 22 with fail
 rw [<- HW4.o]; clear c1 f1 hvl HS4; have e0 := HS5.o.cell 0; have e1 := HS5.o.cell 1; have e2 := HS5.o.cell 2; have e3 := HS5.o.cell 3; have e4 := HS5.o.cell 4; have e5 := HS5.o.cell 5; have f0 := HS5.o.frozen 0; have f1 := HS5.o.frozen 1; have f2 := HS5.o.frozen 2; have f3 := HS5.o.frozen 3; have f4 := HS5.o.frozen 4; have f5 := HS5.o.frozen 5; simp only [gX1,gX2] at e0 e1 e2 e3 e4 e5; obtain ⟨WF,hWF⟩ := gXe (((((((W4.setCell ⟨V, 0,none⟩ (.int .i64 4)).setCell ⟨V, 1,none⟩ (.int .i64 0)).setCell ⟨V, 2,none⟩ (.float .f64 0)).setCell ⟨V, 3,none⟩ (.string t)).setCell ⟨V, 4,none⟩ (.slice none 0 0)).setCell ⟨V, 5,none⟩ (.slice none 0 0))); have HSF : Hid (RS 37 w WF g V s _ _ [.int .i64 4, .int .i64 0, .float .f64 0, .string t, .slice none 0 0, .slice none 0 0]) := gh (by rw [hWF]; exact HS5.o.six _ _ _ _ _ _)
 have HWF := gh hWF; clear hWF
 go_wp2_with fail
 rw [<- HWF.o]; clear e0 e1 e2 e3 e4 e5 f0 f1 f2 f3 f4 f5; have e0 := HSF.o.cell 0; have e1 := HSF.o.cell 1; have e2 := HSF.o.cell 2; have e3 := HSF.o.cell 3; have e4 := HSF.o.cell 4; have e5 := HSF.o.cell 5; simp only [gX1,gX2] at e0 e1 e2 e3 e4 e5; refine bodyPost_ret (v := .agg #[.int .i64 4, .int .i64 0, .float .f64 0, .string t, .slice none 0 0, .slice none 0 0]) (by simp [results,Tryz.results153,go_sem,e0,e1,e2,e3,e4,e5]) rfl ?_
 exact leaf_end HSF.o HE.o (by unfold i64r; omega) (by unfold i64r; omega) (by omega) (by unfold strok; omega)
theorem rv_other (s : ByteArray) (hs : s.size <= 100000) (d p m deep g : Nat) (w : World) (hd : deep + d = 12) (hp : p <= s.size) (hm : m <= 200) (hm1 : m + 1 <= 200) (hin : p < s.size) (hk1 : (byteAt s p).toNat = 0 \/ 6 < (byteAt s p).toNat) (h : At w g s p (m : Int)) :
  Calls Tryz.prog 153 #[.pointer (some ⟨g, 0,none⟩), .int .i64 deep] w fun e w' => ValRead (rdV s (d + 1) p m) s g w e w' := by
 have hsf := run_store_flt; obtain ⟨V,hV⟩ := gXe (w.heap.size); obtain ⟨W,hW⟩ := gXe (w.alloc (.cells #[.int .i64 0, .int .i64 0, .float .f64 0, .string ⟨#[]⟩, .slice none 0 0, .slice none 0 0] 37)); have hst : RS 37 w W g V s p (m : Int) [.int .i64 0, .int .i64 0, .float .f64 0, .string ⟨#[]⟩, .slice none 0 0, .slice none 0 0] := by rw [hV,hW]; exact RS.start w g s p m _ h
 have HV := gh hV; have HW := gh hW; have HS0 := gh hst; clear hV hW hst h; have HBEG := gh (rbegin_ok s p m deep g W (by omega) hm1 HS0.o.rd)
 have HE : Hid (rdV s (d + 1) p m = .error 5) := gh (by unfold rdV; rw [if_neg (by omega),if_neg (by omega),if_neg (by omega),if_neg (by omega),if_neg (by omega),if_neg (by omega),if_neg (by omega)])
 obtain ⟨K,hk⟩ : ∃ K, (byteAt s p).toNat = K := ⟨_,rfl⟩; have hK8 : K < 256 := by rw [<- hk]; exact (byteAt s p).toNat_lt
 rw [hk] at hk1; have hcv : IntKind.i64.wrap (K : Int) = (K : Int) := IntWalk.i64_in _ (by omega)
 have i1 : ((K : Int) == 1) = false := by simp; omega
 have i2 : ((K : Int) == 2) = false := by simp; omega
 have i3 : ((K : Int) == 3) = false := by simp; omega
 have i4 : ((K : Int) == 4) = false := by simp; omega
 have i5 : ((K : Int) == 5) = false := by simp; omega
 have i6 : ((K : Int) == 6) = false := by simp; omega
 go_enter Tryz.func153,Tryz.ntmps153
 go_wp2_with fail
 rw [<- HW.o, <- HV.o]; refine HBEG.o.mono ?_; rintro e w1 ⟨rfl,ha1,ho1⟩; have HS1 := gh (HS0.o.read ha1 ho1); clear ha1 ho1 HBEG HW; have HB1 := gh (byte_k s p ((m + 1 : Nat) : Int) g K w1 hs hin HS1.o.rd hk)
 go_wp2_with fail
 refine HB1.o.mono ?_; rintro e w2 ⟨rfl,ha2,ho2⟩; have HS2 := gh (HS1.o.read ha2 ho2); clear ha2 ho2 HB1 HS1; have c0 := HS2.o.cell 0; have f0 := HS2.o.frozen 0; have hvl := HS2.o.vlt; simp only [gX1,gX2] at c0; obtain ⟨W2,hW2⟩ := gXe (w2.setCell ⟨V, 0,none⟩ (.int .i64 K)); have hs3 : RS 37 w W2 g V s (p + 1) ((m + 1 : Nat) : Int) [.int .i64 K, .int .i64 0, .float .f64 0, .string ⟨#[]⟩, .slice none 0 0, .slice none 0 0] := by rw [hW2]; exact HS2.o.set_ 0 _
 have HS3 := gh hs3; have HW2 := gh hW2; clear hs3 hW2
 go_upto_region 3 with fail
 rw [<- HW2.o]; clear c0 f0 hvl HS2; have c0 := HS3.o.cell 0; have hvl := HS3.o.vlt; simp only [gX1,gX2] at c0
 go_wp2
 refine ⟨rfl,HS3.o.only,?_⟩; rw [HE.o]
 rfl
end Go.Proofs.YtaamihdibpioaaaGreat
