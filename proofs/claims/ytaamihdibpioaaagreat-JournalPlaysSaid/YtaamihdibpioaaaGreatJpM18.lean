/- How numbers, strings, names stand to one another: what Go's own comparing functions answer. -/
import Derived.Test.YtaamihdibpioaaaGreatJpM11
import Derived.Lib.Bytealg
set_option maxRecDepth 100000
set_option maxHeartbeats 40000000
namespace Go.Proofs.YtaamihdibpioaaaGreat
open Go.RowKit
def sgnI (a b : Int) : Int := if a < b then -1 else if b < a then 1 else 0
theorem nan_int (a : Int) (w : World) : Calls Tryz.prog 52 #[.int .i64 a] w fun e w' => e = .returned (.bool false) /\ w = w' := by
 go_enter Tryz.func52,Tryz.ntmps52
 go_wp2
 go_ret
 exact ⟨rfl,rfl⟩
theorem nan_int64 (a : Int) (w : World) : Calls Tryz.prog 189 #[.int .i64 a] w fun e w' => e = .returned (.bool false) /\ w = w' := by
 go_enter Tryz.func189,Tryz.ntmps189
 go_wp2
 go_ret
 exact ⟨rfl,rfl⟩
theorem nan_str (a : ByteArray) (w : World) : Calls Tryz.prog 197 #[.string a] w fun e w' => e = .returned (.bool false) /\ w = w' := by
 go_enter Tryz.func197,Tryz.ntmps197
 go_wp2
 go_ret
 exact ⟨by simp,rfl⟩
theorem cmp_int (a b : Int) (w : World) : Calls Tryz.prog 33 #[.int .i64 a, .int .i64 b] w fun e w' => e = .returned (.int .i64 (sgnI a b)) /\ w = w' := by
 rcases Int.lt_trichotomy a b with h | h | h
 ·have e : sgnI a b = -1 := by unfold sgnI; rw [if_pos h]
  rw [e]; have i1 : decide (a < b) = true := by simpa using h
  clear e h
  go_enter Tryz.func33,Tryz.ntmps33
  go_wp2_with (go_at_call 52; refine (nan_int _ _).mono ?_; rintro e w' ⟨rfl,rfl⟩)
  go_ret
  exact ⟨rfl,rfl⟩
 ·subst h
  have e : sgnI a a = 0 := by unfold sgnI; simp
  rw [e]; clear e
  go_enter Tryz.func33,Tryz.ntmps33
  go_wp2_with (go_at_call 52; refine (nan_int _ _).mono ?_; rintro e w' ⟨rfl,rfl⟩)
  go_ret
  exact ⟨rfl,rfl⟩
 ·have e : sgnI a b = 1 := by unfold sgnI; rw [if_neg (by omega), if_pos h]
  rw [e]; have i1 : decide (a < b) = false := by simp; omega
  have i2 : decide (b < a) = true := by simpa using h
  clear e h
  go_enter Tryz.func33,Tryz.ntmps33
  go_wp2_with (go_at_call 52; refine (nan_int _ _).mono ?_; rintro e w' ⟨rfl,rfl⟩)
  go_ret
  exact ⟨rfl,rfl⟩
theorem cmp_int64 (a b : Int) (w : World) : Calls Tryz.prog 165 #[.int .i64 a, .int .i64 b] w fun e w' => e = .returned (.int .i64 (sgnI a b)) /\ w = w' := by
 rcases Int.lt_trichotomy a b with h | h | h
 ·have e : sgnI a b = -1 := by unfold sgnI; rw [if_pos h]
  rw [e]; have i1 : decide (a < b) = true := by simpa using h
  clear e h
  go_enter Tryz.func165,Tryz.ntmps165
  go_wp2_with (go_at_call 189; refine (nan_int64 _ _).mono ?_; rintro e w' ⟨rfl,rfl⟩)
  go_ret
  exact ⟨rfl,rfl⟩
 ·subst h
  have e : sgnI a a = 0 := by unfold sgnI; simp
  rw [e]; clear e
  go_enter Tryz.func165,Tryz.ntmps165
  go_wp2_with (go_at_call 189; refine (nan_int64 _ _).mono ?_; rintro e w' ⟨rfl,rfl⟩)
  go_ret
  exact ⟨rfl,rfl⟩
 ·have e : sgnI a b = 1 := by unfold sgnI; rw [if_neg (by omega), if_pos h]
  rw [e]; have i1 : decide (a < b) = false := by simp; omega
  have i2 : decide (b < a) = true := by simpa using h
  clear e h
  go_enter Tryz.func165,Tryz.ntmps165
  go_wp2_with (go_at_call 189; refine (nan_int64 _ _).mono ?_; rintro e w' ⟨rfl,rfl⟩)
  go_ret
  exact ⟨rfl,rfl⟩
def scmp (a b : ByteArray) : Int := if Op.bytesLess a.toList b.toList = true then -1 else if (a.toList == b.toList) = true then 0 else 1
theorem cmp_str (a b : ByteArray) (w : World) : Calls Tryz.prog 192 #[.string a, .string b] w fun e w' => e = .returned (.int .i64 (scmp a b)) /\ w = w' := by
 cases h1 : Op.bytesLess a.toList b.toList with
 | true =>
  have e : scmp a b = -1 := by unfold scmp; rw [if_pos h1]
  rw [e]; clear e
  go_enter Tryz.func192,Tryz.ntmps192
  go_wp2_with (go_at_call 197; refine (nan_str _ _).mono ?_; rintro e w' ⟨rfl,rfl⟩)
  go_ret
  exact ⟨rfl,rfl⟩
 | false =>
  cases h2 : (a.toList == b.toList) with
  | false =>
   have e : scmp a b = 1 := by unfold scmp; rw [if_neg (by rw [h1]; simp),if_neg (by rw [h2]; simp)]
   rw [e]; clear e
   go_enter Tryz.func192,Tryz.ntmps192
   go_wp2_with (go_at_call 197; refine (nan_str _ _).mono ?_; rintro e w' ⟨rfl,rfl⟩)
   go_ret
   exact ⟨rfl,rfl⟩
  | true =>
   have e : scmp a b = 0 := by unfold scmp; rw [if_neg (by rw [h1]; simp),if_pos h2]
   rw [e]; clear e
   go_enter Tryz.func192,Tryz.ntmps192
   go_wp2_with (go_at_call 197; refine (nan_str _ _).mono ?_; rintro e w' ⟨rfl,rfl⟩)
   go_ret
   exact ⟨rfl,rfl⟩
def leafB (k : Int) : Bool := decide (1 <= k /\ k <= 4)
theorem leaf_any (k : Int) (w : World) : Calls Tryz.prog 137 #[.int .i64 k] w fun e w' => e = .returned (.bool (leafB k)) /\ w = w' := by
 have hl : leafB k = (decide (1 <= k) && decide (k <= 4)) := by unfold leafB; by_cases h1 : 1 <= k <;> by_cases h2 : k <= 4 <;> simp [h1,h2]
 rw [hl]; clear hl
 by_cases h1 : 1 <= k
 ·have i1 : decide (1 <= k) = true := by simpa using h1
  rw [i1]; clear h1
  go_enter Tryz.func137,Tryz.ntmps137
  go_wp2
  go_ret
  exact ⟨by simp,rfl⟩
 ·have i1 : decide (1 <= k) = false := by simpa using h1
  rw [i1]; clear h1
  go_enter Tryz.func137,Tryz.ntmps137
  go_wp2
  go_ret
  exact ⟨by simp,rfl⟩
theorem bcmp_any (a b : ByteArray) (w : World) : Calls Tryz.prog 191 #[.string a, .string b] w fun e w' => e = .returned (.int .i64 (Lib.compareBytes a.data.toList b.data.toList)) /\ w = w' := by
 go_enter Tryz.func191,Tryz.ntmps191
 go_wp2_with fail
 rw [run_callFunc_extern Tryz.func196 (by kernel_rfl) (by kernel_rfl) (by kernel_rfl) (e := Extern.BytealgCompare.compare) (by kernel_rfl),Lib.run_compareString]
 simp only [Result.andThen]; rw [Oper.upon_value]
 go_wp2
 go_ret
 exact ⟨rfl,rfl⟩
theorem strcmp_any (a b : ByteArray) (w : World) : Calls Tryz.prog 167 #[.string a, .string b] w fun e w' => e = .returned (.int .i64 (Lib.compareBytes a.data.toList b.data.toList)) /\ w = w' := by
 go_enter Tryz.func167,Tryz.ntmps167
 go_wp2_with (go_at_call 191; refine (bcmp_any _ _ _).mono ?_; rintro e w' ⟨rfl,rfl⟩)
 go_ret
 exact ⟨rfl,rfl⟩
end Go.Proofs.YtaamihdibpioaaaGreat
namespace Go.Proofs.YtaamihdibpioaaaGreat
open Go.RowKit
def ncmp : List ByteArray -> List ByteArray -> Int
 | [], [] => 0
 | [],_ :: _ => -1
 | _ :: _, [] => 1
 | a :: l,b :: m => if scmp a b ≠ 0 then scmp a b else ncmp l m
theorem ncmp_nil (ms : List ByteArray) : ncmp [] ms = if 0 < ms.length then -1 else 0 := by cases ms <;> simp [ncmp]
theorem ncmp_one {ns : List ByteArray} (h : 0 < ns.length) : ncmp ns [] = 1 := by cases ns; simp at h; simp [ncmp]
theorem NamesAt.slice {w : World} {a : Value} {ns : List ByteArray} (h : NamesAt w a ns) : ∃ p c, a = .slice p ns.length c := by
 rcases h with ⟨p,rfl,rfl⟩ | ⟨b,o,cap,rfl,_⟩
 ·exact ⟨p, 0,rfl⟩
 ·exact ⟨_,_,rfl⟩
theorem ncmp_any (a b : Value) (ns ms : List ByteArray) (w : World) (ha : NamesAt w a ns) (hb : NamesAt w b ms) (hn : ns.length <= 8796093021952) (hm : ms.length <= 8796093021952) :
  Calls Tryz.prog 168 #[a,b] w fun e w' => e = .returned (.int .i64 (ncmp ns ms)) /\ w = w' := by
 rcases ha with ⟨pz,rfl,rfl⟩ | ⟨ab,ao,ac,rfl,a2,a3,a5,a4⟩
 ·obtain ⟨p, c, rfl⟩ := hb.slice
  have hz := ncmp_nil ms; obtain ⟨M,hM⟩ := gXe (ms.length); rw [<- hM] at hz hm; rw [<- hM]; have HZ := gh hz; clear hz hM hb
  by_cases h0 : 0 < M
  ·have i1 : decide ((0 : Int) < (M : Int)) = true := by simp; omega
   have HZ2 : Hid (ncmp [] ms = -1) := gh (by rw [HZ.o,if_pos h0])
   go_enter Tryz.func168,Tryz.ntmps168
   go_wp2_with fail
   go_loopw [11] (fun iv wr => iv = .int .i64 0 /\ wr = w) (fun _ _ => 0)
   case atStart => exact ⟨rfl,rfl⟩
   case round =>
    obtain ⟨rfl,rfl⟩ := hrel
    go_wp2
    go_ret
    exact ⟨by rw [HZ2.o]; rfl,rfl⟩
  ·have i1 : decide ((0 : Int) < (M : Int)) = false := by simp; omega
   have HZ2 : Hid (ncmp [] ms = 0) := gh (by rw [HZ.o,if_neg h0])
   go_enter Tryz.func168,Tryz.ntmps168
   go_wp2_with fail
   go_loopw [11] (fun iv wr => iv = .int .i64 0 /\ wr = w) (fun _ _ => 0)
   case atStart => exact ⟨rfl,rfl⟩
   case round =>
    obtain ⟨rfl,rfl⟩ := hrel
    go_wp2
    go_ret
    exact ⟨by rw [HZ2.o]; rfl,rfl⟩
 ·obtain ⟨L, hL⟩ := gXe (ns.length)
  have A4 := gh a4; rw [<- hL] at a2 hn a5; rw [<- hL]; have HL := gh hL; clear a4 hL; have hsl := hb.slice; obtain ⟨p,c,rfl⟩ := hsl; obtain ⟨M,hM⟩ := gXe (ms.length)
  have B4 : Hid (∀ i, i < M -> ∃ bb bo, p = some ⟨bb, bo, none⟩ /\ w.cell? ⟨bb, bo + i, none⟩ = some (.string (ms.getD i ByteArray.empty)) /\ M <= c) := gh (by
   intro i hi
   rcases hb with ⟨pz,h1,h2⟩ | ⟨bb,bo,bc,h1,h2,h3,h5,h4⟩
   ·rw [h2] at hM; simp at hM; omega
   ·injection h1 with q1 q2 q3
    subst q1; exact ⟨bb,bo,rfl,h4 i (by omega),by omega⟩)
  rw [<- hM] at hm; rw [<- hM]; have HM := gh hM; clear hb hM
  go_enter Tryz.func168,Tryz.ntmps168
  go_wp2_with fail
  go_loopw [11] (fun iv wr => ∃ i : Nat,iv = .int .i64 (i : Int) /\ i <= L /\ i <= M /\ Hid (ncmp (ns.drop i) (ms.drop i) = ncmp ns ms) /\ wr = w) (fun iv _ => L - (intOf iv).toNat)
  case atStart => exact ⟨0,rfl,by omega,by omega,gh rfl,rfl⟩
  case round =>
   obtain ⟨i,rfl,hi,hi2,HR,rfl⟩ := hrel
   by_cases hlt : i < L
   ·have hil : i < ns.length := by rw [<- HL.o]; exact hlt
    have hcell := A4.o i hil; obtain ⟨s,hs⟩ := gXe (ns.getD i ByteArray.empty); rw [<- hs] at hcell; have hdr := drop_cons hil; have hsi : ns[i]'hil = s := by rw [hs]; simp [hil]
    by_cases hlt2 : i < M
    ·obtain ⟨bb, bo, rfl, hc2, hMc⟩ := B4.o i hlt2
     have hil2 : i < ms.length := by rw [<- HM.o]; exact hlt2
     obtain ⟨t,ht⟩ := gXe (ms.getD i ByteArray.empty); rw [<- ht] at hc2; have hdr2 := drop_cons hil2; have hti : ms[i]'hil2 = t := by rw [ht]; simp [hil2]
     have hst : ncmp ns ms = if scmp s t ≠ 0 then scmp s t else ncmp (ns.drop (i + 1)) (ms.drop (i + 1)) := by
      rw [<- HR.o,hdr,hdr2,hsi,hti]; rfl
     have i2 : decide ((M : Int) <= (i : Int)) = false := by simp; omega
     have i2' : decide (M <= i) = false := by simp; omega
     have HST := gh hst; obtain ⟨c3,hc3⟩ := gXe (scmp s t); have HC := gh (cmp_str s t wr); rw [<- hc3] at HC HST; clear hst hs ht hsi hti hdr hdr2 HR hil hil2 hc3
     by_cases h0 : c3 = 0
     ·have HR2 : Hid (ncmp (ns.drop (i + 1)) (ms.drop (i + 1)) = ncmp ns ms) := gh (by rw [HST.o, if_neg (by simp [h0])])
      subst h0
      go_wp2_with fail
      refine HC.o.mono ?_; rintro e w' ⟨rfl,rfl⟩
      go_wp2
      go_roundw
      case rel => exact ⟨i + 1,by go_num,by omega,by omega,HR2,trivial⟩
      case measure => simp [intOf]; omega
     ·have HR2 : Hid (ncmp ns ms = c3) := gh (by rw [HST.o, if_pos h0])
      have i3 : (c3 == 0) = false := by simpa using h0
      have i4 : (c3 != 0) = true := by simpa using h0
      clear h0 HST
      go_wp2_with fail
      refine HC.o.mono ?_; rintro e w' ⟨rfl,rfl⟩
      go_wp2
      go_ret
      exact ⟨by rw [HR2.o]; rfl,rfl⟩
    ·have HR2 : Hid (ncmp ns ms = 1) := gh (by
      rw [<- HR.o,List.drop_eq_nil_of_le (show ms.length <= i by rw [<- HM.o]; omega)]
      exact ncmp_one (by simp; omega))
     have i2 : decide ((M : Int) <= (i : Int)) = true := by simp; omega
     have i2' : decide (M <= i) = true := by simp; omega
     clear hs hsi hdr HR hil
     go_wp2
     go_ret
     exact ⟨by rw [HR2.o]; rfl,rfl⟩
   ·have hz := ncmp_nil (ms.drop i)
    rw [<- List.drop_eq_nil_of_le (show ns.length <= i by rw [<- HL.o]; omega),HR.o] at hz
    by_cases h0 : i < M
    ·have HZ2 : Hid (ncmp ns ms = -1) := gh (by rw [hz, if_pos (by simp; rw [<- HM.o]; omega)])
     have i1 : decide ((L : Int) < (M : Int)) = true := by simp; omega
     have i1' : decide (L < M) = true := by simp; omega
     clear hz
     go_wp2
     go_ret
     exact ⟨by rw [HZ2.o]; rfl,rfl⟩
    ·have HZ2 : Hid (ncmp ns ms = 0) := gh (by rw [hz, if_neg (by simp; rw [<- HM.o]; omega)])
     have i1 : decide ((L : Int) < (M : Int)) = false := by simp; omega
     have i1' : decide (L < M) = false := by simp; omega
     clear hz
     go_wp2
     go_ret
     exact ⟨by rw [HZ2.o]; rfl,rfl⟩
end Go.Proofs.YtaamihdibpioaaaGreat
namespace Go.Proofs.YtaamihdibpioaaaGreat
open Go.RowKit
def Val.row (v u : Val) : Int :=
 if v.k = 1 \/ v.k = 2 then sgnI v.n u.n else if v.k = 3 then ford v.f u.f else if v.k = 4 then Lib.compareBytes v.s.data.toList u.s.data.toList else if v.k = 6 then ncmp v.ns u.ns else 0
end Go.Proofs.YtaamihdibpioaaaGreat
namespace Go.Proofs.YtaamihdibpioaaaGreat
open Go.RowKit
theorem sgnI_refl (a : Int) : sgnI a a = 0 := by unfold sgnI; rw [if_neg (by omega),if_neg (by omega)]
theorem sign_any (a b : Int) (w : World) : Calls Tryz.prog 72 #[.int .i64 a, .int .i64 b] w fun e w' => e = .returned (.int .i64 (sgnI a b)) /\ w = w' := by
 unfold sgnI
 by_cases h1 : a < b
 ·rw [if_pos h1]
  have t1 : decide (a < b) = true := by simpa using h1
  clear h1
  go_enter Tryz.func72,Tryz.ntmps72
  go_wp2
  go_ret
  exact ⟨rfl,rfl⟩
 ·rw [if_neg h1]
  have t1 : decide (a < b) = false := by simpa using h1
  by_cases h2 : b < a
  ·rw [if_pos h2]
   have t2 : decide (b < a) = true := by simpa using h2
   clear h1 h2
   go_enter Tryz.func72,Tryz.ntmps72
   go_wp2
   go_ret
   exact ⟨rfl,rfl⟩
  ·rw [if_neg h2]
   have t2 : decide (b < a) = false := by simpa using h2
   clear h1 h2
   go_enter Tryz.func72,Tryz.ntmps72
   go_wp2
   go_ret
   exact ⟨rfl,rfl⟩
theorem text_any (a b : ByteArray) (w : World) : Calls Tryz.prog 74 #[.string a, .string b] w fun e w' => e = .returned (.int .i64 (scmp a b)) /\ w = w' := by
 cases h1 : Op.bytesLess a.toList b.toList with
 | true =>
  have e : scmp a b = -1 := by unfold scmp; rw [if_pos h1]
  rw [e]; clear e
  go_enter Tryz.func74,Tryz.ntmps74
  go_wp2
  go_ret
  exact ⟨rfl,rfl⟩
 | false =>
  cases h2 : (a.toList == b.toList) with
  | false =>
   have e : scmp a b = 1 := by unfold scmp; rw [if_neg (by rw [h1]; simp),if_neg (by rw [h2]; simp)]
   rw [e]; clear e
   go_enter Tryz.func74,Tryz.ntmps74
   go_wp2
   go_ret
   exact ⟨rfl,rfl⟩
  | true =>
   have e : scmp a b = 0 := by unfold scmp; rw [if_neg (by rw [h1]; simp),if_pos h2]
   rw [e]; clear e
   go_enter Tryz.func74,Tryz.ntmps74
   go_wp2
   go_ret
   exact ⟨rfl,rfl⟩
def NamesIn (w : World) (p : Option Addr) (c : Nat) (ns : List ByteArray) : Prop := ∀ i,i < ns.length -> ∃ b o,p = some ⟨b,o,none⟩ /\ b < w.heap.size /\ w.cell? ⟨b,o + i,none⟩ = some (.string (ns.getD i ByteArray.empty)) /\ ns.length <= c
theorem names_in {w : World} {a : Value} {ns : List ByteArray} (h : NamesAt w a ns) : ∃ p c, a = .slice p ns.length c /\ NamesIn w p c ns := by
 rcases h with ⟨p,rfl,rfl⟩ | ⟨b,o,cap,rfl,h2,h3,h5,h4⟩
 ·exact ⟨p, 0,rfl,fun i hi => absurd hi (by simp)⟩
 ·exact ⟨_,_,rfl,fun i hi => ⟨b,o,rfl,by omega,h4 i hi,h2⟩⟩
theorem ncmp_end {ns ms : List ByteArray} {i : Nat} (h : i <= ns.length) (h' : i <= ms.length) (hx : i = ns.length \/ i = ms.length) : ncmp (ns.drop i) (ms.drop i) = sgnI (ns.length : Int) (ms.length : Int) := by
 unfold sgnI
 rcases hx with hx | hx
 ·rw [List.drop_eq_nil_of_le (Nat.le_of_eq hx.symm), ncmp_nil, List.length_drop]
  by_cases hm : ns.length < ms.length
  ·rw [if_pos (by omega),if_pos (by omega)]
  ·rw [if_neg (by omega),if_neg (by omega),if_neg (by omega)]
 ·rw [show ms.drop i = [] from List.drop_eq_nil_of_le (Nat.le_of_eq hx.symm)]
  by_cases hm : ms.length < ns.length
  ·rw [ncmp_one (by rw [List.length_drop]; omega),if_neg (by omega),if_pos (by omega)]
  ·rw [List.drop_eq_nil_of_le (by omega), if_neg (by omega), if_neg (by omega)]
   rfl
def IntDrew (n : Int) (w : World) (e : Ending) (w' : World) : Prop := e = .returned (.int .i64 n) /\ ∃ k,w' = w.drewN k
theorem rows_any (a b : Value) (ns ms : List ByteArray) (w : World) (ha : NamesAt w a ns) (hb : NamesAt w b ms) (hn : ns.length <= 8796093021952) (hm : ms.length <= 8796093021952) :
  Calls Tryz.prog 75 #[a,b] w fun e w' => IntDrew (ncmp ns ms) w e w' := by
 obtain ⟨p,c,rfl,hp⟩ := names_in ha; obtain ⟨q,c2,rfl,hq⟩ := names_in hb; obtain ⟨L,hL⟩ := gXe (ns.length); obtain ⟨M,hM⟩ := gXe (ms.length); rw [<- hL] at hn; rw [<- hM] at hm; rw [<- hL, <- hM]; have HL := gh hL; have HM := gh hM; have HP := gh hp; have HQ := gh hq; obtain ⟨N,hN⟩ := gXe (ncmp ns ms); rw [<- hN]; have HN := gh hN; clear hL hM hp hq ha hb hN
 go_enter Tryz.func75,Tryz.ntmps75
 go_wp2_with fail
 go_loopw [5] (fun iv wr => ∃ i k : Nat,iv = .int .i64 (i : Int) /\ i <= L /\ i <= M /\ Hid (ncmp (ns.drop i) (ms.drop i) = N) /\ Hid (wr = w.drewN k)) (fun iv _ => L - (intOf iv).toNat)
 case atStart => exact ⟨0, 0,rfl,by omega,by omega,gh HN.o.symm,gh rfl⟩
 case round =>
  obtain ⟨i,k,rfl,hi,hi2,HR,HK⟩ := hrel
  by_cases hlt : i < L /\ i < M
  ·obtain ⟨hlt1, hlt2⟩ := hlt
   have hil1 : i < ns.length := by rw [<- HL.o]; exact hlt1
   have hil2 : i < ms.length := by rw [<- HM.o]; exact hlt2
   obtain ⟨pb,po,rfl,hpb,hpc,hc⟩ := HP.o i hil1; obtain ⟨qb,qo,rfl,hqb,hqc,hc2⟩ := HQ.o i hil2; obtain ⟨s,hs⟩ := gXe (ns.getD i ByteArray.empty); obtain ⟨t,ht⟩ := gXe (ms.getD i ByteArray.empty); rw [<- hs] at hpc; rw [<- ht] at hqc; rw [<- HL.o] at hc; rw [<- HM.o] at hc2; have e1 : wr.cell? ⟨pb,po + i,none⟩ = some (.string s) := by rw [HK.o]; exact hpc
   have e2 : wr.cell? ⟨qb,qo + i,none⟩ = some (.string t) := by rw [HK.o]; exact hqc
   have hst : N = if scmp s t ≠ 0 then scmp s t else ncmp (ns.drop (i + 1)) (ms.drop (i + 1)) := by
    rw [<- HR.o,drop_cons hil1,drop_cons hil2]; simp only [ncmp]; rw [hs,ht]; simp only [List.getD_eq_getElem?_getD,List.getElem?_eq_getElem hil1,List.getElem?_eq_getElem hil2,Option.getD_some]
   have HST := gh hst; have HTX := gh (fun W : World => text_any s t W)
   obtain ⟨c3,hc3⟩ := gXe (scmp s t); rw [<- hc3] at HTX HST; have hk0 : (0 : Int) <= (i : Int) := by omega
   have hk1 : (i : Int) < (L : Int) := by omega
   have hk2 : (i : Int) < (M : Int) := by omega
   clear hpc hqc hs ht hst hc3 hil1 hil2 HR
   by_cases h0 : c3 = 0
   ·subst h0
    have HR2 : Hid (ncmp (ns.drop (i + 1)) (ms.drop (i + 1)) = N) := gh (by rw [HST.o,if_neg (by simp)])
    go_wp2_with fail
    go_quiet ((go_at_call 74; exact quiet_left (HTX.o _)))
    go_wp2
    exact ⟨⟨i + 1,k + nq,by go_num,by omega,by omega,HR2,gh (by rw [HK.o,World.drewN_drewN])⟩,by simp [intOf]; omega⟩
   ·have HR2 : Hid (N = c3) := gh (by rw [HST.o, if_pos h0])
    have i3 : (c3 == 0) = false := by simpa using h0
    have i4 : (c3 != 0) = true := by simpa using h0
    clear h0 HST
    go_wp2_with fail
    go_quiet ((go_at_call 74; exact quiet_left (HTX.o _)))
    go_wp2
    go_ret
    exact ⟨by rw [HR2.o]; rfl,k + nq,by rw [HK.o,World.drewN_drewN]⟩
  ·have hse := sign_any (L : Int) (M : Int) wr
   have HE : Hid (sgnI (L : Int) (M : Int) = N) := gh (by
    rw [<- HR.o,ncmp_end (by rw [<- HL.o]; exact hi) (by rw [<- HM.o]; exact hi2) (by rw [<- HL.o, <- HM.o]; omega), <- HL.o, <- HM.o])
   rw [HE.o] at hse; have HS := gh hse; clear hse HR
   by_cases h1 : i < L
   ·have h2 : ¬ i < M := by omega
    have t1 : decide ((i : Int) < (M : Int)) = false := by simp; omega
    have t1' : decide (i < M) = false := by simp; omega
    clear hlt
    go_wp2_with fail
    refine HS.o.mono ?_; rintro e w' ⟨rfl,rfl⟩
    go_wp2
    go_ret
    exact ⟨rfl,k,HK.o⟩
   ·have t1 : decide ((i : Int) < (L : Int)) = false := by simp; omega
    have t1' : decide (i < L) = false := by simp; omega
    clear hlt
    go_wp2_with fail
    refine HS.o.mono ?_; rintro e w' ⟨rfl,rfl⟩
    go_wp2
    go_ret
    exact ⟨rfl,k,HK.o⟩
end Go.Proofs.YtaamihdibpioaaaGreat
namespace Go.Proofs.YtaamihdibpioaaaGreat
open Go.RowKit
mutual
def Val.ord : Val -> Val -> Int
 | .mk k n f s na ns xa xs, u =>
  if sgnI k u.k ≠ 0 then sgnI k u.k
  else if Val.row (.mk k n f s na ns xa xs) u ≠ 0 \/ leafB k = true then Val.row (.mk k n f s na ns xa xs) u
  else Val.ordAll xs u.xs
def Val.ordAll : List Val -> List Val -> Int
 | [],ys => if 0 < ys.length then -1 else 0
 | x :: xs, ys => match ys with
  | [] => 1
  | y :: ys => if x.ord y ≠ 0 then x.ord y else Val.ordAll xs ys
end
mutual
def Val.Kinds : Val -> Prop
 | .mk k _ _ _ _ _ _ xs => (1 <= k /\ k <= 6) /\ Val.KindsAll xs
def Val.KindsAll : List Val -> Prop
 | [] => True
 | x :: xs => x.Kinds /\ Val.KindsAll xs
end
theorem Val.kindsAll_iff : ∀ xs : List Val, Val.KindsAll xs ↔ ∀ x, x ∈ xs -> x.Kinds
 | [] => by simp [Val.KindsAll]
 | x :: xs => by simp [Val.KindsAll,Val.kindsAll_iff xs]
theorem Val.kinds_iff (v : Val) : v.Kinds ↔ (1 <= v.k /\ v.k <= 6) /\ ∀ x, x ∈ v.xs -> x.Kinds := by
 cases v
 simp only [Val.Kinds,Val.kindsAll_iff,Val.k,Val.xs]
theorem items_at {w : World} {v : Val} (h : v.In w) : ∃ p c, v.xa.val v.xs.length = .slice p v.xs.length c /\ ∀ i (hi : i < v.xs.length), ∃ b o, p = some ⟨b, o, none⟩ /\ PVal w b (o + i * 6) (v.xs[i]'hi) /\ v.xs.length <= c := by
 rcases h.items with ⟨pz,h1,h2⟩ | ⟨b,o,cap,h1,h2,h3,h4⟩
 ·exact ⟨pz, 0,by rw [h1,h2]; rfl,fun i hi => by rw [h2] at hi; simp at hi⟩
 ·exact ⟨_,cap,h1,fun i hi => ⟨b,o,rfl,h4 i hi,h2⟩⟩
end Go.Proofs.YtaamihdibpioaaaGreat
namespace Go.Proofs.YtaamihdibpioaaaGreat
open Go.RowKit
def Val.same (v u : Val) : Bool := decide (v.ord u = 0)
end Go.Proofs.YtaamihdibpioaaaGreat
namespace Go.Proofs.YtaamihdibpioaaaGreat
open Go.RowKit
mutual
def Val.depth : Val -> Nat -> Nat
 | .mk _ _ _ _ _ _ _ xs,far => Val.depthAll xs far + 1
def Val.depthAll : List Val -> Nat -> Nat
 | [],_ => 0
 | x :: xs,far => if far = 0 then 0 else max (x.depth (far - 1)) (Val.depthAll xs far)
end
theorem Val.depth_eq (v : Val) (far : Nat) : v.depth far = Val.depthAll v.xs far + 1 := by cases v; simp [Val.depth,Val.xs]
theorem Val.depthAll_0 (xs : List Val) : Val.depthAll xs 0 = 0 := by cases xs <;> simp [Val.depthAll]
theorem Val.depth_le : ∀ (far : Nat) (v : Val), v.depth far <= far + 1
 | 0,v => by rw [Val.depth_eq,Val.depthAll_0]; exact Nat.le_refl _
 | far + 1, v => by
  rw [Val.depth_eq]
  have : ∀ xs : List Val, Val.depthAll xs (far + 1) <= far + 1 := fun xs => by
   induction xs with
   | nil => simp [Val.depthAll]
   | cons x xs ih =>
    simp only [Val.depthAll,Nat.add_sub_cancel]; rw [if_neg (by omega)]
    have := Val.depth_le far x
    omega
  have := this v.xs
  omega
theorem rcount_any : ∀ (d : Nat) (v : Val) (n : Nat) (w : World), v.sz <= d -> n < 500 -> v.In w ->
  Calls Tryz.prog 93 #[v.agg, .int .i64 n] w fun e w' => IntBelow ((v.count n : Nat) : Int) w e w'
 | 0,v,n,w,hd,_,_ => by rw [Val.sz_eq] at hd; omega
 | d + 1, v, n, w, hd, hn, h => by
  obtain ⟨W,hW⟩ := gXe (w.alloc (.cells v.cells.toArray 37)); have hBW : Below w.heap.size w W := by rw [hW]; exact (Below.refl _ w).alloc (Nat.le_refl _) _
  have hb0 : Blk W w.heap.size 37 v.cells.toArray := by rw [hW]; exact Blk.new w 37 _
  obtain ⟨p,c,e5,hx⟩ := items_at (h.below hBW); obtain ⟨L,hL⟩ := gXe (v.xs.length); obtain ⟨p4,q4,e4⟩ := h.nslice; have hxl := h.ok.2.2.2.2.2.1; have hcw := Val.count_le v.sz v n (Nat.le_refl _) hn; unfold Val.cells at hW hb0; rw [e4,e5, <- hL] at hW hb0; rw [<- hL] at hxl; unfold Val.agg; rw [e4,e5, <- hL]; have HX := gh hx; have HL := gh hL; have HW := gh hW; have HBW := gh hBW; have HB0 := gh hb0; have HC := gh (Val.count_eq v n); have HM := gh (show ∀ x,x ∈ v.xs -> x.sz <= d from fun x hx => by have := Val.size_mem hx; omega)
  obtain ⟨hcw1,hcw2⟩ := hcw; obtain ⟨cn,hcn⟩ := gXe (v.count n); rw [<- hcn] at HC hcw1 hcw2 ⊢; clear hx hL hW hBW hb0 e4 e5 h hd hcn
  go_enter Tryz.func93,Tryz.ntmps93
  go_wp2_with fail
  rw [<- HW.o]
  go_loopw [1, 5] (fun nv iv wr => ∃ i m : Nat,nv = .int .i64 (m : Int) /\ iv = .int .i64 (i : Int) /\ i <= L /\ m <= 500 /\ Hid (Val.countAll (v.xs.drop i) m = cn) /\ Hid (Below W.heap.size W wr)) (fun _ iv _ => L - (intOf iv).toNat)
  case atStart => exact ⟨0,n + 1,by simp,rfl,by omega,by omega,gh (by rw [HC.o]; rfl),gh (Below.refl _ _)⟩
  case round =>
   obtain ⟨i,m,rfl,rfl,hi,hm,HR,HB⟩ := hrel; have hz := HB0.o.lt; have c5 := (HB0.o.below HB.o hz).cell 5; simp only [gX0,gX1,gX2] at c5; clear hz
   by_cases hlt : i < L
   ·have hil : i < v.xs.length := by rw [<- HL.o]; exact hlt
    by_cases h500 : 500 <= m
    ·have HE : Hid (cn = m) := gh (by rw [<- HR.o, Val.countAll_ge h500])
     have hge : decide ((m : Int) < 500) = false := by simp; omega
     clear hil
     go_wp2_with fail
     go_ret
     exact ⟨by rw [HE.o]; rfl,HBW.o.trans (HB.o.mono HBW.o.size)⟩
    ·have hlt5 : decide ((m : Int) < 500) = true := by simp; omega
     obtain ⟨xb,xo,rfl,hpx,hlc⟩ := HX.o i hil; rw [<- HL.o] at hlc; obtain ⟨x,hxx⟩ := gXe (v.xs[i]'hil); have hcl := Val.count_le d (v.xs[i]'hil) m (HM.o _ (by simp)) (by omega)
     have HR2 : Hid (Val.countAll (v.xs.drop (i + 1)) ((v.xs[i]'hil).count m) = cn) := gh (by
      rw [<- HR.o,drop_cons hil]; simp [Val.countAll,h500])
     have hsz := HM.o (v.xs[i]'hil) (by simp)
     rw [<- hxx] at hpx hcl HR2 hsz; have hpw := hpx.below HB.o; have d0 := hpw.c0; have d1 := hpw.c1; have d2 := hpw.c2; have d3 := hpw.c3; have d4 := hpw.c4; have d5 := hpw.c5; obtain ⟨r4,t4,g4⟩ := hpw.in.nslice; obtain ⟨r5,t5,g5⟩ := hpw.in.xslice; rw [g4] at d4; rw [g5] at d5; have hc := rcount_any d x m wr hsz (by omega) hpw.in
     unfold Val.agg at hc; rw [g4,g5] at hc; obtain ⟨q,hq⟩ := gXe (x.count m); rw [<- hq] at hc hcl HR2; obtain ⟨hcl1,hcl2⟩ := hcl; have HC2 := gh hc; have hk0 : (0 : Int) <= (i : Int) := by omega
     have hk1 : (i : Int) < (L : Int) := by omega
     clear hil hpx hpw hc hq hxx g4 g5 hsz
     go_wp2_with fail
     refine HC2.o.mono ?_; rintro e w1 ⟨rfl,hb1⟩; have HB1 := gh (HB.o.trans (hb1.mono HB.o.size)); clear hb1 d0 d1 d2 d3 d4 d5 c5 HC2
     go_wp2
     go_roundw
     case rel => exact ⟨i + 1,q,rfl,by go_num,by omega,by omega,HR2,HB1⟩
     case measure => simp [intOf]; omega
   ·have HE : Hid (cn = m) := gh (by rw [<- HR.o, List.drop_eq_nil_of_le (by rw [<- HL.o]; omega)]; simp [Val.countAll])
    go_wp2_with fail
    go_ret
    exact ⟨by rw [HE.o]; rfl,HBW.o.trans (HB.o.mono HBW.o.size)⟩
theorem rparts_any (v : Val) (w : World) (h : v.In w) : Calls Tryz.prog 62 #[v.agg] w fun e w' => IntBelow ((v.count 0 : Nat) : Int) w e w' := by
 obtain ⟨W,hW⟩ := gXe (w.alloc (.cells v.cells.toArray 37)); have hBW : Below w.heap.size w W := by rw [hW]; exact (Below.refl _ w).alloc (Nat.le_refl _) _
 obtain ⟨p4,q4,e4⟩ := h.nslice; obtain ⟨p5,q5,e5⟩ := h.xslice; have hc := rcount_any v.sz v 0 W (Nat.le_refl _) (by omega) (h.below hBW)
 unfold Val.cells at hW; unfold Val.agg at hc ⊢; rw [e4,e5] at hW hc ⊢; have HW := gh hW; have HBW := gh hBW; have HC := gh hc; clear hW hBW hc e4 e5 h
 go_enter Tryz.func62,Tryz.ntmps62
 go_wp2_with fail
 rw [<- HW.o]; refine HC.o.mono ?_; rintro e w1 ⟨rfl,hb1⟩; have HB1 := gh (HBW.o.trans (hb1.mono HBW.o.size)); clear hb1
 go_wp2
 go_ret
 exact ⟨rfl,HB1.o⟩
theorem depth_any : ∀ (d : Nat) (v : Val) (far : Nat) (w : World), v.sz <= d -> far <= 40 -> v.In w ->
  Calls Tryz.prog 61 #[v.agg, .int .i64 far] w fun e w' => IntBelow ((v.depth far : Nat) : Int) w e w'
 | 0,v,far,w,hd,_,_ => by rw [Val.sz_eq] at hd; omega
 | d + 1, v, far, w, hd, hfar, h => by
  obtain ⟨W,hW⟩ := gXe (w.alloc (.cells v.cells.toArray 37)); have hBW : Below w.heap.size w W := by rw [hW]; exact (Below.refl _ w).alloc (Nat.le_refl _) _
  have hb0 : Blk W w.heap.size 37 v.cells.toArray := by rw [hW]; exact Blk.new w 37 _
  obtain ⟨p,c,e5,hx⟩ := items_at (h.below hBW); obtain ⟨L,hL⟩ := gXe (v.xs.length); obtain ⟨p4,q4,e4⟩ := h.nslice; have hxl := h.ok.2.2.2.2.2.1; unfold Val.cells at hW hb0; rw [e4,e5, <- hL] at hW hb0; rw [<- hL] at hxl; unfold Val.agg; rw [e4,e5, <- hL]; have hdl := Val.depth_le far v; have hde := Val.depth_eq v far; obtain ⟨D,hD⟩ := gXe (Val.depthAll v.xs far); rw [<- hD] at hde; rw [hde] at hdl ⊢; have HX := gh hx; have HL := gh hL; have HW := gh hW; have HBW := gh hBW; have HB0 := gh hb0; have HD := gh hD; have HM := gh (show ∀ x,x ∈ v.xs -> x.sz <= d from fun x hx => by have := Val.size_mem hx; omega)
  clear hx hL hW hBW hb0 e4 e5 h hd hD hde
  go_enter Tryz.func61,Tryz.ntmps61
  go_wp2_with fail
  rw [<- HW.o]
  go_loopw [5, 6] (fun nv iv wr => ∃ i m : Nat,nv = .int .i64 (m : Int) /\ iv = .int .i64 (i : Int) /\ i <= L /\ m <= 41 /\ Hid (max m (Val.depthAll (v.xs.drop i) far) = D) /\ Hid (Below W.heap.size W wr)) (fun _ iv _ => L - (intOf iv).toNat)
  case atStart => exact ⟨0, 0,rfl,rfl,by omega,by omega,gh (by rw [HD.o,Nat.zero_max]; rfl),gh (Below.refl _ _)⟩
  case round =>
   obtain ⟨i,m,rfl,rfl,hi,hm,HR,HB⟩ := hrel; have hz := HB0.o.lt; have c5 := (HB0.o.below HB.o hz).cell 5; simp only [gX0,gX1,gX2] at c5; clear hz
   by_cases hlt : i < L
   ·have hil : i < v.xs.length := by rw [<- HL.o]; exact hlt
    by_cases h0 : far = 0
    ·have HE : Hid (D = m) := gh (by rw [<- HR.o, h0, Val.depthAll_0, Nat.max_zero])
     subst h0; clear hil
     go_wp2_with fail
     go_ret
     exact ⟨by rw [HE.o]; simp,HBW.o.trans (HB.o.mono HBW.o.size)⟩
    ·have hf1 : decide ((0 : Int) < (far : Int)) = true := by simp; omega
     have hf2 : decide (0 < far) = true := by simp; omega
     obtain ⟨xb,xo,rfl,hpx,hlc⟩ := HX.o i hil; rw [<- HL.o] at hlc; obtain ⟨x,hxx⟩ := gXe (v.xs[i]'hil); have hcl := Val.depth_le (far - 1) (v.xs[i]'hil)
     have HR2 : Hid (max (max m ((v.xs[i]'hil).depth (far - 1))) (Val.depthAll (v.xs.drop (i + 1)) far) = D) := gh (by
      rw [<- HR.o,drop_cons hil]; simp only [Val.depthAll]; rw [if_neg h0,Nat.max_assoc])
     have hsz := HM.o (v.xs[i]'hil) (by simp)
     rw [<- hxx] at hpx hcl HR2 hsz; have hpw := hpx.below HB.o; have d0 := hpw.c0; have d1 := hpw.c1; have d2 := hpw.c2; have d3 := hpw.c3; have d4 := hpw.c4; have d5 := hpw.c5; obtain ⟨r4,t4,g4⟩ := hpw.in.nslice; obtain ⟨r5,t5,g5⟩ := hpw.in.xslice; rw [g4] at d4; rw [g5] at d5; have hc := depth_any d x (far - 1) wr hsz (by omega) hpw.in
     unfold Val.agg at hc; rw [g4,g5,show (((far - 1 : Nat) : Nat) : Int) = (far : Int) - 1 from by omega] at hc
     obtain ⟨q,hq⟩ := gXe (x.depth (far - 1)); rw [<- hq] at hc hcl HR2; have HC2 := gh hc; have hk0 : (0 : Int) <= (i : Int) := by omega
     have hk1 : (i : Int) < (L : Int) := by omega
     clear hil hpx hpw hc hq hxx g4 g5 hsz h0
     go_wp2_with fail
     refine HC2.o.mono ?_; rintro e w1 ⟨rfl,hb1⟩; have HB1 := gh (HB.o.trans (hb1.mono HB.o.size)); clear hb1 d0 d1 d2 d3 d4 d5 c5 HC2
     go_wp2
     go_roundw
     case rel => exact ⟨i + 1,max m q,congrArg (Value.int .i64) (by split <;> omega),by go_num,by omega,by omega,HR2,HB1⟩
     case measure => simp [intOf]; omega
   ·have HE : Hid (D = m) := gh (by rw [<- HR.o, List.drop_eq_nil_of_le (by rw [<- HL.o]; omega)]; simp [Val.depthAll])
    go_wp2_with fail
    go_ret
    exact ⟨by rw [HE.o]; simp,HBW.o.trans (HB.o.mono HBW.o.size)⟩
def Val.smallB (v : Val) : Bool := decide (v.depth 40 <= 30) && decide (v.count 0 < 500)
theorem small_any (v : Val) (w : World) (h : v.In w) : Calls Tryz.prog 41 #[v.agg] w fun e w' => BoolBelow v.smallB w e w' := by
 obtain ⟨W,hW⟩ := gXe (w.alloc (.cells v.cells.toArray 37)); have hBW : Below w.heap.size w W := by rw [hW]; exact (Below.refl _ w).alloc (Nat.le_refl _) _
 have hb0 : Blk W w.heap.size 37 v.cells.toArray := by rw [hW]; exact Blk.new w 37 _
 obtain ⟨p4,q4,e4⟩ := h.nslice; obtain ⟨p5,q5,e5⟩ := h.xslice; have hc := depth_any v.sz v 40 W (Nat.le_refl _) (by omega) (h.below hBW)
 have hp := fun (W' : World) (hb : Below W.heap.size W W') => rparts_any v W' ((h.below hBW).below hb)
 have hdl := Val.depth_le 40 v; have hcl := Val.count_le v.sz v 0 (Nat.le_refl _) (by omega)
 unfold Val.smallB; unfold Val.cells at hW hb0; unfold Val.agg at hc hp ⊢; rw [e4,e5] at hW hc hp hb0 ⊢; obtain ⟨D,hD⟩ := gXe (v.depth 40); obtain ⟨C,hC⟩ := gXe (v.count 0); rw [<- hD] at hdl hc ⊢; rw [<- hC] at hcl hp ⊢; obtain ⟨hcl1,hcl2⟩ := hcl; have HW := gh hW; have HBW := gh hBW; have HC := gh hc; have HP := gh hp; have HB0 := gh hb0; clear hW hBW hc hp e4 e5 h hD hC hb0
 by_cases hd : D <= 30
 ·have t1 : decide ((D : Int) <= 30) = true := by simp; omega
  go_enter Tryz.func41,Tryz.ntmps41
  go_wp2_with fail
  rw [<- HW.o]; refine HC.o.mono ?_; rintro e w1 ⟨rfl,hb1⟩; have HB1 := gh hb1; have hb2 := HB0.o.below hb1 HB0.o.lt; have c0 := hb2.cell 0; have c1 := hb2.cell 1; have c2 := hb2.cell 2; have c3 := hb2.cell 3; have c4 := hb2.cell 4; have c5 := hb2.cell 5; simp only [gX0,gX1,gX2] at c0 c1 c2 c3 c4 c5; clear hb1 hb2
  go_wp2_with fail
  refine (HP.o _ HB1.o).mono ?_; rintro e w2 ⟨rfl,hb2⟩; have HB2 := gh (HBW.o.trans ((HB1.o.mono HBW.o.size).trans (hb2.mono (Nat.le_trans HBW.o.size HB1.o.size)))); clear hb2
  by_cases h5 : C < 500
  ·have t2 : decide ((C : Int) < 500) = true := by simp; omega
   have t3 : (decide (D <= 30) && decide (C < 500)) = true := by simp; omega
   have HT := gh t3; clear t3
   go_wp2
   go_ret
   exact ⟨by rw [HT.o]; rfl,HB2.o⟩
  ·have t2 : decide ((C : Int) < 500) = false := by simp; omega
   have t3 : (decide (D <= 30) && decide (C < 500)) = false := by simp; omega
   have HT := gh t3; clear t3
   go_wp2
   go_ret
   exact ⟨by rw [HT.o]; rfl,HB2.o⟩
 ·have t1 : decide ((D : Int) <= 30) = false := by simp; omega
  have t3 : (decide (D <= 30) && decide (C < 500)) = false := by simp; omega
  rw [t3]; clear t3
  go_enter Tryz.func41,Tryz.ntmps41
  go_wp2_with fail
  rw [<- HW.o]; refine HC.o.mono ?_; rintro e w1 ⟨rfl,hb1⟩; have HB1 := gh (HBW.o.trans (hb1.mono HBW.o.size)); clear hb1
  go_wp2
  go_ret
  exact ⟨rfl,HB1.o⟩
end Go.Proofs.YtaamihdibpioaaaGreat
namespace Go.Proofs.YtaamihdibpioaaaGreat
open Go.RowKit
mutual
def Ty.depth : Ty -> Nat -> Nat
 | .mk _ _ _ _ xs,far => Ty.depthAll xs far + 1
def Ty.depthAll : List Ty -> Nat -> Nat
 | [],_ => 0
 | x :: xs,far => if far = 0 then 0 else max (x.depth (far - 1)) (Ty.depthAll xs far)
end
theorem Ty.depth_eq (v : Ty) (far : Nat) : v.depth far = Ty.depthAll v.xs far + 1 := by cases v; simp [Ty.depth,Ty.xs]
theorem Ty.depthAll_0 (xs : List Ty) : Ty.depthAll xs 0 = 0 := by cases xs <;> simp [Ty.depthAll]
theorem Ty.depth_le : ∀ (far : Nat) (v : Ty), v.depth far <= far + 1
 | 0,v => by rw [Ty.depth_eq,Ty.depthAll_0]; exact Nat.le_refl _
 | far + 1, v => by
  rw [Ty.depth_eq]
  have : ∀ xs : List Ty, Ty.depthAll xs (far + 1) <= far + 1 := fun xs => by
   induction xs with
   | nil => simp [Ty.depthAll]
   | cons x xs ih =>
    simp only [Ty.depthAll,Nat.add_sub_cancel]; rw [if_neg (by omega)]
    have := Ty.depth_le far x
    omega
  have := this v.xs
  omega
def Ty.smallB (v : Ty) : Bool := decide (v.depth 40 <= 30) && decide (v.count 0 < 500)
end Go.Proofs.YtaamihdibpioaaaGreat
namespace Go.Proofs.YtaamihdibpioaaaGreat
open Go.RowKit
mutual
def Exp.depth : Exp -> Nat -> Nat
 | .mk _ _ _ _ _ _ xs,far => Exp.depthAll xs far + 1
def Exp.depthAll : List Exp -> Nat -> Nat
 | [],_ => 0
 | x :: xs,far => if far = 0 then 0 else max (x.depth (far - 1)) (Exp.depthAll xs far)
end
theorem Exp.depth_eq (v : Exp) (far : Nat) : v.depth far = Exp.depthAll v.xs far + 1 := by cases v; simp [Exp.depth,Exp.xs]
theorem Exp.depthAll_0 (xs : List Exp) : Exp.depthAll xs 0 = 0 := by cases xs <;> simp [Exp.depthAll]
theorem Exp.depth_le : ∀ (far : Nat) (v : Exp), v.depth far <= far + 1
 | 0,v => by rw [Exp.depth_eq,Exp.depthAll_0]; exact Nat.le_refl _
 | far + 1, v => by
  rw [Exp.depth_eq]
  have : ∀ xs : List Exp, Exp.depthAll xs (far + 1) <= far + 1 := fun xs => by
   induction xs with
   | nil => simp [Exp.depthAll]
   | cons x xs ih =>
    simp only [Exp.depthAll,Nat.add_sub_cancel]; rw [if_neg (by omega)]
    have := Exp.depth_le far x
    omega
  have := this v.xs
  omega
theorem xrcount_any : ∀ (d : Nat) (v : Exp) (n : Nat) (w : World), v.sz <= d -> n < 500 -> v.In w ->
  Calls Tryz.prog 180 #[v.agg, .int .i64 n] w fun e w' => IntBelow ((v.count n : Nat) : Int) w e w'
 | 0,v,n,w,hd,_,_ => by rw [Exp.sz_eq] at hd; omega
 | d + 1, v, n, w, hd, hn, h => by
  obtain ⟨W,hW⟩ := gXe (w.alloc (.cells v.cells.toArray 169)); have hBW : Below w.heap.size w W := by rw [hW]; exact (Below.refl _ w).alloc (Nat.le_refl _) _
  have hb0 : Blk W w.heap.size 169 v.cells.toArray := by rw [hW]; exact Blk.new w 169 _
  obtain ⟨p,c,e5,hx⟩ := xitems_at (h.below hBW); obtain ⟨L,hL⟩ := gXe (v.xs.length); obtain ⟨p4,q4,e4⟩ := h.nslice; obtain ⟨p6,q6,e6⟩ := h.val.nslice; obtain ⟨p7,q7,e7⟩ := h.val.xslice; have hxl := h.ok.2.2.2.1; have hcw := Exp.count_le v.sz v n (Nat.le_refl _) hn; unfold Exp.cells at hW hb0; rw [e4,e5,e6,e7, <- hL] at hW hb0; rw [<- hL] at hxl; unfold Exp.agg; rw [e4,e5,e6,e7, <- hL]; have HX := gh hx; have HL := gh hL; have HW := gh hW; have HBW := gh hBW; have HB0 := gh hb0; have HC := gh (Exp.count_eq v n); have HM := gh (show ∀ x,x ∈ v.xs -> x.sz <= d from fun x hx => by have := Exp.size_mem hx; omega)
  obtain ⟨hcw1,hcw2⟩ := hcw; obtain ⟨cn,hcn⟩ := gXe (v.count n); rw [<- hcn] at HC hcw1 hcw2 ⊢; clear hx hL hW hBW hb0 e4 e5 e6 e7 h hd hcn
  go_enter Tryz.func180,Tryz.ntmps180
  go_wp2_with fail
  rw [<- HW.o]
  go_loopw [1, 5] (fun nv iv wr => ∃ i m : Nat,nv = .int .i64 (m : Int) /\ iv = .int .i64 (i : Int) /\ i <= L /\ m <= 500 /\ Hid (Exp.countAll (v.xs.drop i) m = cn) /\ Hid (Below W.heap.size W wr)) (fun _ iv _ => L - (intOf iv).toNat)
  case atStart => exact ⟨0,n + 1,by simp,rfl,by omega,by omega,gh (by rw [HC.o]; rfl),gh (Below.refl _ _)⟩
  case round =>
   obtain ⟨i,m,rfl,rfl,hi,hm,HR,HB⟩ := hrel; have hz := HB0.o.lt; have c5 := (HB0.o.below HB.o hz).cell 9; simp only [gX0,gX1,gX2] at c5; clear hz
   by_cases hlt : i < L
   ·have hil : i < v.xs.length := by rw [<- HL.o]; exact hlt
    by_cases h500 : 500 <= m
    ·have HE : Hid (cn = m) := gh (by rw [<- HR.o, Exp.countAll_ge h500])
     have hge : decide ((m : Int) < 500) = false := by simp; omega
     clear hil
     go_wp2_with fail
     go_ret
     exact ⟨by rw [HE.o]; rfl,HBW.o.trans (HB.o.mono HBW.o.size)⟩
    ·have hlt5 : decide ((m : Int) < 500) = true := by simp; omega
     obtain ⟨xb,xo,rfl,hpx,hlc⟩ := HX.o i hil; rw [<- HL.o] at hlc; obtain ⟨x,hxx⟩ := gXe (v.xs[i]'hil); have hcl := Exp.count_le d (v.xs[i]'hil) m (HM.o _ (by simp)) (by omega)
     have HR2 : Hid (Exp.countAll (v.xs.drop (i + 1)) ((v.xs[i]'hil).count m) = cn) := gh (by
      rw [<- HR.o,drop_cons hil]; simp [Exp.countAll,h500])
     have hsz := HM.o (v.xs[i]'hil) (by simp)
     rw [<- hxx] at hpx hcl HR2 hsz; have hpw := hpx.below HB.o; have d0 := hpw.c0; have d1 := hpw.c1; have d2 := hpw.c2; have d3 := hpw.c3; have d4 := hpw.c4; have d5 := hpw.c5; have d6 := hpw.c6; have d7 := hpw.c7; have d8 := hpw.c8; have d9 := hpw.c9; obtain ⟨r4,t4,g4⟩ := hpw.in.nslice; obtain ⟨r5,t5,g5⟩ := hpw.in.xslice; obtain ⟨r6,t6,g6⟩ := hpw.in.val.nslice; obtain ⟨r7,t7,g7⟩ := hpw.in.val.xslice; rw [g4] at d8; rw [g5] at d9; rw [g6] at d6; rw [g7] at d7; have hc := xrcount_any d x m wr hsz (by omega) hpw.in
     unfold Exp.agg at hc; rw [g4,g5,g6,g7] at hc; obtain ⟨q,hq⟩ := gXe (x.count m); rw [<- hq] at hc hcl HR2; obtain ⟨hcl1,hcl2⟩ := hcl; have HC2 := gh hc; have hk0 : (0 : Int) <= (i : Int) := by omega
     have hk1 : (i : Int) < (L : Int) := by omega
     clear hil hpx hpw hc hq hxx g4 g5 g6 g7 hsz
     go_wp2_with fail
     refine HC2.o.mono ?_; rintro e w1 ⟨rfl,hb1⟩; have HB1 := gh (HB.o.trans (hb1.mono HB.o.size)); clear hb1 d0 d1 d2 d3 d4 d5 d6 d7 d8 d9 c5 HC2
     go_wp2
     go_roundw
     case rel => exact ⟨i + 1,q,rfl,by go_num,by omega,by omega,HR2,HB1⟩
     case measure => simp [intOf]; omega
   ·have HE : Hid (cn = m) := gh (by rw [<- HR.o, List.drop_eq_nil_of_le (by rw [<- HL.o]; omega)]; simp [Exp.countAll])
    go_wp2_with fail
    go_ret
    exact ⟨by rw [HE.o]; rfl,HBW.o.trans (HB.o.mono HBW.o.size)⟩
theorem xrparts_any (v : Exp) (w : World) (h : v.In w) : Calls Tryz.prog 154 #[v.agg] w fun e w' => IntBelow ((v.count 0 : Nat) : Int) w e w' := by
 obtain ⟨W,hW⟩ := gXe (w.alloc (.cells v.cells.toArray 169)); have hBW : Below w.heap.size w W := by rw [hW]; exact (Below.refl _ w).alloc (Nat.le_refl _) _
 obtain ⟨p4,q4,e4⟩ := h.nslice; obtain ⟨p6,q6,e6⟩ := h.val.nslice; obtain ⟨p7,q7,e7⟩ := h.val.xslice; obtain ⟨p5,q5,e5⟩ := h.xslice; have hc := xrcount_any v.sz v 0 W (Nat.le_refl _) (by omega) (h.below hBW)
 unfold Exp.cells at hW; unfold Exp.agg at hc ⊢; rw [e4,e5,e6,e7] at hW hc ⊢; have HW := gh hW; have HBW := gh hBW; have HC := gh hc; clear hW hBW hc e4 e5 e6 e7 h
 go_enter Tryz.func154,Tryz.ntmps154
 go_wp2_with fail
 rw [<- HW.o]; refine HC.o.mono ?_; rintro e w1 ⟨rfl,hb1⟩; have HB1 := gh (HBW.o.trans (hb1.mono HBW.o.size)); clear hb1
 go_wp2
 go_ret
 exact ⟨rfl,HB1.o⟩
end Go.Proofs.YtaamihdibpioaaaGreat
