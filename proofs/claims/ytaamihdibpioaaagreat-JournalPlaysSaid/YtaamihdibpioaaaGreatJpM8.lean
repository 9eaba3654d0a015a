/- Whether a value may be one: names, fields, items, depth. -/
import Derived.Test.YtaamihdibpioaaaGreatJpM6
import Derived.Test.YtaamihdibpioaaaGreatJpM7
import Derived.Lib.Strings
import Derived.Lib.Slices
import Derived.Laws.IdiomStrings
import Derived.Laws.IdiomCopy
import Derived.Lib.ConvBytes
set_option maxRecDepth 100000
set_option maxHeartbeats 40000000
namespace Go.Proofs.YtaamihdibpioaaaGreat
open Go.RowKit
theorem below_bytes' {B : Nat} {a w : World} (h : Below B a w) (hB : B <= w.heap.size) (e : TypeId) (s : ByteArray) : Below B a (Lib.bytesWorld w e s) := by
 refine h.trans ⟨?_,?_,?_,?_,fun k hk => Lib.bytesWorld_at_old w e s k (by omega)⟩
 ·simp only [Lib.bytesWorld,World.freeze]; split <;> rfl
 ·simp only [Lib.bytesWorld,World.freeze]; split <;> rfl
 ·simp only [Lib.bytesWorld,World.freeze]; split <;> rfl
 ·rw [Lib.bytesWorld_size]; omega
def okAt (s : ByteArray) (i : Nat) : Prop := (97 <= (s.data.toList.getD i 0).toNat /\ (s.data.toList.getD i 0).toNat <= 122) \/ (0 < i /\ ((s.data.toList.getD i 0).toNat = 95 \/ (48 <= (s.data.toList.getD i 0).toNat /\ (s.data.toList.getD i 0).toNat <= 57)))
instance (s : ByteArray) (i : Nat) : Decidable (okAt s i) := by unfold okAt; infer_instance
def IsName (s : ByteArray) : Prop := 1 <= s.size /\ s.size <= 30 /\ ∀ i,i < s.size -> okAt s i
instance (s : ByteArray) : Decidable (IsName s) := by unfold IsName; infer_instance
def nameB (s : ByteArray) : Bool := decide (IsName s)
def BoolBelow (b : Bool) (w : World) (e : Ending) (w' : World) : Prop := e = .returned (.bool b) /\ Below w.heap.size w w'
theorem str_nonempty' {s : ByteArray} (h : 1 <= s.size) : s.toList.isEmpty = false := by
 cases h0 : s.toList with
 | nil =>
  exfalso
  have e : s = ByteArray.empty := by
   have := Lib.toList_data s; rw [h0] at this
   apply ByteArray.ext
   simpa using this.symm
  subst e
  simp at h
 | cons a l => rfl
theorem nameB_false {s : ByteArray} (h : ¬ IsName s) : nameB s = false := decide_eq_false h
theorem nameB_true {s : ByteArray} (h : IsName s) : nameB s = true := decide_eq_true h
theorem name_any (s : ByteArray) (w : World) (hs : strok s) : Calls Tryz.prog 193 #[.string s] w fun e w' => BoolBelow (nameB s) w e w' := by
 unfold strok at hs
 by_cases h0 : s.size = 0
 ·have hn : ¬ IsName s := fun h => by have := h.1; omega
  have e1 : s = ByteArray.empty := by have : s.data.size = 0 := h0; simpa using this
  rw [nameB_false hn,e1]
  go_enter Tryz.func193,Tryz.ntmps193
  go_wp2
  go_ret
  exact ⟨rfl,Below.refl _ _⟩
 ·have hne : s.toList.isEmpty = false := str_nonempty' (by omega)
  by_cases h30 : 30 < s.size
  ·have hn : ¬ IsName s := fun h => by have := h.2.1; omega
   have i1 : decide ((30 : Int) < (s.size : Int)) = true := by simp; omega
   rw [nameB_false hn]
   go_enter Tryz.func193,Tryz.ntmps193
   go_wp2
   go_ret
   exact ⟨rfl,Below.refl _ _⟩
  ·have i1 : decide ((30 : Int) < (s.size : Int)) = false := by simp; omega
   have hcv := fun W : World => Lib.run_convert_string_bytes (P := Tryz.prog) W 9 105 5 s Tryz.underlying9 Tryz.underlying105 Tryz.underlying5
   have hBW := below_bytes' (Below.refl w.heap.size w) (Nat.le_refl _) 5 s; have hcl := fun i (h : i < s.size) => Lib.bytesWorld_cell w 5 s i h
   have HB := gh hBW; have HC := gh hcl; clear hBW hcl
   go_enter Tryz.func193,Tryz.ntmps193
   go_wp2_with fail
   obtain ⟨W,hW⟩ := gXe (Lib.bytesWorld w 5 s); rw [<- hW] at HB HC; rw [<- hW]; clear hW
   go_loopw [15] (fun iv wr => ∃ i : Nat,iv = .int .i64 (i : Int) /\ i <= s.size /\ Hid (∀ j,j < i -> okAt s j) /\ wr = W) (fun iv _ => s.size - (intOf iv).toNat)
   case atStart => exact ⟨0,rfl,by omega,gh (fun j hj => absurd hj (by omega)),rfl⟩
   case round =>
    obtain ⟨i,rfl,hi,HR,rfl⟩ := hrel
    by_cases hlt : i < s.size
    ·obtain ⟨c, hc⟩ := gXe ((s.data.toList.getD i 0).toNat)
     have hcell := HC.o i hlt; have hc8 : c < 256 := by rw [hc]; exact UInt8.toNat_lt _
     rw [<- hc] at hcell; have hok : okAt s i ↔ (97 <= c /\ c <= 122) \/ (0 < i /\ (c = 95 \/ (48 <= c /\ c <= 57))) := by unfold okAt; rw [<- hc]
     have HOK := gh hok; clear hok hc; have hil : (i : Int) < (s.size : Int) := by omega
     go_wp2
     all_goals
      first
      | (go_roundw
         case rel => exact ⟨i + 1, by go_num, by omega, gh (fun j hj => by
          by_cases e : j = i
          ·rw [e]; exact HOK.o.2 (by omega)
          ·exact HR.o j (by omega)),trivial⟩
         case measure => simp [intOf]; omega)
      | (have hn : ¬ IsName s := fun h => by have := HOK.o.1 (h.2.2 i hlt); omega
         have HN : Hid (nameB s = false) := gh (nameB_false hn)
         go_ret
         exact ⟨by rw [HN.o]; rfl,HB.o⟩)
    ·have hn : IsName s := ⟨by omega, by omega, fun j hj => HR.o j (by omega)⟩
     have HN : Hid (nameB s = true) := gh (nameB_true hn); clear hn
     go_wp2
     go_ret
     exact ⟨by rw [HN.o]; rfl,HB.o⟩
inductive NamesAt (w : World) (a : Value) (ns : List ByteArray) : Prop where
 | none (p : Option Addr) (h1 : a = .slice p 0 0) (h2 : ns = [])
 | some (b o cap : Nat) (h1 : a = .slice (Option.some ⟨b,o,Option.none⟩) ns.length cap) (h2 : ns.length <= cap) (h3 : cap <= 9223372036854775807) (hb : ns.length = 0 \/ b < w.heap.size) (h4 : ∀ i,i < ns.length -> w.cell? ⟨b,o + i,Option.none⟩ = Option.some (.string (ns.getD i ByteArray.empty)))
theorem NamesAt.below {w w' : World} {a : Value} {ns : List ByteArray} (h : NamesAt w a ns) (hb : Below w.heap.size w w') : NamesAt w' a ns := by
 rcases h with ⟨p,h1,h2⟩ | ⟨b,o,cap,h1,h2,h3,h5,h4⟩
 ·exact .none p h1 h2
 ·refine .some b o cap h1 h2 h3 (by rcases h5 with h | h; exact .inl h; exact .inr (Nat.lt_of_lt_of_le h hb.size)) (fun i hi => ?_)
  have : b < w.heap.size := by rcases h5 with h | h <;> omega
  exact (hb.cell (p := ⟨b,o + i,Option.none⟩) this).trans (h4 i hi)
def RisAt (ns : List ByteArray) (i : Nat) : Prop := nameB (ns.getD i ByteArray.empty) = true /\ (i = 0 \/ Op.bytesLess (ns.getD (i - 1) ByteArray.empty).toList (ns.getD i ByteArray.empty).toList = true)
instance (ns : List ByteArray) (i : Nat) : Decidable (RisAt ns i) := by unfold RisAt; infer_instance
def IsRising (ns : List ByteArray) : Prop := ∀ i,i < ns.length -> RisAt ns i
instance (ns : List ByteArray) : Decidable (IsRising ns) := by unfold IsRising; infer_instance
def risingB (ns : List ByteArray) : Bool := decide (IsRising ns)
theorem risingB_false {ns : List ByteArray} {i : Nat} (hi : i < ns.length) (h : ¬ RisAt ns i) : risingB ns = false := decide_eq_false (fun h' => h (h' i hi))
theorem risingB_true {ns : List ByteArray} (h : IsRising ns) : risingB ns = true := decide_eq_true h
theorem rising_any (a : Value) (ns : List ByteArray) (w : World) (h : NamesAt w a ns) (hl : ns.length <= 140737488355328) (hs : ∀ s, s ∈ ns -> strok s) : Calls Tryz.prog 174 #[a] w fun e w' => BoolBelow (risingB ns) w e w' := by
 rcases h with ⟨pz,rfl,rfl⟩ | ⟨b,o,cap,rfl,h2,h3,h5,h4⟩
 ·go_enter Tryz.func174, Tryz.ntmps174
  go_wp2_with fail
  go_loopw [7] (fun iv wr => iv = .int .i64 0 /\ wr = w) (fun iv _ => 0)
  case atStart => exact ⟨rfl,rfl⟩
  case round =>
   obtain ⟨rfl,rfl⟩ := hrel
   go_wp2
   go_ret
   exact ⟨by rw [risingB_true (fun i hi => absurd hi (by simp))]; rfl,Below.refl _ _⟩
 ·have H4 := gh h4; have HS := gh hs
  obtain ⟨L,hL⟩ := gXe (ns.length); rw [<- hL] at h2 hl h5; rw [<- hL]; have HL := gh hL; clear h4 hs hL
  go_enter Tryz.func174,Tryz.ntmps174
  go_wp2_with fail
  go_loopw [7] (fun iv wr => ∃ i : Nat,iv = .int .i64 (i : Int) /\ i <= L /\ Hid (∀ j,j < i -> RisAt ns j) /\ Hid (Below w.heap.size w wr)) (fun iv _ => L - (intOf iv).toNat)
  case atStart => exact ⟨0,rfl,by omega,gh (fun j hj => absurd hj (by omega)),gh (Below.refl _ _)⟩
  case round =>
   obtain ⟨i,rfl,hi,HR,HB⟩ := hrel
   by_cases hlt : i < L
   ·have hil : i < ns.length := by rw [<- HL.o]; exact hlt
    have hbw : b < w.heap.size := by omega
    obtain ⟨s,hs⟩ := gXe (ns.getD i ByteArray.empty); have hcell : wr.cell? ⟨b,o + i,none⟩ = some (.string s) := by rw [hs,HB.o.cell (p := ⟨b,o + i,none⟩) hbw]; exact H4.o i hil
    have hsk : strok s := HS.o s (by rw [hs]; simp [hil])
    have HSK := gh hsk; have HS2 := gh hs; clear hs hsk hil
    cases hn : nameB s with
    | false =>
     have HN := gh hn; clear hn
     go_wp2_with fail
     refine (name_any s _ HSK.o).mono ?_; rw [HN.o]; rintro e w1 ⟨rfl,hb1⟩; have HB1 := gh (HB.o.trans (hb1.mono HB.o.size)); clear hb1
     go_wp2
     go_ret
     exact ⟨by rw [risingB_false (i := i) (by rw [<- HL.o]; exact hlt) (fun h => by have := h.1; rw [<- HS2.o,HN.o] at this; cases this)]; rfl,HB1.o⟩
    | true =>
     have HN := gh hn; clear hn
     by_cases h0 : i = 0
     ·have hpos : decide ((0 : Int) < (i : Int)) = false := by simp; omega
      have hpos2 : decide (0 < i) = false := by simp; omega
      have h0' : i <= 0 := by omega
      clear h0
      go_wp2_with fail
      refine (name_any s _ HSK.o).mono ?_; rw [HN.o]; rintro e w1 ⟨rfl,hb1⟩; have HB1 := gh (HB.o.trans (hb1.mono HB.o.size)); clear hb1
      go_wp2
      go_roundw
      case rel => exact ⟨i + 1, by go_num, by omega, gh (fun j hj => by
       have e : j = i := by omega
       rw [e]; exact ⟨by rw [<- HS2.o,HN.o], .inl (by omega)⟩),HB1⟩
      case measure => simp [intOf]; omega
     ·obtain ⟨u, hu⟩ := gXe (ns.getD (i - 1) ByteArray.empty)
      have hcu : wr.cell? ⟨b,o + (i - 1),none⟩ = some (.string u) := by rw [hu,HB.o.cell (p := ⟨b,o + (i - 1),none⟩) hbw]; exact H4.o (i - 1) (by rw [<- HL.o]; omega)
      have HCU := gh hcu; have HU := gh hu; clear hu hcu; have hpos : decide ((0 : Int) < (i : Int)) = true := by simp; omega
      have hpos2 : decide (0 < i) = true := by simp; omega
      have hsub : ((i : Int) - 1).toNat = i - 1 := by omega
      cases hl : Op.bytesLess u.toList s.toList with
      | true =>
       have HLS := gh hl; clear hl
       go_wp2_with fail
       refine (name_any s _ HSK.o).mono ?_; rw [HN.o]; rintro e w1 ⟨rfl,hb1⟩; have HB1 := gh (HB.o.trans (hb1.mono HB.o.size)); have hcu1 : w1.cell? ⟨b,o + (i - 1),none⟩ = some (.string u) := (hb1.cell (p := ⟨b,o + (i - 1),none⟩) (Nat.lt_of_lt_of_le hbw HB.o.size)).trans HCU.o; have hl := HLS.o; clear hb1
       go_wp2
       go_roundw
       case rel => exact ⟨i + 1, by go_num, by omega, gh (fun j hj => by
        by_cases e : j = i
        ·rw [e]
         exact ⟨by rw [<- HS2.o,HN.o], .inr (by rw [<- HS2.o, <- HU.o]; exact HLS.o)⟩
        ·exact HR.o j (by omega)),HB1⟩
       case measure => simp [intOf]; omega
      | false =>
       have HLS := gh hl; clear hl
       go_wp2_with fail
       refine (name_any s _ HSK.o).mono ?_; rw [HN.o]; rintro e w1 ⟨rfl,hb1⟩; have HB1 := gh (HB.o.trans (hb1.mono HB.o.size)); have hcu1 : w1.cell? ⟨b,o + (i - 1),none⟩ = some (.string u) := (hb1.cell (p := ⟨b,o + (i - 1),none⟩) (Nat.lt_of_lt_of_le hbw HB.o.size)).trans HCU.o; have hl := HLS.o; clear hb1
       go_wp2
       go_ret
       exact ⟨by rw [risingB_false (i := i) (by rw [<- HL.o]; exact hlt) (fun h => by
        rcases h.2 with h' | h'
        ·omega
        ·rw [<- HS2.o, <- HU.o,HLS.o] at h'; cases h')]; rfl,HB1.o⟩
   ·go_wp2
    go_ret
    exact ⟨by rw [risingB_true (fun j hj => HR.o j (by rw [<- HL.o] at hj; omega))]; rfl,HB.o⟩
def bareB (v : Val) (n f s rest : Bool) : Bool := (n || (v.n == 0)) && (f || (ford v.f 0 == 0)) && (s || v.s.toList.isEmpty) && (rest || (decide (v.ns.length = 0) && decide (v.xs.length = 0)))
theorem ret_bool {a b : Bool} (h : a = b) : Ending.returned (.bool a) = .returned (.bool b) := by rw [h]
theorem int_eq0 (n : Nat) : ((n : Int) == 0) = decide (n = 0) := by
 by_cases h : n = 0
 ·subst h; rfl
 ·simp [h]
theorem bare_any (v : Val) (b o : Nat) (w : World) (hp : PVal w b o v) (bn bf bs br : Bool)
  (hfl : (bn = true /\ bf = false /\ bs = false /\ br = false) \/ (bn = false /\ bf = true /\ bs = false /\ br = false) \/ (bn = false /\ bf = false /\ bs = true /\ br = false) \/ (bn = false /\ bf = false /\ bs = false /\ br = true)) :
  Calls Tryz.prog 173 #[.pointer (some ⟨b,o,none⟩), .bool bn, .bool bf, .bool bs, .bool br] w fun e w' => e = .returned (.bool (bareB v bn bf bs br)) /\ w = w' := by
 have c1 := hp.c1; have c2 := hp.c2; have c3 := hp.c3; have c4 := hp.c4; have c5 := hp.c5; obtain ⟨p4,q4,e4⟩ := hp.in.nslice; obtain ⟨p5,q5,e5⟩ := hp.in.xslice; rw [e4] at c4; rw [e5] at c5; obtain ⟨_,_,hf,_,hl4,hl5,_⟩ := hp.in.ok; have HO := gh (fun W : World => forder_any v.f 0 W hf (by omega))
 have hbare : ∀ (x y z t : Bool),bareB v x y z t = ((x || (v.n == 0)) && (y || (ford v.f 0 == 0)) && (z || v.s.toList.isEmpty) && (t || (decide (v.ns.length = 0) && decide (v.xs.length = 0)))) := fun _ _ _ _ => rfl
 obtain ⟨N,hN⟩ := gXe (v.n); obtain ⟨F,hF⟩ := gXe (v.f); obtain ⟨O,hO⟩ := gXe (ford v.f 0); obtain ⟨T,hT⟩ := gXe (v.s); obtain ⟨L,hL⟩ := gXe (v.ns.length); obtain ⟨M,hM⟩ := gXe (v.xs.length); rw [<- hL] at c4 hl4; rw [<- hM] at c5 hl5; rw [<- hT] at c3; rw [<- hF] at c2; rw [<- hN] at c1; rw [<- hO, <- hF] at HO; simp only [<- hN, <- hO, <- hT, <- hL, <- hM] at hbare; have HBR := gh hbare; clear hp e4 e5 hf hN hF hO hT hL hM hbare
 rcases hfl with ⟨rfl,rfl,rfl,rfl⟩ | ⟨rfl,rfl,rfl,rfl⟩ | ⟨rfl,rfl,rfl,rfl⟩ | ⟨rfl,rfl,rfl,rfl⟩
 all_goals
  go_enter Tryz.func173,Tryz.ntmps173
  try simp only [lapp_cons,lapp_nil]
  go_wp2_with (go_at_call 166; refine (HO.o _).mono ?_; rintro e w' ⟨rfl,rfl⟩)
  all_goals go_ret
  all_goals
   refine ⟨ret_bool (a := _) ?_,rfl⟩; rw [HBR.o]; clear HBR HO c1 c2 c3 c4 c5; have hLn := int_eq0 L; have hMn := int_eq0 M
   simp_all; done
end Go.Proofs.YtaamihdibpioaaaGreat
