/- The reference's writers of numbers and strings. -/
import Derived.Test.YtaamihdibpioaaaGreatJpM14
import Derived.Deep.AppendLies
set_option maxRecDepth 100000
set_option maxHeartbeats 40000000
namespace Go.Proofs.YtaamihdibpioaaaGreat
open Go.RowKit
theorem byte_info : (Tryz.prog.info? 5).map (fun i => (i.zero,i.size,i.bytes)) = some (some (.int .u8 0), 1, 1) := by kernel_rfl
def OwnB (w : World) (base : Nat) (v : Value) (l : List UInt8) : Prop := w.ownsRow base 5 1 v l.length (Lib.byteCells l)
theorem OwnB.new (w : World) (base : Nat) (hb : base <= w.heap.size) : OwnB (w.alloc (.cells #[] 5)) base (.slice (some ⟨w.heap.size, 0, none⟩) 0 0) [] :=
 ⟨rfl, .inr ⟨w.heap.size, 0, #[],rfl,hb,heap_alloc_new w _,Nat.le_refl _,by unfold maxLen; omega,rfl,rfl⟩⟩
theorem conv_bytes {w : World} {base : Nat} {v : Value} {l : List UInt8} (h : OwnB w base v l) (hne : l ≠ []) :
  (convert (105 : Nat) (9 : Nat) v).run Tryz.prog w = .ok (.string ⟨l.toArray⟩) w := by
 have hl0 : 0 < l.length := by rcases l with _ | ⟨a,l⟩; exact absurd rfl hne; simp
 obtain ⟨g,cap,rfl,_,_⟩ := World.ownsRow.form h hl0
 have e : (⟨l.toArray⟩ : ByteArray) = strOfNums (l.map fun b => (b.toNat : Int)) := by
  unfold strOfNums
  apply ByteArray.ext
  have e : ((fun n : Int => UInt8.ofNat n.toNat) ∘ fun b : UInt8 => (b.toNat : Int)) = id := by
   funext b; simp
  simp [e]
 rw [e]; refine run_convert_bytes_arg (P := Tryz.prog) w 105 5 Tryz.underlying105 Tryz.underlying5 g 0 l.length cap (l.map fun b => (b.toNat : Int)) (by simp) (fun i hi => ?_) _ Tryz.underlying9
 have := World.ownsRow.cells (g := g) h rfl i (.int .u8 ((l.map fun b => (b.toNat : Int)).getD i 0)) (by simp [Lib.byteCells,List.getD,show i < l.length by omega])
 rwa [Addr.add_lit] at this
theorem u8_wrap_nat (m : Nat) (h : m < 256) : IntKind.u8.wrap (m : Int) = m := by rw [IntKind.wrap_u8]; omega
theorem wuint5_any (n : Nat) (w : World) (hn : n < 18446744073709551616) : Calls Tryz.prog 112 #[.int .u64 n] w fun e w' => Told (uintS n) w.heap.size w e w' := by
 obtain ⟨i0,hi0,hz0,hz1,hz2⟩ := info_parts byte_info; have HUL := gh (ub_len64 hn)
 go_enter Tryz.func112,Tryz.ntmps112
 go_wp2_with fail
 have HNEW := gh (OwnB.new w w.heap.size (Nat.le_refl _))
 go_loopw [0, 3] (fun v o wr => ∃ (m : Nat) (l : List UInt8),v = .int .u64 m /\ m < 18446744073709551616 /\ l ++ ub m = ub n /\ OwnB wr w.heap.size o l /\ Below w.heap.size w wr) (fun v _ _ => (intOf v).toNat)
 case atStart => exact ⟨n, [],rfl,hn,rfl,HNEW.o, (Below.refl _ _).alloc (Nat.le_refl _) _⟩
 case round =>
  obtain ⟨m,l,rfl,hm,heq,hown,hbl⟩ := hrel
  have hlm : l.length + (ub m).length = (ub n).length := by
   have := congrArg List.length heq
   simpa using this
  have hu := HUL.o
  have hum : 1 <= (ub m).length := by
   have := ub_ne m
   rcases h0 : ub m with _ | ⟨a,k⟩
   ·exact absurd h0 this
   ·simp
  have hll : l.length <= 10 := by omega
  have HOWN := gh hown; have HE := gh heq; have HBL := gh hbl; have hbz := hbl.size; clear hlm hu hum heq hown hbl HNEW
  by_cases hs : m < 128
  ·have hd : decide (128 <= (m : Int)) = false := by simp; omega
   have hw8 : IntKind.u8.wrap (m : Int) = m := u8_wrap_nat m (by omega)
   go_wp2_with (at_builtin; refine wpList_append_own _ rfl (.tmp 16) (.tmp 19) 105 rfl w.heap.size 5 i0 (.int .u8 0) 1 1 Tryz.underlying105 hi0 hz0 hz1 hz2 rfl (by decide) _ l.length (Lib.byteCells l) rfl (World.ownsRow.alloc HOWN.o _) ⟨wr.heap.size, 0,none⟩ 1 1 [_] rfl rfl (cells_new wr _ _) ?c1 (by unfold maxLen; omega) (by omega) (by simp; omega) ?_)
   case c1 => intro u hu; simp at hu; subst hu; rfl
   intro v' w' hown' hg' _; have hba := HBL.o.alloc hbz (.cells #[.int .u8 (m : Int)] 5); have hb' := gh (Below.own hba (World.ownsRow.alloc HOWN.o _) hg' hba.size)
   have ho2 : OwnB w' w.heap.size v' (l ++ [UInt8.ofNat m]) := by
    have e : Lib.byteCells (l ++ [UInt8.ofNat m]) = Lib.byteCells l ++ [Value.int .u8 (m : Int)] := by
     rw [Lib.byteCells_append]; simp [Lib.byteCells]; omega
    unfold OwnB; rw [e,List.length_append]; exact hown'
   have hcv := conv_bytes ho2 (by simp)
   have HEQ : Hid (l ++ [UInt8.ofNat m] = ub n) := gh (by rw [<- HE.o,ub_small hs])
   clear hba hg' hown' ho2 HE HOWN HBL HUL
   go_wp2_with fail
   go_ret
   exact ⟨by rw [HEQ.o]; rfl,hb'.out⟩
  ·have hd : decide (128 <= (m : Int)) = true := by simp; omega
   go_wp2_with (at_builtin; refine wpList_append_own _ rfl (.tmp 7) (.tmp 12) 105 rfl w.heap.size 5 i0 (.int .u8 0) 1 1 Tryz.underlying105 hi0 hz0 hz1 hz2 rfl (by decide) _ l.length (Lib.byteCells l) rfl (World.ownsRow.alloc HOWN.o _) ⟨wr.heap.size, 0,none⟩ 1 1 [_] rfl rfl (cells_new wr _ _) ?c1 (by unfold maxLen; omega) (by omega) (by simp; omega) ?_)
   case c1 => intro u hu; simp at hu; subst hu; rfl
   intro v' w' hown' hg' _; have hba := HBL.o.alloc hbz (.cells #[.int .u8 ((m : Int) % 128 + 128)] 5); have hb' := gh (Below.own hba (World.ownsRow.alloc HOWN.o _) hg' hba.size)
   have ho2 : OwnB w' w.heap.size v' (l ++ [UInt8.ofNat (m % 128 + 128)]) := by
    have e : Lib.byteCells (l ++ [UInt8.ofNat (m % 128 + 128)]) = Lib.byteCells l ++ [Value.int .u8 ((m : Int) % 128 + 128)] := by
     rw [Lib.byteCells_append]; simp only [Lib.byteCells,List.map_cons,List.map_nil]; rw [byte_of (by omega)]; congr 3
    unfold OwnB; rw [e,List.length_append]; exact hown'
   have HO2 := gh ho2; have HEQ : Hid ((l ++ [UInt8.ofNat (m % 128 + 128)]) ++ ub (m / 128) = ub n) := gh (by rw [<- HE.o,ub_great (n := m) (by omega)]; simp)
   clear hba hg' hown' ho2 HE HOWN HBL HUL
   go_wp2
   go_roundw
   case rel => exact ⟨m / 128,l ++ [UInt8.ofNat (m % 128 + 128)],rfl,by omega,HEQ.o,HO2.o,hb'.out⟩
   case measure => simp [intOf]; omega
theorem wint5_any (n : Int) (w : World) (h1 : -9223372036854775808 <= n) (h2 : n <= 9223372036854775807) : Calls Tryz.prog 157 #[.int .i64 n] w fun e w' => Told (intS n) w.heap.size w e w' := by
 by_cases h : n < 0
 ·have HU := gh (wuint5_any (zig n) w (zig_lt h1 h2))
  rw [show ((zig n : Nat) : Int) = (-1 - n) * 2 + 1 from by unfold zig; rw [if_pos h]; omega] at HU
  have hd : decide (n < 0) = true := by simpa using h
  go_enter Tryz.func157,Tryz.ntmps157
  go_wp2_with fail
  refine HU.o.mono ?_; rintro e w2 ⟨rfl,hb⟩
  go_wp2
  go_ret
  exact ⟨rfl,hb⟩
 ·have HU := gh (wuint5_any (zig n) w (zig_lt h1 h2))
  rw [show ((zig n : Nat) : Int) = n * 2 from by unfold zig; rw [if_neg h]; omega] at HU
  have hd : decide (n < 0) = false := by simpa using h
  go_enter Tryz.func157,Tryz.ntmps157
  go_wp2_with fail
  refine HU.o.mono ?_; rintro e w2 ⟨rfl,hb⟩
  go_wp2
  go_ret
  exact ⟨rfl,hb⟩
theorem str_join (a : List UInt8) (s : ByteArray) : (⟨a.toArray⟩ : ByteArray) ++ s = ⟨(a ++ s.data.toList).toArray⟩ := by
 apply ByteArray.ext
 simp [ByteArray.data_append]
theorem wstr5_any (s : ByteArray) (w : World) (hs : s.size + 10 <= 140737488355328) : Calls Tryz.prog 159 #[.string s] w fun e w' => Told (strS s) w.heap.size w e w' := by
 have HU := gh (wuint5_any s.size w (by omega))
 have hul := ub_len64 (n := s.size) (by omega)
 have hsz : (uintS s.size).size <= 10 := by show (ub s.size).toArray.size <= 10; rw [List.size_toArray]; exact hul
 have hwr : IntKind.u64.wrap (s.size : Int) = s.size := by rw [IntKind.wrap_u64]; omega
 have HJ := gh (str_join (ub s.size) s); clear hul
 go_enter Tryz.func159,Tryz.ntmps159
 go_wp2_with fail
 refine HU.o.mono ?_; rintro e w2 ⟨rfl,hb⟩
 go_wp2
 go_ret
 exact ⟨by unfold strS; rw [<- HJ.o]; rfl,hb⟩
end Go.Proofs.YtaamihdibpioaaaGreat
