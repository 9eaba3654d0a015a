/- The contract of frame.Make. -/
import Derived.Test.YtaamihdibpioaaaGreatJpM3
import Derived.Lib.AppendStr
import Derived.Lib.Strings
import Derived.Deep.AppendLies
set_option maxRecDepth 100000
set_option maxHeartbeats 40000000
namespace Go.Proofs.YtaamihdibpioaaaGreat
open Go.RowKit Go.Proofs.YtaamihdibpioaaaGreat.Crc
theorem byte_info : (Tryz.prog.info? 5).map (fun i => (i.zero,i.size,i.bytes)) = some (some (.int .u8 0), 1, 1) := by kernel_rfl
theorem conv_own {w : World} {base g n cap : Nat} {xs : List Int} (h : w.ownsRow base 5 1 (.slice (some ⟨g, 0, none⟩) n cap) n (xs.map (Value.int .u8))) :
  (convert (105 : Nat) (9 : Nat) (.slice (some ⟨g, 0,none⟩) n cap)).run Tryz.prog w = .ok (.string (strOfNums xs)) w := by
 have hl : xs.length = n := by have := h.1; simpa using this
 refine run_convert_bytes_arg (P := Tryz.prog) w 105 5 Tryz.underlying105 Tryz.underlying5 g 0 n cap xs hl (fun i hi => ?_) _ Tryz.underlying9
 have := h.cells (g := g) rfl i (.int .u8 (xs.getD i 0)) (by simp [List.getD,show i < xs.length by omega])
 rwa [Addr.add_lit] at this
theorem strOfNums_append (xs ys : List Int) : strOfNums (xs ++ ys) = strOfNums xs ++ strOfNums ys := by
 unfold strOfNums
 apply ByteArray.ext
 simp
theorem strOfNums_cells (s : ByteArray) : strOfNums (s.data.toList.map fun b => (b.toNat : Int)) = s := by
 unfold strOfNums
 apply ByteArray.ext
 have e : ((fun n : Int => UInt8.ofNat n.toNat) ∘ fun b : UInt8 => (b.toNat : Int)) = id := by
  funext b; simp
 simp [e]
theorem str_nonempty {s : ByteArray} (h : 1 <= s.size) : s.toList.isEmpty = false := by
 cases h0 : s.toList with
 | nil =>
  exfalso
  have e : s = ByteArray.empty := by
   have := Lib.toList_data s; rw [h0] at this
   apply ByteArray.ext
   simpa using this.symm
  subst e
  simp at h
 | cons a l => rfl
theorem make_bad (s : ByteArray) (w : World) (hs : s.size <= 9223372036854775807) (hb : s.size = 0 \/ 2000 < s.size) :
  Calls Tryz.prog 43 #[.string s] w fun e w' => e = .returned (.tuple #[.string ByteArray.empty, .int .i64 2]) /\ w = w' := by
 by_cases h0 : s.size = 0
 ·obtain rfl : s = ByteArray.empty := ByteArray.size_eq_zero_iff.1 h0
  clear hb hs h0
  go_enter Tryz.func43,Tryz.ntmps43
  go_wp2
  go_ret2
  exact ⟨rfl,rfl⟩
 ·have h1 : (2000 : Int) < s.size := by omega
  clear hb h0
  go_enter Tryz.func43,Tryz.ntmps43
  go_wp2
  all_goals go_ret2
  all_goals exact ⟨rfl,rfl⟩
def tails (c k : Nat) : List Int := [(c : Int) % 256, (c : Int) / 256 % 256, (c : Int) / 65536 % 256, (c : Int) / 16777216].take k
def tailCell (c k : Nat) : Array Value := #[.int .u8 ((tails c 4).getD k 0)]
def Made (s : ByteArray) (w : World) (e : Ending) (w' : World) : Prop := e = .returned (.tuple #[.string (frameOf s), .int .i64 0]) /\ Below w.heap.size w w'
theorem make_ok (s : ByteArray) (w : World) (h1 : 1 <= s.size) (h2 : s.size <= 2000) : Calls Tryz.prog 43 #[.string s] w fun e w' => Made s w e w' := by
 obtain ⟨i0,hi0,hz0,hz1,hz2⟩ := info_parts byte_info; have hne := str_nonempty h1; have h2' : (s.size : Int) <= 2000 := by omega
 go_enter Tryz.func43,Tryz.ntmps43
 go_wp2_with (first
  | (at_make; refine wpList_make_own _ rfl (.const (.int .i64 0)) (.tmp 17) 105 rfl w.heap.size 5 i0 (.int .u8 0) 1 Tryz.underlying105 hi0 hz0 hz1 .i64 .i64 _ (s.size + 6) rfl rfl (by omega) (by rw [hz2]; omega) (by unfold maxLen; omega) (Nat.le_refl _) ?_; intro w1 hown1 hg1; have hb1 : Below w.heap.size w w1 := (Below.refl _ _).grown hg1 (Nat.le_refl _) (by simp))
  | (at_builtin; refine wpList_append_own _ rfl (.tmp 19) (.tmp 27) 105 rfl w.heap.size 5 i0 (.int .u8 0) 1 1 Tryz.underlying105 hi0 hz0 hz1 hz2 rfl (by decide) _ 0 [] rfl (hown1.alloc _) ⟨w1.heap.size, 0,none⟩ 2 2 [_,_] rfl rfl (cells_new w1 _ _) ?h1 (by unfold maxLen; omega) (by omega) (by have := hb1.size; simp; omega) ?_))
 case h1 => intro u hu; simp at hu; rcases hu with rfl | rfl <;> rfl
 intro v2 w2 hown2 hg2 _; have hb1' : Below w.heap.size w (w1.alloc (.cells #[.int .u8 ((s.size : Int) / 256), .int .u8 ((s.size : Int) % 256)] 5)) := hb1.alloc hb1.size _; have hb2 := Below.own hb1' (hown1.alloc _) hg2 hb1'.size; clear hb1' hg2 hown1 hb1
 go_wp2_with (at_builtin; refine Lib.wpList_append_own_string _ rfl (.tmp 29) (.tmp 30) 105 9 rfl w.heap.size 5 i0 Tryz.underlying105 Tryz.underlying9 hi0 hz0 hz1 hz2 v2 2 _ rfl hown2 s rfl (by unfold maxLen; omega) (by omega) hb2.size ?_; intro v3 w3 hown3 hg3 _)
 have hb3 := Below.own hb2 hown2 hg3 hb2.size; clear hg3 hown2 hb2
 have hxs : ([Value.int .u8 ((s.size : Int) / 256), .int .u8 ((s.size : Int) % 256)] ++ Lib.strCells s) = ([(s.size : Int) / 256, (s.size : Int) % 256] ++ s.data.toList.map fun b => (b.toNat : Int)).map (Value.int .u8) := by
  simp [Lib.strCells,Function.comp_def]
 have hsx : strOfNums ([(s.size : Int) / 256, (s.size : Int) % 256] ++ s.data.toList.map fun b => (b.toNat : Int)) = headOf s ++ s := by
  rw [strOfNums_append,strOfNums_cells]; rfl
 rw [hxs] at hown3; obtain ⟨g3,cap3,hv3,_,_⟩ := hown3.form (by omega)
 rw [hv3] at hown3 ⊢; have hcv := conv_own hown3; rw [hsx] at hcv; clear hxs hv3; have HSX := gh hsx; clear hsx; rw [hcv]
 go_wp2_with fail
 have hcv' := gh hcv; clear hcv; have hz : (headOf s).size = 2 := strOfNums_size _; refine (sum_any (headOf s ++ s) _ (by rw [ByteArray.size_append,hz]; omega)).mono ?_
 rintro e w4 ⟨rfl,hl4⟩; have hown4 := hown3.kept (World.grownBy.mk hl4.os hl4.tape hl4.output hl4.size (fun k hk _ => hl4.block k hk) : w3.grownBy w4 none) (.inr (by simp [Value.ownBlock]))
 have hb4 := hb3.trans (hl4.mono hb3.size); clear hown3 hb3 hl4 hcv'; obtain ⟨c,hc⟩ := gXe (sum (headOf s ++ s).data.toList); have hlt := sum_lt (headOf s ++ s).data.toList; rw [<- hc] at hlt ⊢; have HC := gh hc; clear hc; obtain ⟨hs,hhs⟩ := gXe (([(s.size : Int) / 256, (s.size : Int) % 256] ++ s.data.toList.map fun b => (b.toNat : Int)))
 rw [<- hhs] at hown4 HSX; have hlen : hs.length = 2 + s.size := by rw [hhs]; simp; omega
 have HLEN := gh hlen; clear hhs hlen
 go_wp2_with fail
 go_loopw [4, 6] (fun v sh wr => ∃ k : Nat,k <= 4 /\ sh = .int .i64 ((8 * k : Nat) : Int) /\ wr.ownsRow w.heap.size 5 1 v (2 + s.size + k) ((hs ++ tails c k).map (Value.int .u8)) /\ Below w.heap.size w wr) (fun _ sh _ => (32 - intOf sh).toNat)
 case atStart => exact ⟨0,by omega,rfl,by simpa [tails] using hown4,hb4⟩
 case round =>
  obtain ⟨k,hk,rfl,hown,hb⟩ := hrel
  by_cases hk4 : k < 4
  ·obtain rfl | rfl | rfl | rfl : k = 0 \/ k = 1 \/ k = 2 \/ k = 3 := by omega
   ·go_wp2_with (at_builtin; refine wpList_append_own _ rfl (.tmp 39) (.tmp 44) 105 rfl w.heap.size 5 i0 (.int .u8 0) 1 1 Tryz.underlying105 hi0 hz0 hz1 hz2 rfl (by decide) _ _ _ rfl (hown.alloc _) ⟨wr.heap.size, 0, none⟩ 1 1 [_] rfl rfl (cells_new wr _ _) (by intro u hu; simp at hu; subst hu; rfl) (by unfold maxLen; omega) (by omega) (by have := hb.size; simp; omega) ?_; intro v' w' hown' hg' _)
    have hba := hb.alloc hb.size (.cells (tailCell c 0) 5); have hb' := Below.own hba (hown.alloc _) hg' hba.size
    go_roundw
    case rel => exact ⟨0 + 1,by omega,rfl,by simpa [tails] using hown',hb'⟩
    case measure => simp [intOf]
   ·go_wp2_with (at_builtin; refine wpList_append_own _ rfl (.tmp 39) (.tmp 44) 105 rfl w.heap.size 5 i0 (.int .u8 0) 1 1 Tryz.underlying105 hi0 hz0 hz1 hz2 rfl (by decide) _ _ _ rfl (hown.alloc _) ⟨wr.heap.size, 0, none⟩ 1 1 [_] rfl rfl (cells_new wr _ _) (by intro u hu; simp at hu; subst hu; rfl) (by unfold maxLen; omega) (by omega) (by have := hb.size; simp; omega) ?_; intro v' w' hown' hg' _)
    have hba := hb.alloc hb.size (.cells (tailCell c 1) 5); have hb' := Below.own hba (hown.alloc _) hg' hba.size
    go_roundw
    case rel => exact ⟨1 + 1,by omega,rfl,by simpa [tails] using hown',hb'⟩
    case measure => simp [intOf]
   ·go_wp2_with (at_builtin; refine wpList_append_own _ rfl (.tmp 39) (.tmp 44) 105 rfl w.heap.size 5 i0 (.int .u8 0) 1 1 Tryz.underlying105 hi0 hz0 hz1 hz2 rfl (by decide) _ _ _ rfl (hown.alloc _) ⟨wr.heap.size, 0, none⟩ 1 1 [_] rfl rfl (cells_new wr _ _) (by intro u hu; simp at hu; subst hu; rfl) (by unfold maxLen; omega) (by omega) (by have := hb.size; simp; omega) ?_; intro v' w' hown' hg' _)
    have hba := hb.alloc hb.size (.cells (tailCell c 2) 5); have hb' := Below.own hba (hown.alloc _) hg' hba.size
    go_roundw
    case rel => exact ⟨2 + 1,by omega,rfl,by simpa [tails] using hown',hb'⟩
    case measure => simp [intOf]
   ·go_wp2_with (at_builtin; refine wpList_append_own _ rfl (.tmp 39) (.tmp 44) 105 rfl w.heap.size 5 i0 (.int .u8 0) 1 1 Tryz.underlying105 hi0 hz0 hz1 hz2 rfl (by decide) _ _ _ rfl (hown.alloc _) ⟨wr.heap.size, 0, none⟩ 1 1 [_] rfl rfl (cells_new wr _ _) (by intro u hu; simp at hu; subst hu; rfl) (by unfold maxLen; omega) (by omega) (by have := hb.size; simp; omega) ?_; intro v' w' hown' hg' _)
    have hba := hb.alloc hb.size (.cells (tailCell c 3) 5); have hb' := Below.own hba (hown.alloc _) hg' hba.size
    go_roundw
    case rel => exact ⟨3 + 1,by omega,rfl,by simpa [tails] using hown',hb'⟩
    case measure => simp [intOf]
  ·obtain rfl : k = 4 := by omega
   obtain ⟨g,cap,hv,_,_⟩ := hown.form (by omega)
   subst hv; have hcv := conv_own hown; rw [strOfNums_append,HSX.o] at hcv
   go_wp2
   go_ret2
   refine ⟨?_,hb⟩; rw [framed_eq HC.o]
   rfl
end Go.Proofs.YtaamihdibpioaaaGreat
namespace Go.Proofs.YtaamihdibpioaaaGreat
open Go.RowKit Go.Proofs.YtaamihdibpioaaaGreat.Crc
def lenAt (r : ByteArray) : Nat := (r.data.toList.getD 0 0).toNat * 256 + (r.data.toList.getD 1 0).toNat
def tailOk (r : ByteArray) : Bool := decide (r.extract (lenAt r + 2) (lenAt r + 6) = tailOf (sum (r.extract 0 (lenAt r + 2)).data.toList))
def frameAt (r : ByteArray) : Bool := decide (2 <= r.size /\ 1 <= lenAt r /\ lenAt r <= 2000 /\ lenAt r + 6 <= r.size) && tailOk r
def payload (r : ByteArray) : ByteArray := r.extract 2 (lenAt r + 2)
def NextOut (p : ByteArray) (to e0 : Int) (w : World) (e : Ending) (w' : World) : Prop := e = .returned (.tuple #[.string p, .int .i64 to, .int .i64 e0]) /\ Below w.heap.size w w'
theorem next_out (s : ByteArray) (i : Int) (w : World) (hs : s.size <= 9223372036854775807) (hi : i < 0 \/ (s.size : Int) < i) :
  Calls Tryz.prog 68 #[.string s, .int .i64 i] w fun e w' => NextOut ByteArray.empty 0 3 w e w' := by
 by_cases h0 : i < 0
 all_goals
  try have h1 : (s.size : Int) < i := by omega
  try have h2 : decide (i < 0) = false := by simp; omega
  clear hi
  go_enter Tryz.func68,Tryz.ntmps68
  go_wp2
  go_ret3
  exact ⟨rfl,Below.refl _ _⟩
theorem byte_at {r : ByteArray} {k : Nat} (h : k < r.size) : (r[k]'h).toNat = (r.data.toList.getD k 0).toNat := by
 have h' : k < r.data.toList.length := by simpa using h
 simp only [List.getD_eq_getElem?_getD,List.getElem?_eq_getElem h',Option.getD_some]
 rfl
theorem len_go {r : ByteArray} (h : 2 <= r.size) : bits .or .i64 (((r[0]'(by omega)).toNat : Int) * 256) ((r[1]'(by omega)).toNat : Int) = (lenAt r : Int) := by
 have b0 := (r[0]'(by omega)).toNat_lt
 have b1 := (r[1]'(by omega)).toNat_lt
 have e := i64_or_nat ((r[0]'(by omega)).toNat * 256) (r[1]'(by omega)).toNat (by omega) (by omega)
 rw [nat_join 8 _ _ (by omega) (by omega)] at e
 rw [byte_at,byte_at] at *
 simpa [lenAt] using e
theorem next_short (s : ByteArray) (i : Nat) (w : World) (hs : s.size <= 140737488355328) (hi : i <= s.size) (hr : (s.extract i s.size).size < 2) :
  Calls Tryz.prog 68 #[.string s, .int .i64 i] w fun e w' => NextOut ByteArray.empty 0 14 w e w' := by
 have hi' : (i : Int) <= s.size := by omega
 have h2 : decide ((i : Int) < 0) = false := by simp
 obtain ⟨r,hre⟩ := gXe (s.extract i s.size); have hsl : s.extract i s.size = r := hre.symm; rw [hsl] at hr; clear hre; have hr' : (r.size : Int) < 2 := by omega
 go_enter Tryz.func68,Tryz.ntmps68
 go_wp2
 go_ret3
 exact ⟨rfl,Below.refl _ _⟩
theorem wraps {r : ByteArray} (h : 2 <= r.size) : IntKind.i64.wrap ((r[0]'(by omega)).toNat : Int) = ((r[0]'(by omega)).toNat : Int) /\ IntKind.i64.wrap (((r[0]'(by omega)).toNat : Int) * 256) = ((r[0]'(by omega)).toNat : Int) * 256 /\
  IntKind.i64.wrap ((r[1]'(by omega)).toNat : Int) = ((r[1]'(by omega)).toNat : Int) := by
 have b0 := (r[0]'(by omega)).toNat_lt
 have b1 := (r[1]'(by omega)).toNat_lt
 exact ⟨IntWalk.i64_in _ (by omega),IntWalk.i64_in _ (by omega),IntWalk.i64_in _ (by omega)⟩
theorem next_none (s : ByteArray) (i : Nat) (r : ByteArray) (w : World) (hs : s.size <= 140737488355328) (hi : i <= s.size) (hsl : s.extract i s.size = r) (hr : 2 <= r.size) (hn : ¬ (1 <= lenAt r /\ lenAt r <= 2000 /\ lenAt r + 6 <= r.size)) :
  Calls Tryz.prog 68 #[.string s, .int .i64 i] w fun e w' => NextOut ByteArray.empty 0 14 w e w' := by
 have hi' : (i : Int) <= s.size := by omega
 have h2 : decide ((i : Int) < 0) = false := by simp
 have hr' : (2 : Int) <= r.size := by omega
 have hlen := len_go hr
 have hlt : lenAt r < 65536 := by
  have b0 := (r.data.toList.getD 0 0).toNat_lt; have b1 := (r.data.toList.getD 1 0).toNat_lt; unfold lenAt; omega
 have hrs : r.size <= 140737488355328 := by
  have := congrArg ByteArray.size hsl
  simp at this; omega
 obtain ⟨n,hne⟩ := gXe (lenAt r); rw [<- hne] at hn hlen hlt; clear hne; have b0 : (0 : Int) < r.size := by omega
 have b1 : (1 : Int) < r.size := by omega
 have b0' : 0 < r.size := by omega
 have b1' : 1 < r.size := by omega
 obtain ⟨hw0,hw0',hw1⟩ := wraps hr
 have hcases : ((n : Int) == 0) = true \/ (((n : Int) == 0) = false /\ 2000 < (n : Int)) \/ (((n : Int) == 0) = false /\ (n : Int) <= 2000 /\ (r.size : Int) < 2 + (n : Int) + 4) := by
  by_cases e : n = 0
  ·exact .inl (by simp [e])
  ·by_cases e2 : n <= 2000
   ·exact .inr (.inr ⟨by simp [e],by omega,by omega⟩)
   ·exact .inr (.inl ⟨by simp [e],by omega⟩)
 clear hn
 rcases hcases with hg | ⟨hg,hg'⟩ | ⟨hg,hg',hg''⟩
 all_goals
  have HG := gh hg; clear hg
  go_enter Tryz.func68,Tryz.ntmps68
  go_wp2
  go_quiet (fail)
  clear hw0 hw0' hw1 hlen; have hg := HG.o
  go_wp2
  go_ret3
  exact ⟨rfl,below_drewN (Below.refl _ _) _⟩
theorem next_end {p : ByteArray} {i n : Nat} : Ending.returned (.tuple #[.string p, .int .i64 ((i : Int) + 2 + n + 4), .int .i64 0]) = .returned (.tuple #[.string (bif true then p else ByteArray.empty), .int .i64 (bif true then ((i + n + 6 : Nat) : Int) else 0), .int .i64 (bif true then 0 else 14)]) := by
 simp only [cond_true]; rw [show (i : Int) + 2 + n + 4 = ((i + n + 6 : Nat) : Int) by omega]
def Tails (r : ByteArray) (n c j : Nat) : Prop := ∀ k,k < j -> (r.data.toList.getD (2 + n + k) 0).toNat = c / 256 ^ k % 256
theorem Tails.more {r : ByteArray} {n c j : Nat} (h : Tails r n c j) (hj : (r.data.toList.getD (2 + n + j) 0).toNat = c / 256 ^ j % 256) : Tails r n c (j + 1) := fun k hk => by
 by_cases e : k = j
 ·subst e; exact hj
 ·exact h k (by omega)
theorem tail_list (c : Nat) : (tailOf c).data.toList = [UInt8.ofNat (c % 256), UInt8.ofNat (c / 256 % 256), UInt8.ofNat (c / 65536 % 256), UInt8.ofNat (c / 16777216)] := by
 unfold tailOf; rw [strOfNums_data]; simp only [List.map_cons,List.map_nil]
 congr 2 <;> congr 1
theorem u8_eq {a : UInt8} {n : Nat} (h : a.toNat = n % 256) : a = UInt8.ofNat n := by
 apply UInt8.toNat.inj
 rw [h]; simp
theorem extract4 {r : ByteArray} {n : Nat} (hr : n + 6 <= r.size) : (r.extract (n + 2) (n + 6)).data.toList = [r.data.toList.getD (2 + n) 0, r.data.toList.getD (2 + n + 1) 0, r.data.toList.getD (2 + n + 2) 0, r.data.toList.getD (2 + n + 3) 0] := by
 have hl : r.data.toList.length = r.size := by simp
 have g : ∀ (k : Nat) (_ : k < 4), r.data.toList.getD (2 + n + k) 0 = (r.data.toList)[2 + n + k]'(by rw [hl]; omega) := fun k hk => by
  rw [List.getD_eq_getElem?_getD,List.getElem?_eq_getElem (by rw [hl]; omega)]; rfl
 rw [Lib.extract_data]; rw [show n + 6 - (n + 2) = 4 by omega]
 rw [List.drop_eq_getElem_cons (by rw [hl]; omega),List.drop_eq_getElem_cons (by rw [hl]; omega),List.drop_eq_getElem_cons (by rw [hl]; omega),List.drop_eq_getElem_cons (by rw [hl]; omega)]
 simp only [List.take_succ_cons,List.take_zero]; have g0 := g 0 (by omega)
 have g1 := g 1 (by omega)
 have g2 := g 2 (by omega)
 have g3 := g 3 (by omega)
 simp only [Nat.add_zero] at g0; rw [g0,g1,g2,g3]
 congr 1
 ·congr 1; omega
 ·congr 1
  ·congr 1; omega
  ·congr 1
   ·congr 1; omega
   ·congr 1
    congr 1; omega
theorem tailOk_of {r : ByteArray} {n c : Nat} (hc : c < 4294967296) (hr : n + 6 <= r.size) (h : Tails r n c 4) : r.extract (n + 2) (n + 6) = tailOf c := by
 apply WideShapes.bytes_inj
 rw [extract4 hr,tail_list]; have h0 := h 0 (by omega)
 have h1 := h 1 (by omega)
 have h2 := h 2 (by omega)
 have h3 := h 3 (by omega)
 simp only [Nat.add_zero,Nat.pow_zero,Nat.div_one,Nat.reducePow] at h0 h1 h2 h3
 rw [u8_eq (a := r.data.toList.getD (2 + n) 0) (n := c % 256) (by omega), u8_eq (a := r.data.toList.getD (2 + n + 1) 0) (n := c / 256 % 256) (by omega), u8_eq (a := r.data.toList.getD (2 + n + 2) 0) (n := c / 65536 % 256) (by omega),
  u8_eq (a := r.data.toList.getD (2 + n + 3) 0) (n := c / 16777216) (by omega)]
theorem not_tailOk {r : ByteArray} {n c j : Nat} (hc : c < 4294967296) (hr : n + 6 <= r.size) (hj : j < 4) (h : (r.data.toList.getD (2 + n + j) 0).toNat ≠ c / 256 ^ j % 256) : r.extract (n + 2) (n + 6) ≠ tailOf c := by
 intro he; have he' := congrArg (fun b : ByteArray => b.data.toList) he
 simp only [extract4 hr,tail_list,List.cons.injEq] at he'; obtain ⟨e0,e1,e2,e3,_⟩ := he'
 apply h
 obtain rfl | rfl | rfl | rfl : j = 0 \/ j = 1 \/ j = 2 \/ j = 3 := by omega
 ·simp only [Nat.add_zero]; rw [e0]; simp
 ·rw [e1]; simp
 ·rw [e2]; simp
 ·rw [e3]; simp
theorem ok_yes {r : ByteArray} {n c : Nat} (hn : n = lenAt r) (hs : c = sum (r.extract 0 (2 + n)).data.toList) (hr : n + 6 <= r.size) (h : Tails r n c 4) : tailOk r = true := by
 have hc : c < 4294967296 := by rw [hs]; exact sum_lt _
 unfold tailOk; rw [<- hn,tailOk_of hc hr h,hs,Nat.add_comm 2 n]; exact decide_eq_true rfl
theorem ok_no {r : ByteArray} {n c j : Nat} (hn : n = lenAt r) (hs : c = sum (r.extract 0 (2 + n)).data.toList) (hr : n + 6 <= r.size) (hj : j < 4) (h : (r.data.toList.getD (2 + n + j) 0).toNat ≠ c / 256 ^ j % 256) : tailOk r = false := by
 have hc : c < 4294967296 := by rw [hs]; exact sum_lt _
 have := not_tailOk hc hr hj h; unfold tailOk; rw [<- hn,Nat.add_comm n 2, <- hs,Nat.add_comm 2 n]; exact decide_eq_false this
theorem next_whole (s : ByteArray) (i : Nat) (r : ByteArray) (w : World) (hs : s.size <= 140737488355328) (hi : i <= s.size) (hsl : s.extract i s.size = r) (hr : 2 <= r.size) (h1 : 1 <= lenAt r) (h2 : lenAt r <= 2000) (h3 : lenAt r + 6 <= r.size) :
  Calls Tryz.prog 68 #[.string s, .int .i64 i] w fun e w' => NextOut (bif tailOk r then payload r else ByteArray.empty) (bif tailOk r then (i + lenAt r + 6 : Nat) else 0) (bif tailOk r then 0 else 14) w e w' := by
 have hi' : (i : Int) <= s.size := by omega
 have hd : decide ((i : Int) < 0) = false := by simp
 have hr' : (2 : Int) <= r.size := by omega
 have hlen := len_go hr
 have hrs : r.size <= 140737488355328 := by
  have := congrArg ByteArray.size hsl
  simp at this; omega
 obtain ⟨n,hne⟩ := gXe (lenAt r); rw [<- hne] at h1 h2 h3 hlen; have HN := gh hne; clear hne; have b0 : (0 : Int) < r.size := by omega
 have b1 : (1 : Int) < r.size := by omega
 have b0' : 0 < r.size := by omega
 have b1' : 1 < r.size := by omega
 obtain ⟨hw0,hw0',hw1⟩ := wraps hr; have hg1 : ((n : Int) == 0) = false := by simp; omega
 have hg2 : (n : Int) <= 2000 := by omega
 have hg3 : 2 + (n : Int) + 4 <= (r.size : Int) := by omega
 go_enter Tryz.func68,Tryz.ntmps68
 go_wp2
 go_quiet (fail)
 clear hw0 hw0' hw1 hlen
 go_wp2_with fail
 refine (sum_any _ _ (by simp; omega)).mono ?_
 rintro e w1 ⟨rfl,hl⟩; have hb1 := (below_drewN (Below.refl w.heap.size w) nq).trans (hl.mono (by simp))
 clear hl; obtain ⟨c,hc⟩ := gXe (sum (r.extract 0 (2 + n)).data.toList); have hlt := sum_lt (r.extract 0 (2 + n)).data.toList; rw [<- hc] at hlt ⊢; have HC := gh hc; clear hc
 go_wp2_with fail
 go_loopw [52] (fun v wr => ∃ j : Nat,j <= 4 /\ v = .int .i64 j /\ Below w.heap.size w wr /\ Tails r n c j) (fun v _ => (4 - intOf v).toNat)
 case atStart => exact ⟨0,by omega,rfl,hb1,fun k hk => absurd hk (by omega)⟩
 case round =>
  obtain ⟨j,hj,rfl,hb,hT⟩ := hrel; have HT := gh hT; clear hT
  by_cases hj4 : j < 4
  ·obtain rfl | rfl | rfl | rfl : j = 0 \/ j = 1 \/ j = 2 \/ j = 3 := by omega
   ·have x1 : IntKind.i64.wrap (2 + (n : Int)) = 2 + n := IntWalk.i64_in _ (by omega)
    have x5 : IntKind.i64.wrap (2 + (n : Int)) = 2 + (n : Int) := IntWalk.i64_in _ (by omega)
    have x2 : (2 + (n : Int)).toNat = 2 + n := by omega
    have x3 : 2 + (n : Int) < r.size := by omega
    have x4 : 0 <= 2 + (n : Int) := by omega
    have xb := (r[2 + n]'(by omega)).toNat_lt
    have xd := byte_at (r := r) (k := 2 + n) (by omega)
    by_cases ht : (r[2 + n]'(by omega)).toNat = c / 256 ^ 0 % 256
    ·have hm := HT.o.more (xd.symm.trans ht)
     have hg : (((r[2 + n]'(by omega)).toNat : Int) != (c : Int) % 256) = false := by simp at ht ⊢; omega
     have HM := gh hm; clear ht xd xb hm
     go_wp2_with fail
     go_quiet (fail)
     go_wp2_with fail
     go_roundw
     case rel => exact ⟨0 + 1,by omega,rfl,below_drewN hb _,HM.o⟩
     case measure => simp [intOf]
    ·have hno := ok_no (j := 0) HN.o HC.o h3 (by omega) (fun e => ht (xd.trans e))
     have hg : (((r[2 + n]'(by omega)).toNat : Int) != (c : Int) % 256) = true := by simp at ht ⊢; omega
     have HNO := gh hno; clear ht xd xb hno
     go_wp2_with fail
     go_quiet (fail)
     go_wp2
     go_ret3
     rw [HNO.o]; exact ⟨rfl,below_drewN hb _⟩
   ·have x1 : IntKind.i64.wrap (2 + (n : Int)) = 2 + n := IntWalk.i64_in _ (by omega)
    have x5 : IntKind.i64.wrap (2 + (n : Int) + 1) = 2 + (n : Int) + 1 := IntWalk.i64_in _ (by omega)
    have x2 : (2 + (n : Int) + 1).toNat = 2 + n + 1 := by omega
    have x3 : 2 + (n : Int) + 1 < r.size := by omega
    have x4 : 0 <= 2 + (n : Int) + 1 := by omega
    have xb := (r[2 + n + 1]'(by omega)).toNat_lt
    have xd := byte_at (r := r) (k := 2 + n + 1) (by omega)
    by_cases ht : (r[2 + n + 1]'(by omega)).toNat = c / 256 ^ 1 % 256
    ·have hm := HT.o.more (xd.symm.trans ht)
     have hg : (((r[2 + n + 1]'(by omega)).toNat : Int) != (c : Int) / 256 % 256) = false := by simp at ht ⊢; omega
     have HM := gh hm; clear ht xd xb hm
     go_wp2_with fail
     go_quiet (fail)
     go_wp2_with fail
     go_roundw
     case rel => exact ⟨1 + 1,by omega,rfl,below_drewN hb _,HM.o⟩
     case measure => simp [intOf]
    ·have hno := ok_no (j := 1) HN.o HC.o h3 (by omega) (fun e => ht (xd.trans e))
     have hg : (((r[2 + n + 1]'(by omega)).toNat : Int) != (c : Int) / 256 % 256) = true := by simp at ht ⊢; omega
     have HNO := gh hno; clear ht xd xb hno
     go_wp2_with fail
     go_quiet (fail)
     go_wp2
     go_ret3
     rw [HNO.o]; exact ⟨rfl,below_drewN hb _⟩
   ·have x1 : IntKind.i64.wrap (2 + (n : Int)) = 2 + n := IntWalk.i64_in _ (by omega)
    have x5 : IntKind.i64.wrap (2 + (n : Int) + 2) = 2 + (n : Int) + 2 := IntWalk.i64_in _ (by omega)
    have x2 : (2 + (n : Int) + 2).toNat = 2 + n + 2 := by omega
    have x3 : 2 + (n : Int) + 2 < r.size := by omega
    have x4 : 0 <= 2 + (n : Int) + 2 := by omega
    have xb := (r[2 + n + 2]'(by omega)).toNat_lt
    have xd := byte_at (r := r) (k := 2 + n + 2) (by omega)
    by_cases ht : (r[2 + n + 2]'(by omega)).toNat = c / 256 ^ 2 % 256
    ·have hm := HT.o.more (xd.symm.trans ht)
     have hg : (((r[2 + n + 2]'(by omega)).toNat : Int) != (c : Int) / 65536 % 256) = false := by simp at ht ⊢; omega
     have HM := gh hm; clear ht xd xb hm
     go_wp2_with fail
     go_quiet (fail)
     go_wp2_with fail
     go_roundw
     case rel => exact ⟨2 + 1,by omega,rfl,below_drewN hb _,HM.o⟩
     case measure => simp [intOf]
    ·have hno := ok_no (j := 2) HN.o HC.o h3 (by omega) (fun e => ht (xd.trans e))
     have hg : (((r[2 + n + 2]'(by omega)).toNat : Int) != (c : Int) / 65536 % 256) = true := by simp at ht ⊢; omega
     have HNO := gh hno; clear ht xd xb hno
     go_wp2_with fail
     go_quiet (fail)
     go_wp2
     go_ret3
     rw [HNO.o]; exact ⟨rfl,below_drewN hb _⟩
   ·have x1 : IntKind.i64.wrap (2 + (n : Int)) = 2 + n := IntWalk.i64_in _ (by omega)
    have x5 : IntKind.i64.wrap (2 + (n : Int) + 3) = 2 + (n : Int) + 3 := IntWalk.i64_in _ (by omega)
    have x2 : (2 + (n : Int) + 3).toNat = 2 + n + 3 := by omega
    have x3 : 2 + (n : Int) + 3 < r.size := by omega
    have x4 : 0 <= 2 + (n : Int) + 3 := by omega
    have xb := (r[2 + n + 3]'(by omega)).toNat_lt
    have xd := byte_at (r := r) (k := 2 + n + 3) (by omega)
    by_cases ht : (r[2 + n + 3]'(by omega)).toNat = c / 256 ^ 3 % 256
    ·have hm := HT.o.more (xd.symm.trans ht)
     have hg : (((r[2 + n + 3]'(by omega)).toNat : Int) != (c : Int) / 16777216 % 256) = false := by simp at ht ⊢; omega
     have HM := gh hm; clear ht xd xb hm
     go_wp2_with fail
     go_quiet (fail)
     go_wp2_with fail
     go_roundw
     case rel => exact ⟨3 + 1,by omega,rfl,below_drewN hb _,HM.o⟩
     case measure => simp [intOf]
    ·have hno := ok_no (j := 3) HN.o HC.o h3 (by omega) (fun e => ht (xd.trans e))
     have hg : (((r[2 + n + 3]'(by omega)).toNat : Int) != (c : Int) / 16777216 % 256) = true := by simp at ht ⊢; omega
     have HNO := gh hno; clear ht xd xb hno
     go_wp2_with fail
     go_quiet (fail)
     go_wp2
     go_ret3
     rw [HNO.o]; exact ⟨rfl,below_drewN hb _⟩
  ·obtain rfl : j = 4 := by omega
   have hyes := ok_yes HN.o HC.o h3 HT.o; have hpay : payload r = r.extract 2 (2 + n) := by rw [payload, <- HN.o,Nat.add_comm 2 n]
   have HY := gh hyes; have HP := gh hpay; clear hyes hpay
   go_wp2
   go_ret3
   rw [HY.o,HP.o, <- HN.o]; exact ⟨next_end,hb⟩
def restAt (s : ByteArray) (i : Int) : ByteArray := s.extract i.toNat s.size
def inside (s : ByteArray) (i : Int) : Bool := decide (0 <= i /\ i <= (s.size : Int))
def nextP (s : ByteArray) (i : Int) : ByteArray := bif inside s i && frameAt (restAt s i) then payload (restAt s i) else ByteArray.empty
def nextTo (s : ByteArray) (i : Int) : Int := bif inside s i && frameAt (restAt s i) then i + lenAt (restAt s i) + 6 else 0
def nextE (s : ByteArray) (i : Int) : Int := bif inside s i then (bif frameAt (restAt s i) then 0 else 14) else 3
theorem next_any (s : ByteArray) (i : Int) (w : World) (hs : s.size <= 140737488355328) :
  Calls Tryz.prog 68 #[.string s, .int .i64 i] w fun e w' => NextOut (nextP s i) (nextTo s i) (nextE s i) w e w' := by
 cases hi : inside s i
 ·have h : ¬ (0 <= i /\ i <= (s.size : Int)) := by simpa [inside] using hi
  have := next_out s i w (by omega) (by omega)
  simpa [nextP,nextTo,nextE,hi] using this
 ·have h : 0 <= i /\ i <= (s.size : Int) := by simpa [inside] using hi
  obtain ⟨k,rfl⟩ := Int.eq_ofNat_of_zero_le h.1; have hk : k <= s.size := by omega
  have hr : restAt s (k : Int) = s.extract k s.size := by simp [restAt]
  simp only [nextP,nextTo,nextE,hi,Bool.true_and,cond_true]; obtain ⟨r,hre⟩ := gXe (restAt s (k : Int)); rw [<- hre]; have hr' : s.extract k s.size = r := by rw [hre,hr]
  by_cases h2 : 2 <= r.size
  ·by_cases h3 : 1 <= lenAt r /\ lenAt r <= 2000 /\ lenAt r + 6 <= r.size
   ·have := next_whole s k r w hs hk hr' h2 h3.1 h3.2.1 h3.2.2
    have e : frameAt r = tailOk r := by unfold frameAt; rw [decide_eq_true ⟨h2,h3.1,h3.2.1,h3.2.2⟩,Bool.true_and]
    rw [e]; rw [show ((k : Int) + lenAt r + 6) = ((k + lenAt r + 6 : Nat) : Int) by omega]
    exact this
   ·have := next_none s k r w hs hk hr' h2 h3
    have e : frameAt r = false := by unfold frameAt; rw [decide_eq_false (fun hh => h3 ⟨hh.2.1,hh.2.2.1,hh.2.2.2⟩),Bool.false_and]
    rw [e]; exact this
  ·have := next_short s k w hs hk (by rw [hr']; omega)
   have e : frameAt r = false := by unfold frameAt; rw [decide_eq_false (fun hh => h2 hh.1),Bool.false_and]
   rw [e]; exact this
end Go.Proofs.YtaamihdibpioaaaGreat
