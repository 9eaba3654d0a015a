/- The contract of the reference's Next: it answers as the program's. -/
import Derived.Test.YtaamihdibpioaaaGreatJpM4
import Derived.Deep.RegionHeld3
set_option maxRecDepth 100000
set_option maxHeartbeats 40000000
namespace Go.Proofs.YtaamihdibpioaaaGreat.Ref06
open Go.RowKit Go.Proofs.YtaamihdibpioaaaGreat.Crc Go.Proofs.YtaamihdibpioaaaGreat
theorem take2 (l : List UInt8) (n : Nat) (h : 2 <= l.length) : [l.getD 0 0, l.getD 1 0] ++ (l.drop 2).take n = l.take (n + 2) := by
 match l,h with
 | x :: y :: t,_ => simp [List.take_succ_cons]
theorem head_pay {r : ByteArray} (h2 : lenAt r <= 2000) (h3 : lenAt r + 6 <= r.size) : headOf (payload r) ++ payload r = r.extract 0 (lenAt r + 2) := by
 obtain ⟨n,hn⟩ := gXe (lenAt r); have hps : (payload r).size = n := by unfold payload; rw [<- hn]; simp; omega
 have hl : r.data.toList.length = r.size := by simp
 have b0 := (r.data.toList.getD 0 0).toNat_lt; have b1 := (r.data.toList.getD 1 0).toNat_lt; have e0 : r.data.toList.getD 0 0 = r.data.toList[0]'(by rw [hl]; omega) := by rw [List.getD_eq_getElem?_getD,List.getElem?_eq_getElem (by rw [hl]; omega)]; rfl
 have e1 : r.data.toList.getD 1 0 = r.data.toList[1]'(by rw [hl]; omega) := by rw [List.getD_eq_getElem?_getD,List.getElem?_eq_getElem (by rw [hl]; omega)]; rfl
 have hn' : n = (r.data.toList.getD 0 0).toNat * 256 + (r.data.toList.getD 1 0).toNat := hn
 apply WideShapes.bytes_inj
 have hd : (headOf (payload r)).data.toList = [r.data.toList.getD 0 0, r.data.toList.getD 1 0] := by
  unfold headOf; rw [strOfNums_data,hps]; simp only [List.map_cons,List.map_nil]; rw [u8_eq (a := r.data.toList.getD 0 0) (n := n / 256) (by omega),u8_eq (a := r.data.toList.getD 1 0) (n := n % 256) (by omega)]
  congr 2
 have hp : (payload r).data.toList = (r.data.toList.drop 2).take n := by
  unfold payload; rw [Lib.extract_data, <- hn,show n + 2 - 2 = n by omega]
 rw [show (headOf (payload r) ++ payload r).data.toList = (headOf (payload r)).data.toList ++ (payload r).data.toList by simp,hd,hp,Lib.extract_data, <- hn]
 rw [List.drop_zero,Nat.sub_zero]; exact take2 _ n (by rw [hl]; omega)
theorem frame_eq {r : ByteArray} (h2 : lenAt r <= 2000) (h3 : lenAt r + 6 <= r.size) : (frameOf (payload r) = r.extract 0 (lenAt r + 6)) ↔ tailOk r = true := by
 unfold frameOf tailOk; rw [head_pay h2 h3,decide_eq_true_iff]
 have e : r.extract 0 (lenAt r + 6) = r.extract 0 (lenAt r + 2) ++ r.extract (lenAt r + 2) (lenAt r + 6) := by
  rw [ByteArray.extract_append_extract]
  congr 1
  omega
 rw [e]
 generalize r.extract 0 (lenAt r + 2) = X
 generalize tailOf (sum X.data.toList) = Y
 generalize r.extract (lenAt r + 2) (lenAt r + 6) = Z
 constructor
 ·intro h
  apply WideShapes.bytes_inj
  have := congrArg (fun b : ByteArray => b.data.toList) h
  simp at this
  rw [this]
 ·intro h; rw [h]
theorem mul_go {r : ByteArray} (h : 2 <= r.size) : ((r[0]'(by omega)).toNat : Int) * (256 : Int) + ((r[1]'(by omega)).toNat : Int) = (lenAt r : Int) := by
 rw [byte_at,byte_at]
 simp [lenAt]
theorem wrap_sum {r : ByteArray} (h : 2 <= r.size) : IntKind.i64.wrap (((r[0]'(by omega)).toNat : Int) * (256 : Int) + ((r[1]'(by omega)).toNat : Int)) = (lenAt r : Int) := by
 rw [mul_go h]; have b0 := (r.data.toList.getD 0 0).toNat_lt; have b1 := (r.data.toList.getD 1 0).toNat_lt; exact IntWalk.i64_in _ (by unfold lenAt; omega)
theorem wrap_sum64 {r : ByteArray} (h : 2 <= r.size) : wrap64 (((r[0]'(by omega)).toNat : Int) * (256 : Int) + ((r[1]'(by omega)).toNat : Int)) = (lenAt r : Int) := by
 rw [<- wrap_sum h,IntWalk.i64_left]
theorem next_out (s : ByteArray) (i : Int) (w : World) (hs : s.size <= 9223372036854775807) (hi : i < 0 \/ (s.size : Int) < i) :
  Calls Tryz.prog 56 #[.string s, .int .i64 i] w fun e w' => NextOut ByteArray.empty 0 3 w e w' := by
 by_cases h0 : i < 0
 all_goals
  try have h1 : (s.size : Int) < i := by omega
  try have h2 : decide (i < 0) = false := by simp; omega
  clear hi
  go_enter Tryz.func56,Tryz.ntmps56
  go_wp2
  go_ret3
  exact ⟨rfl,Below.refl _ _⟩
theorem next_short (s : ByteArray) (i : Nat) (w : World) (hs : s.size <= 140737488355328) (hi : i <= s.size) (hr : (s.extract i s.size).size < 2) :
  Calls Tryz.prog 56 #[.string s, .int .i64 i] w fun e w' => NextOut ByteArray.empty 0 14 w e w' := by
 have hi' : (i : Int) <= s.size := by omega
 have h2 : decide ((i : Int) < 0) = false := by simp
 obtain ⟨r,hre⟩ := gXe (s.extract i s.size); have hsl : s.extract i s.size = r := hre.symm; rw [hsl] at hr; clear hre; have hr' : (r.size : Int) < 2 := by omega
 go_enter Tryz.func56,Tryz.ntmps56
 go_wp2
 go_ret3
 exact ⟨rfl,Below.refl _ _⟩
theorem next_none (s : ByteArray) (i : Nat) (r : ByteArray) (w : World) (hs : s.size <= 140737488355328) (hi : i <= s.size) (hsl : s.extract i s.size = r) (hr : 2 <= r.size) (hn : ¬ (1 <= lenAt r /\ lenAt r <= 2000 /\ lenAt r + 6 <= r.size)) :
  Calls Tryz.prog 56 #[.string s, .int .i64 i] w fun e w' => NextOut ByteArray.empty 0 14 w e w' := by
 have hi' : (i : Int) <= s.size := by omega
 have h2 : decide ((i : Int) < 0) = false := by simp
 have hr' : (2 : Int) <= r.size := by omega
 have hlen := wrap_sum hr; have hlen64 := wrap_sum64 hr
 have hlt : lenAt r < 65536 := by
  have b0 := (r.data.toList.getD 0 0).toNat_lt; have b1 := (r.data.toList.getD 1 0).toNat_lt; unfold lenAt; omega
 have hrs : r.size <= 140737488355328 := by
  have := congrArg ByteArray.size hsl
  simp at this; omega
 obtain ⟨n,hne⟩ := gXe (lenAt r); rw [<- hne] at hn hlen hlen64 hlt; clear hne; have b0 : (0 : Int) < r.size := by omega
 have b1 : (1 : Int) < r.size := by omega
 have b0' : 0 < r.size := by omega
 have b1' : 1 < r.size := by omega
 obtain ⟨hw0,hw0',hw1⟩ := wraps hr
 have hcases : (decide ((n : Int) < 1)) = true \/ ((decide ((n : Int) < 1)) = false /\ 2000 < (n : Int)) \/ ((decide ((n : Int) < 1)) = false /\ (n : Int) <= 2000 /\ (r.size : Int) < (n : Int) + 6) := by
  by_cases e : n = 0
  ·exact .inl (by simp [e])
  ·by_cases e2 : n <= 2000
   ·exact .inr (.inr ⟨by simp; omega,by omega,by omega⟩)
   ·exact .inr (.inl ⟨by simp; omega,by omega⟩)
 clear hn
 rcases hcases with hg | ⟨hg,hg'⟩ | ⟨hg,hg',hg''⟩
 all_goals
  have HG := gh hg; clear hg
  go_enter Tryz.func56,Tryz.ntmps56
  go_wp2
  go_quiet (fail)
  clear hw0 hw0' hw1 hlen hlen64; have hg := HG.o
  go_wp2
  go_ret3
  exact ⟨rfl,below_drewN (Below.refl _ _) _⟩
theorem next_whole (s : ByteArray) (i : Nat) (r : ByteArray) (w : World) (hs : s.size <= 140737488355328) (hi : i <= s.size) (hsl : s.extract i s.size = r) (hr : 2 <= r.size) (h1 : 1 <= lenAt r) (h2 : lenAt r <= 2000) (h3 : lenAt r + 6 <= r.size) :
  Calls Tryz.prog 56 #[.string s, .int .i64 i] w fun e w' => NextOut (bif tailOk r then payload r else ByteArray.empty) (bif tailOk r then (i + lenAt r + 6 : Nat) else 0) (bif tailOk r then 0 else 14) w e w' := by
 have hi' : (i : Int) <= s.size := by omega
 have hd : decide ((i : Int) < 0) = false := by simp
 have hr' : (2 : Int) <= r.size := by omega
 have hlen := wrap_sum hr; have hlen64 := wrap_sum64 hr
 have hrs : r.size <= 140737488355328 := by
  have := congrArg ByteArray.size hsl
  simp at this; omega
 have heq := frame_eq h2 h3; obtain ⟨ok,hok⟩ := gXe (tailOk r); rw [<- hok] at heq ⊢; obtain ⟨p,hp⟩ := gXe (payload r); have hps : p.size = lenAt r := by rw [hp]; unfold payload; simp; omega
 have hpx : r.extract 2 (lenAt r + 2) = p := by rw [hp]; rfl
 rw [<- hp] at heq ⊢; obtain ⟨F,hF⟩ := gXe (frameOf p); rw [<- hF] at heq; clear hp hok; obtain ⟨n,hne⟩ := gXe (lenAt r); rw [<- hne] at h1 h2 h3 hlen hlen64 heq hps hpx ⊢; clear hne; have hps' : p.size <= 2000 := by omega
 have b0 : (0 : Int) < r.size := by omega
 have b1 : (1 : Int) < r.size := by omega
 have b0' : 0 < r.size := by omega
 have b1' : 1 < r.size := by omega
 obtain ⟨hw0,hw0',hw1⟩ := wraps hr; have hg1 : decide ((n : Int) < 1) = false := by simp; omega
 have hg2 : (n : Int) <= 2000 := by omega
 have hg3 : (n : Int) + 6 <= (r.size : Int) := by omega
 have HQ := gh heq; have HPS := gh hps; have HF := gh hF; clear heq hps hF
 go_enter Tryz.func56,Tryz.ntmps56
 go_wp2
 go_quiet (fail)
 clear hw0 hw0' hw1 hlen hlen64
 go_wp2_with fail
 have x1 : IntKind.i64.wrap ((n : Int) + 6) = n + 6 := IntWalk.i64_in _ (by omega)
 have x2 : ((n : Int) + 6).toNat = n + 6 := by omega
 have x4 : 0 <= (n : Int) + 6 := by omega
 have hbeq : ((frameOf p).toList == (r.extract 0 (n + 6)).toList) = ok := by
  rw [<- HF.o]
  cases ok
  ·have hneq : F.toList ≠ (r.extract 0 (n + 6)).toList := fun e => by
    have h' : F = r.extract 0 (n + 6) := by
     apply WideShapes.bytes_inj
     rw [<- Lib.toList_data, <- Lib.toList_data]; exact e
    have := HQ.o.1 h'
    simp at this
   simpa using hneq
  ·rw [HQ.o.2 rfl]; simp
 cases ok
 all_goals
  go_region_held3 (fun _ => True) (trivial)
   (first
    | (go_at_call 54; refine (make_any p _ hps').mono ?_; rintro e w5 ⟨rfl,hl5⟩))
  have hl6 := (below_drewN (Below.refl w.heap.size w) nq).trans ((below_drewN (Below.refl w.heap.size (w.drewN nq)) 1).trans (hl5.mono (by simp)))
  clear hl5
  go_wp2
  go_ret3
 ·exact ⟨rfl,hl6⟩
 ·exact ⟨by rw [show (i : Int) + n + 6 = ((i + n + 6 : Nat) : Int) by omega]; rfl,hl6⟩
theorem next_any (s : ByteArray) (i : Int) (w : World) (hs : s.size <= 140737488355328) :
  Calls Tryz.prog 56 #[.string s, .int .i64 i] w fun e w' => NextOut (nextP s i) (nextTo s i) (nextE s i) w e w' := by
 cases hi : inside s i
 ·have h : ¬ (0 <= i /\ i <= (s.size : Int)) := by simpa [inside] using hi
  have := next_out s i w (by omega) (by omega)
  simpa [nextP,nextTo,nextE,hi] using this
 ·have h : 0 <= i /\ i <= (s.size : Int) := by simpa [inside] using hi
  obtain ⟨k,rfl⟩ := Int.eq_ofNat_of_zero_le h.1; have hk : k <= s.size := by omega
  have hr : restAt s (k : Int) = s.extract k s.size := by simp [restAt]
  simp only [nextP,nextTo,nextE,hi,Bool.true_and,cond_true]; obtain ⟨r,hre⟩ := gXe (restAt s (k : Int)); rw [<- hre]; have hr' : s.extract k s.size = r := by rw [hre,hr]
  by_cases h2 : 2 <= r.size
  ·by_cases h3 : 1 <= lenAt r /\ lenAt r <= 2000 /\ lenAt r + 6 <= r.size
   ·have := next_whole s k r w hs hk hr' h2 h3.1 h3.2.1 h3.2.2
    have e : frameAt r = tailOk r := by unfold frameAt; rw [decide_eq_true ⟨h2,h3.1,h3.2.1,h3.2.2⟩,Bool.true_and]
    rw [e]; rw [show ((k : Int) + lenAt r + 6) = ((k + lenAt r + 6 : Nat) : Int) by omega]
    exact this
   ·have := next_none s k r w hs hk hr' h2 h3
    have e : frameAt r = false := by unfold frameAt; rw [decide_eq_false (fun hh => h3 ⟨hh.2.1,hh.2.2.1,hh.2.2.2⟩),Bool.false_and]
    rw [e]; exact this
  ·have := next_short s k w hs hk (by rw [hr']; omega)
   have e : frameAt r = false := by unfold frameAt; rw [decide_eq_false (fun hh => h2 hh.1),Bool.false_and]
   rw [e]; exact this
end Go.Proofs.YtaamihdibpioaaaGreat.Ref06
namespace Go.Proofs.YtaamihdibpioaaaGreat
open Go.RowKit Go.Proofs.YtaamihdibpioaaaGreat.Crc
theorem str_info16 : (Tryz.prog.info? 9).map (fun i => (i.zero,i.size,i.bytes)) = some (some (.string ByteArray.empty), 1, 16) := by kernel_rfl
def allF (s : ByteArray) : Nat -> Int -> List ByteArray × Int
 | 0,i => ([],i)
 | f + 1,i => if nextE s i = 0 then (nextP s i :: (allF s f (nextTo s i)).1, (allF s f (nextTo s i)).2) else ([],i)
def allOf (s : ByteArray) : List ByteArray × Int := allF s (s.size + 1) 0
theorem next_yes {s : ByteArray} {i : Int} (h : nextE s i = 0) : 0 <= i /\ i <= s.size /\ frameAt (restAt s i) = true /\ nextP s i = payload (restAt s i) /\ nextTo s i = i + lenAt (restAt s i) + 6 := by
 unfold nextE at h
 cases hi : inside s i
 ·rw [hi] at h; simp at h
 ·cases hf : frameAt (restAt s i)
  ·rw [hi,hf] at h; simp at h
  ·have : 0 <= i /\ i <= (s.size : Int) := by simpa [inside] using hi
   exact ⟨this.1,this.2,rfl,by simp [nextP,hi,hf],by simp [nextTo,hi,hf]⟩
theorem frameAt_yes {r : ByteArray} (h : frameAt r = true) : 2 <= r.size /\ 1 <= lenAt r /\ lenAt r <= 2000 /\ lenAt r + 6 <= r.size /\ tailOk r = true := by
 unfold frameAt at h; simp only [Bool.and_eq_true,decide_eq_true_eq] at h; exact ⟨h.1.1,h.1.2.1,h.1.2.2.1,h.1.2.2.2,h.2⟩
theorem next_goes {s : ByteArray} {i : Int} (h : nextE s i = 0) : i + 7 <= nextTo s i /\ nextTo s i <= s.size := by
 obtain ⟨h0,h1,hf,_,ht⟩ := next_yes h; obtain ⟨_,h2,h3,h4,_⟩ := frameAt_yes hf; have hz : (restAt s i).size = s.size - i.toNat := by unfold restAt; simp
 rw [ht]
 omega
structure AllInv (s : ByteArray) (acc : List ByteArray) (i : Int) (f : Nat) : Prop where
 i0 : 0 <= i
 i1 : i <= s.size
 len : (acc.length : Int) <= i
 enough : (s.size : Int) < i + f
 all : allOf s = (acc ++ (allF s f i).1, (allF s f i).2)
section
variable {s : ByteArray} {acc : List ByteArray} {i : Int} {f : Nat}
theorem AllInv.start (s : ByteArray) : AllInv s [] 0 (s.size + 1) := ⟨by omega,by omega,by simp,by omega,rfl⟩
theorem AllInv.fuel (h : AllInv s acc i f) (he : nextE s i = 0) : ∃ f', f = f' + 1 := by
 have := h.enough; have := h.i1; exact ⟨f - 1,by omega⟩
theorem AllInv.more (h : AllInv s acc i (f + 1)) (he : nextE s i = 0) : AllInv s (acc ++ [nextP s i]) (nextTo s i) f := by
 have hg := next_goes he; have := h.i0; have := h.len; have := h.enough; refine ⟨by omega,hg.2,by simp; omega,by omega,?_⟩
 rw [h.all]
 conv => lhs; unfold allF
 simp [he]
theorem AllInv.small (h : AllInv s acc i f) : acc.length <= s.size := by have := h.len; have := h.i1; omega
theorem AllInv.grows (h : AllInv s acc i f) (he : nextE s i = 0) : 0 <= i /\ i < nextTo s i /\ nextTo s i <= s.size := by
 have hg := next_goes he; have := h.i0
 omega
theorem AllInv.fin (h : AllInv s acc i f) (he : ¬ nextE s i = 0) : acc = (allOf s).1 /\ i = (allOf s).2 := by
 have hf : allF s f i = ([], i) := by
  cases f with
  | zero => rfl
  | succ f => unfold allF; rw [if_neg he]
 rw [h.all,hf]
 simp
end
theorem allF_len (s : ByteArray) : ∀ (f : Nat) (i : Int), ((allF s f i).1.length : Int) <= f
 | 0,i => by simp [allF]
 | f + 1, i => by
  unfold allF
  split
  ·have := allF_len s f (nextTo s i)
   simp; omega
  ·simp; omega
theorem all_len (s : ByteArray) : (allOf s).1.length <= s.size + 1 := by
 have := allF_len s (s.size + 1) 0; unfold allOf; omega
theorem own_later {w w1 : World} {base n size : Nat} {e : TypeId} {v : Value} {xs : List Value} (h : w.ownsRow base e size v n xs) (hl : Below w.heap.size w w1) : w1.ownsRow base e size v n xs := by
 obtain ⟨h1,h2⟩ := h; refine ⟨h1,?_⟩
 rcases h2 with h2 | ⟨g,cap,cur,hv,hg,hh,r⟩
 ·exact .inl h2
 ·refine .inr ⟨g, cap, cur, hv, hg, ?_, r⟩
  rw [hl.block g (by
   rcases Nat.lt_or_ge g w.heap.size with hlt | hge
   ·exact hlt
   ·rw [Array.getElem?_eq_none hge] at hh; cases hh)]
  exact hh
def Alled (s : ByteArray) (w : World) (e : Ending) (w' : World) : Prop :=
 ∃ v,e = .returned (.tuple #[v, .int .i64 (allOf s).2]) /\ w'.ownsRow w.heap.size 9 1 v (allOf s).1.length ((allOf s).1.map Value.string) /\ Below w.heap.size w w'
theorem all_any (s : ByteArray) (w : World) (hs : s.size <= 10000) : Calls Tryz.prog 46 #[.string s] w fun e w' => Alled s w e w' := by
 obtain ⟨i0,hi0,hz0,hz1,hz2⟩ := info_parts str_info16
 go_enter Tryz.func46,Tryz.ntmps46
 go_wp2_with fail
 go_loopw [2, 3] (fun v gd wr => ∃ (acc : List ByteArray) (i : Int) (f : Nat),gd = .int .i64 i /\ AllInv s acc i f /\ wr.ownsRow w.heap.size 9 1 v acc.length (acc.map Value.string) /\ Below w.heap.size w wr) (fun _ gd _ => (s.size - intOf gd).toNat)
 case atStart => exact ⟨[], 0,s.size + 1,rfl,AllInv.start s,⟨rfl, .inl ⟨rfl,rfl⟩⟩,Below.refl _ _⟩
 case round =>
  obtain ⟨acc,i,f,rfl,hI,hown,hb⟩ := hrel
  by_cases he : nextE s i = 0
  ·obtain ⟨f', rfl⟩ := hI.fuel he
   have hJ := hI.more he; have hn := next_any s i; rw [he] at hn; have HN := gh hn; have hsm := hI.small; have hgo := hI.grows he; have HI := gh hI; have HJ := gh hJ; clear hn hI hJ
   go_wp2_with fail
   refine (HN.o _ (by omega)).mono ?_
   rintro e w1 ⟨rfl,hl1⟩; have hown1 := own_later hown hl1; have hb1 := hb.trans (hl1.mono hb.size); clear hown hb hl1; obtain ⟨p,hp⟩ := gXe (nextP s i); obtain ⟨t,ht⟩ := gXe (nextTo s i); rw [<- hp, <- ht]; rw [<- ht] at hgo; have HP := gh hp; have HT := gh ht; clear hp ht he
   go_wp2_with (at_builtin; refine wpList_append_own _ rfl (.tmp 18) (.tmp 20) 34 rfl w.heap.size 9 i0 (.string ByteArray.empty) 1 16 Tryz.underlying34 hi0 hz0 hz1 hz2 rfl (by decide) _ _ _ rfl (hown1.alloc _) ⟨w1.heap.size, 0,none⟩ 1 1 [_] rfl rfl (cells_new w1 _ _) (by intro u hu; simp at hu; subst hu; rfl) (by unfold maxLen; omega) (by omega) (by have := hb1.size; simp; omega) ?_; intro v2 w2 hown2 hg2 _)
   have hba := hb1.alloc hb1.size (.cells #[.string p] 9); have hb2 := Below.own hba (hown1.alloc _) hg2 hba.size
   go_roundw
   case rel => exact ⟨acc ++ [p],t,f',rfl,by rw [HP.o,HT.o]; exact HJ.o,by simpa using hown2,hb2⟩
   case measure => simp [intOf]; omega
  ·have hn := next_any s i
   have hsm := hI.small; have hfin := hI.fin he; have hne : (nextE s i == 0) = false := by simpa using he
   have hne' : (nextE s i != 0) = true := by simpa using he
   have HN := gh hn; have HF := gh hfin; clear hn hI hfin he
   go_wp2_with fail
   refine (HN.o _ (by omega)).mono ?_
   rintro e w1 ⟨rfl,hl1⟩
   go_wp2
   go_ret2
   refine ⟨_,?_,HF.o.1 ▸ own_later hown hl1,hb.trans (hl1.mono hb.size)⟩; rw [HF.o.2]
   rfl
theorem rall_any (s : ByteArray) (w : World) (hs : s.size <= 10000) : Calls Tryz.prog 37 #[.string s] w fun e w' => Alled s w e w' := by
 obtain ⟨i0,hi0,hz0,hz1,hz2⟩ := info_parts str_info16
 go_enter Tryz.func37,Tryz.ntmps37
 go_wp2_with fail
 go_loopw [4, 5] (fun v gd wr => ∃ (acc : List ByteArray) (i : Int) (f : Nat),gd = .int .i64 i /\ AllInv s acc i f /\ wr.ownsRow w.heap.size 9 1 v acc.length (acc.map Value.string) /\ Below w.heap.size w wr) (fun _ gd _ => (s.size - intOf gd).toNat)
 case atStart => exact ⟨[], 0,s.size + 1,rfl,AllInv.start s,⟨rfl, .inl ⟨rfl,rfl⟩⟩,Below.refl _ _⟩
 case round =>
  obtain ⟨acc,i,f,rfl,hI,hown,hb⟩ := hrel
  by_cases he : nextE s i = 0
  ·obtain ⟨f', rfl⟩ := hI.fuel he
   have hJ := hI.more he; have hn := Ref06.next_any s i; rw [he] at hn; have HN := gh hn; have hsm := hI.small; have hgo := hI.grows he; have HI := gh hI; have HJ := gh hJ; clear hn hI hJ
   go_wp2_with fail
   refine (HN.o _ (by omega)).mono ?_
   rintro e w1 ⟨rfl,hl1⟩; have hown1 := own_later hown hl1; have hb1 := hb.trans (hl1.mono hb.size); clear hown hb hl1; obtain ⟨p,hp⟩ := gXe (nextP s i); obtain ⟨t,ht⟩ := gXe (nextTo s i); rw [<- hp, <- ht]; rw [<- ht] at hgo; have HP := gh hp; have HT := gh ht; clear hp ht he
   go_wp2_with (at_builtin; refine wpList_append_own _ rfl (.tmp 20) (.tmp 22) 34 rfl w.heap.size 9 i0 (.string ByteArray.empty) 1 16 Tryz.underlying34 hi0 hz0 hz1 hz2 rfl (by decide) _ _ _ rfl (hown1.alloc _) ⟨w1.heap.size, 0,none⟩ 1 1 [_] rfl rfl (cells_new w1 _ _) (by intro u hu; simp at hu; subst hu; rfl) (by unfold maxLen; omega) (by omega) (by have := hb1.size; simp; omega) ?_; intro v2 w2 hown2 hg2 _)
   have hba := hb1.alloc hb1.size (.cells #[.string p] 9); have hb2 := Below.own hba (hown1.alloc _) hg2 hba.size
   go_roundw
   case rel => exact ⟨acc ++ [p],t,f',rfl,by rw [HP.o,HT.o]; exact HJ.o,by simpa using hown2,hb2⟩
   case measure => simp [intOf]; omega
  ·have hn := Ref06.next_any s i
   have hsm := hI.small; have hfin := hI.fin he; have hne : (nextE s i == 0) = false := by simpa using he
   have hne' : (nextE s i != 0) = true := by simpa using he
   have HN := gh hn; have HF := gh hfin; clear hn hI hfin he
   go_wp2_with fail
   refine (HN.o _ (by omega)).mono ?_
   rintro e w1 ⟨rfl,hl1⟩
   go_wp2
   go_ret2
   refine ⟨_,?_,HF.o.1 ▸ own_later hown hl1,hb.trans (hl1.mono hb.size)⟩; rw [HF.o.2]
   rfl
end Go.Proofs.YtaamihdibpioaaaGreat
namespace Go.Proofs.YtaamihdibpioaaaGreat
open Go.Proofs.YtaamihdibpioaaaGreat.Crc
namespace Crc
end Crc
theorem frame_lenAt {p : ByteArray} (h2 : p.size <= 2000) : (frameOf p).size = p.size + 6 := by
 unfold frameOf headOf tailOf; simp only [ByteArray.size_append,strOfNums_size]
 simp
 omega
theorem frameOf_list (p : ByteArray) : (frameOf p).data.toList = ((headOf p).data.toList ++ p.data.toList) ++ (tailOf (sum ((headOf p).data.toList ++ p.data.toList))).data.toList := by
 simp [frameOf]
end Go.Proofs.YtaamihdibpioaaaGreat
namespace Go.Proofs.YtaamihdibpioaaaGreat
open Go.Proofs.YtaamihdibpioaaaGreat.Crc
def Ok (p : ByteArray) : Prop := 1 <= p.size /\ p.size <= 2000
def cat : List ByteArray -> ByteArray
 | [] => ByteArray.empty
 | p :: ps => frameOf p ++ cat ps
theorem cat_append (ps qs : List ByteArray) : cat (ps ++ qs) = cat ps ++ cat qs := by
 induction ps with
 | nil => simp [cat]
 | cons p ps ih => simp [cat,ih,ByteArray.append_assoc]
theorem drop_front {a b : ByteArray} : (a ++ b).extract a.size (a ++ b).size = b := by
 apply WideShapes.bytes_inj
 rw [Lib.extract_data]; have e : a.size = a.data.toList.length := by simp
 rw [show (a ++ b).data.toList = a.data.toList ++ b.data.toList by simp,e,List.drop_left,List.take_of_length_le]
 simp [ByteArray.size_append]
theorem lenAt_front {p r : ByteArray} (h : p.size <= 2000) : lenAt (frameOf p ++ r) = p.size := by
 have hhl : (headOf p).data.toList = [UInt8.ofNat (p.size / 256), UInt8.ofNat (p.size % 256)] := by
  unfold headOf; rw [strOfNums_data]; rfl
 unfold lenAt; rw [show (frameOf p ++ r).data.toList = (frameOf p).data.toList ++ r.data.toList by simp,frameOf_list,hhl]
 simp
 omega
theorem take_front {a b : ByteArray} : (a ++ b).extract 0 a.size = a := ByteArray.extract_append_eq_left rfl
theorem extract_front {a b : ByteArray} {i j : Nat} (h : j <= a.size) : (a ++ b).extract i j = a.extract i j := by
 apply WideShapes.bytes_inj
 rw [Lib.extract_data,Lib.extract_data]; have e : a.data.toList.length = a.size := by simp
 rw [show (a ++ b).data.toList = a.data.toList ++ b.data.toList by simp]
 by_cases hij : i <= j
 ·rw [List.drop_append_of_le_length (by omega),List.take_append_of_le_length (by simp; omega)]
 ·rw [show j - i = 0 by omega]; simp
theorem frame_front {p r : ByteArray} (h : Ok p) : frameAt (frameOf p ++ r) = true /\ payload (frameOf p ++ r) = p /\ lenAt (frameOf p ++ r) = p.size := by
 have hl := lenAt_front (p := p) (r := r) h.2; have hs := frame_lenAt h.2; have h1 := h.1; have h2 := h.2
 have hpay : payload (frameOf p ++ r) = p := by
  unfold payload; rw [hl,extract_front (by omega)]
  apply WideShapes.bytes_inj
  rw [Lib.extract_data,frameOf_list]; have hhl : (headOf p).data.toList.length = 2 := by unfold headOf; rw [strOfNums_data]; rfl
  have e : p.data.toList.length = p.size := by simp
  rw [List.append_assoc, <- hhl,List.drop_left,hhl,show p.size + 2 - 2 = p.size by omega, <- e,List.take_left]
 refine ⟨?_,hpay,hl⟩; have hz : (frameOf p ++ r).size = p.size + 6 + r.size := by rw [ByteArray.size_append,hs]
 unfold frameAt; rw [hl,decide_eq_true ⟨by omega,by omega,by omega,by omega⟩,Bool.true_and]
 refine (Ref06.frame_eq (by rw [hl]; omega) (by rw [hl,hz]; omega)).1 ?_
 rw [hpay,hl,extract_front (by omega), <- hs]
 simp
theorem restAt_size (s : ByteArray) (i : Int) : (restAt s i).size = s.size - i.toNat := by unfold restAt; simp
theorem restAt_zero (s : ByteArray) : restAt s 0 = s := by
 unfold restAt; exact ByteArray.extract_zero_size
theorem restAt_add {s a b : ByteArray} {i : Int} (h0 : 0 <= i) (h : restAt s i = a ++ b) : restAt s (i + a.size) = b := by
 have hz := restAt_size s i; rw [h,ByteArray.size_append] at hz
 have e : restAt s (i + a.size) = (restAt s i).extract a.size (restAt s i).size := by
  unfold restAt; rw [ByteArray.extract_extract]
  congr 1
  ·omega
  ·simp; omega
 rw [e,h,drop_front]
theorem next_none_at {s : ByteArray} {i : Int} (h : frameAt (restAt s i) = false) : ¬ nextE s i = 0 := by
 unfold nextE; rw [h]
 cases inside s i <;> simp
theorem next_some_at {s : ByteArray} {i : Int} (h0 : 0 <= i) (h1 : i <= s.size) (h : frameAt (restAt s i) = true) : nextE s i = 0 := by
 have hi : inside s i = true := by simp [inside,h0,h1]
 simp [nextE,hi,h]
theorem all_from : ∀ (ps : List ByteArray) (f : Nat) (i : Int) (s r : ByteArray), 0 <= i -> i <= s.size -> restAt s i = cat ps ++ r -> frameAt r = false -> (∀ p ∈ ps, Ok p) -> (s.size : Int) < i + f -> allF s f i = (ps, i + (cat ps).size)
 | [], f, i, s, r, h0, h1, hr, hf, _, he => by
  rw [show cat [] ++ r = r by simp [cat]] at hr
  have hn := next_none_at (s := s) (i := i) (by rw [hr]; exact hf)
  cases f with
  | zero => simp [allF,cat]
  | succ f => unfold allF; rw [if_neg hn]; simp [cat]
 | p :: ps, f, i, s, r, h0, h1, hr, hf, hok, he => by
  have hr' : restAt s i = frameOf p ++ (cat ps ++ r) := by rw [hr]; simp [cat,ByteArray.append_assoc]
  have hp := hok p (by simp)
  obtain ⟨g1,g2,g3⟩ := frame_front (r := cat ps ++ r) hp; have hs := frame_lenAt hp.2; rw [<- hr'] at g1 g2 g3; have hn := next_some_at h0 h1 g1; obtain ⟨_,_,_,e1,e2⟩ := next_yes hn; have hg := next_goes hn; have e3 : nextTo s i = i + (frameOf p).size := by rw [e2,g3,hs]; omega
  cases f with
  | zero => omega
  | succ f =>
   unfold allF; rw [if_pos hn,e1,g2]; have ih := all_from ps f (nextTo s i) s r (by omega) hg.2 (by rw [e3]; exact restAt_add h0 hr') hf (fun q hq => hok q (by simp [hq])) (by omega)
   rw [ih]; simp only [cat,ByteArray.size_append,e3]
   congr 1
   omega
theorem all_of_cat {ps : List ByteArray} {r : ByteArray} (hf : frameAt r = false) (hok : ∀ p ∈ ps, Ok p) : allOf (cat ps ++ r) = (ps, ((cat ps).size : Int)) := by
 have := all_from ps ((cat ps ++ r).size + 1) 0 (cat ps ++ r) r (by omega) (by omega) (restAt_zero _) hf hok (by omega)
 unfold allOf; rw [this]
 simp
theorem piece_none {p : ByteArray} (h : Ok p) {k : Nat} (hk : k < (frameOf p).size) : frameAt ((frameOf p).extract 0 k) = false := by
 have hs := frame_lenAt h.2; unfold frameAt
 by_cases h2 : 2 <= k
 ·have hl : lenAt ((frameOf p).extract 0 k) = p.size := by
   have h0 := lenAt_front (p := p) (r := ByteArray.empty) h.2; rw [ByteArray.append_empty] at h0; rw [<- h0]; unfold lenAt; rw [Lib.extract_data]; simp only [List.drop_zero,List.getD_eq_getElem?_getD,List.getElem?_take]; rw [if_pos (by omega),if_pos (by omega)]
  rw [hl,decide_eq_false (fun hh => by have := hh.2.2.2; simp at this; omega),Bool.false_and]
 ·rw [decide_eq_false (fun hh => by have := hh.1; simp at this; omega),Bool.false_and]
theorem empty_none : frameAt ByteArray.empty = false := by decide +kernel
end Go.Proofs.YtaamihdibpioaaaGreat
