/- journal: records are sorted: slices.SortFunc at any length. -/
import Derived.Test.YtaamihdibpioaaaGreatJpM32
import Derived.Test.YtaamihdibpioaaaGreatJpM33
import Derived.Shelf.SlSortCmp.WholeK
import Derived.Shelf.SlGeneric
import Derived.Ground.SlsfProg
import Derived.Ground.NamesProg
set_option maxRecDepth 100000
set_option maxHeartbeats 40000000
namespace Go.Proofs.YtaamihdibpioaaaGreat.Jr
open Go.Shelf Go.RowKit Go.Lib Go.Sort
def sortR_ren : Go.Shelf.Ren := ⟨fun | 6 => 31 | 15 => 51 | 14 => 50 | 28 => 84 | 29 => 85 | 20 => 76 | 21 => 77 | 22 => 78 | 23 => 79 | 24 => 80 | 25 => 81 | 26 => 82 | 27 => 83 | 46 => 107 | 47 => 108 | 48 => 109 | 49 => 110 | 50 => 111 | 57 => 130 | n => n,fun | 22 => 30 | 24 => 44 | 25 => 80 | 3 => 3 | 39 => 23 | 0 => 0 | 53 => 124 | 55 => 147 | 4 => 4 | 46 => 139 | 45 => 138 | 50 => 143 | 5 => 5 | 9 => 9 | 66 => 179 | 70 => 182 | 76 => 203 | 77 => 204 | n => n,fun | n => n⟩
theorem sortR : Go.Proofs.SlLaysF0.n6 Tryz.prog sortR_ren := {
 mixed := by kernel_rfl
 f6 := ⟨Tryz.f31.name,by decide,Tryz.func31.trans (congrArg some (by kernel_rfl))⟩
 f14 := ⟨Tryz.f50.name,by decide,Tryz.func50.trans (congrArg some (by kernel_rfl))⟩
 f15 := Tryz.func51.trans (congrArg some (by kernel_rfl))
 f20 := ⟨Tryz.f76.name,by decide,Tryz.func76.trans (congrArg some (by kernel_rfl))⟩
 f21 := ⟨Tryz.f77.name,by decide,Tryz.func77.trans (congrArg some (by kernel_rfl))⟩
 f22 := ⟨Tryz.f78.name,by decide,Tryz.func78.trans (congrArg some (by kernel_rfl))⟩
 f23 := ⟨Tryz.f79.name,by decide,Tryz.func79.trans (congrArg some (by kernel_rfl))⟩
 f24 := ⟨Tryz.f80.name,by decide,Tryz.func80.trans (congrArg some (by kernel_rfl))⟩
 f25 := ⟨Tryz.f81.name,by decide,Tryz.func81.trans (congrArg some (by kernel_rfl))⟩
 f26 := ⟨Tryz.f82.name,by decide,Tryz.func82.trans (congrArg some (by kernel_rfl))⟩
 f27 := ⟨Tryz.f83.name,by decide,Tryz.func83.trans (congrArg some (by kernel_rfl))⟩
 f28 := Tryz.func84.trans (congrArg some (by kernel_rfl))
 f29 := Tryz.func85.trans (congrArg some (by kernel_rfl))
 f46 := ⟨Tryz.f107.name,by decide,Tryz.func107.trans (congrArg some (by kernel_rfl))⟩
 f47 := Tryz.func108.trans (congrArg some (by kernel_rfl))
 f48 := Tryz.func109.trans (congrArg some (by kernel_rfl))
 f49 := ⟨Tryz.f110.name,by decide,Tryz.func110.trans (congrArg some (by kernel_rfl))⟩
 f50 := ⟨Tryz.f111.name,by decide,Tryz.func111.trans (congrArg some (by kernel_rfl))⟩
 f57 := ⟨Tryz.f130.name,by decide,Tryz.func130.trans (congrArg some (by kernel_rfl))⟩
 t0 := Tryz.underlying0
 a0 := Tryz.isAgg0
 z0 := Tryz.sizeOf0
 v0 := Tryz.zeroValue0
 t3 := Tryz.underlying3
 a3 := Tryz.isAgg3
 z3 := Tryz.sizeOf3
 v3 := Tryz.zeroValue3
 t4 := Tryz.underlying4
 a4 := Tryz.isAgg4
 z4 := Tryz.sizeOf4
 v4 := Tryz.zeroValue4
 t5 := Tryz.underlying5
 a5 := Tryz.isAgg5
 z5 := Tryz.sizeOf5
 v5 := Tryz.zeroValue5
 t9 := Tryz.underlying9
 a9 := Tryz.isAgg9
 z9 := Tryz.sizeOf9
 v9 := Tryz.zeroValue9
 t22 := Tryz.underlying30
 a22 := Tryz.isAgg30
 z22 := Tryz.sizeOf30
 v22 := Tryz.zeroValue30
 t25 := Tryz.underlying80
 a25 := Tryz.isAgg80
 z25 := Tryz.sizeOf80
 v25 := Tryz.zeroValue80
 t39 := Tryz.underlying23
 a39 := Tryz.isAgg23
 z39 := Tryz.sizeOf23
 v39 := Tryz.zeroValue23
 t45 := Tryz.underlying138
 a45 := Tryz.isAgg138
 z45 := Tryz.sizeOf138
 v45 := Tryz.zeroValue138
 t46 := Tryz.underlying139
 a46 := Tryz.isAgg139
 z46 := Tryz.sizeOf139
 v46 := Tryz.zeroValue139
 t50 := Tryz.underlying143
 a50 := Tryz.isAgg143
 z50 := Tryz.sizeOf143
 v50 := Tryz.zeroValue143
 t53 := Tryz.underlying124
 a53 := Tryz.isAgg124
 z53 := Tryz.sizeOf124
 v53 := Tryz.zeroValue124
 t55 := Tryz.underlying147
 a55 := Tryz.isAgg147
 z55 := Tryz.sizeOf147
 v55 := Tryz.zeroValue147
 t66 := Tryz.underlying179
 a66 := Tryz.isAgg179
 z66 := Tryz.sizeOf179
 v66 := Tryz.zeroValue179
 t70 := Tryz.underlying182
 a70 := Tryz.isAgg182
 z70 := Tryz.sizeOf182
 v70 := Tryz.zeroValue182
 t76 := Tryz.underlying203
 a76 := Tryz.isAgg203
 z76 := Tryz.sizeOf203
 v76 := Tryz.zeroValue203
 t77 := Tryz.underlying204
 a77 := Tryz.isAgg204
 z77 := Tryz.sizeOf204
 v77 := Tryz.zeroValue204 }
instance : Inhabited Rc := ⟨⟨0, 0,Cm.zero⟩⟩
def ordR (x y : Rc) : Int := sgnI x.seq y.seq
theorem ltOf_ordR (x y : Rc) : ltOf ordR x y = decide (x.seq < y.seq) := by
 unfold ltOf ordR sgnI
 by_cases h1 : x.seq < y.seq
 ·simp [h1]
 ·by_cases h2 : y.seq < x.seq <;> simp [h1,h2]
theorem swoR : SWO (ltOf ordR) where
 irrefl x := by rw [ltOf_ordR]; simp
 trans x y z h1 h2 := by rw [ltOf_ordR] at *; simp at *; omega
 ntrans x y z h1 h2 := by rw [ltOf_ordR] at *; simp at *; omega
theorem cmpLaysR (blk off size : Nat) (w : World) : CmpLays Tryz.prog 32 #[] Rc.cells 19 ordR blk off size w :=
 fun _ _ _ _ x y => clo_ord x y _
theorem rc_one (x : Rc) : ∀ v ∈ x.cells,v.oneCell' = true := recE.one x
theorem erow_get : ∀ (us : List Rc) (i j : Nat) (hi : i < us.length) (hj : j < 19), (recE.row us)[i * 19 + j]? = (us[i]'hi).cells[j]?
 | [],i,j,hi,hj => by simp at hi
 | u :: us, 0, j, hi, hj => by
  show (u.cells ++ recE.row us)[0 * 19 + j]? = _
  rw [Nat.zero_mul,Nat.zero_add,List.getElem?_append_left (by rw [Rc.cells_len]; exact hj)]
  rfl
 | u :: us, i + 1, j, hi, hj => by
  show (u.cells ++ recE.row us)[(i + 1) * 19 + j]? = _
  rw [List.getElem?_append_right (by rw [Rc.cells_len]; omega),Rc.cells_len,show (i + 1) * 19 + j - 19 = i * 19 + j by omega,erow_get us i j (by simpa using hi) hj]
  rfl
theorem erow_len (us : List Rc) : (recE.row us).length = us.length * 19 := recE.row_len us
theorem flat_rc (d : Array Rc) : flatK Rc.cells 19 d = (recE.row d.toList).toArray := by
 apply Array.ext
 ·rw [size_flatK]; simp [erow_len]
 intro t h1 h2; rw [size_flatK] at h1; have hg := get_flatK Rc.cells 19 d t h1; rw [getElem!_pos _ t (by rw [size_flatK]; exact h1)] at hg
 rw [hg]; have hd : t / 19 < d.size := by omega
 have hm : t % 19 < 19 := by omega
 have he := erow_get d.toList (t / 19) (t % 19) (by simpa using hd) hm
 rw [show t / 19 * 19 + t % 19 = t by omega] at he
 have h3 : (recE.row d.toList)[t]? = some ((recE.row d.toList).toArray[t]'h2) := by simp
 rw [h3] at he; rw [getElem!_pos d (t / 19) hd]; have hl : t % 19 < (d[t / 19]'hd).cells.length := by rw [Rc.cells_len]; exact hm
 rw [getElem!_pos (d[t / 19]'hd).cells (t % 19) hl]
 have h4 : (d.toList[t / 19]'(by simpa using hd)).cells[t % 19]? = some ((d[t / 19]'hd).cells[t % 19]'hl) := by
  simp
 rw [h4] at he; injection he with he; exact he.symm
theorem holds_rc {w : World} {B n : Nat} {g cap : Nat} {cur : Array Value} {us : List Rc} (hg : w.heap[g]? = some (.cells cur 44 (0, 0))) (hc : cur.toList.take (us.length * 19) = recE.row us) : HoldsK Rc.cells 19 w g 0 us.toArray := by
 intro j hj; have hb : Blk w g 44 cur := hg; have e : flatK Rc.cells 19 us.toArray = (recE.row us).toArray := flat_rc us.toArray; rw [e] at hj ⊢; rw [Nat.zero_add]; refine ⟨?_,hb.frozen j⟩; rw [hb.cell]; have hj' : j < us.length * 19 := by simpa [erow_len] using hj
 have h1 : cur[j]? = (recE.row us)[j]? := by
  rw [<- hc,List.getElem?_take]; rw [if_pos hj',Array.getElem?_toList]
 rw [h1,getElem!_pos _ j (by simpa using hj)]
 simp
theorem sorted_row {w : World} {B g cap n : Nat} {cur : Array Value} {us us' : List Rc} {d : Array Rc} {os : Array Obj} (hg : w.heap[g]? = some (.cells cur 44 (0, 0))) (hcs : cur.size = cap * 19) (hnc : us.length <= cap) (hcap : cap <= maxLen) (hB : B <= g) (hd : d.size = us.length) :
  (sortWorldK Rc.cells 19 w g 0 n d os).ownsRow B 44 19 (.slice (some ⟨g, 0,none⟩) d.toList.length cap) d.toList.length (recE.row d.toList) /\ Only w (sortWorldK Rc.cells 19 w g 0 n d os) g := by
 have hlt : g < w.heap.size := (show Blk w g 44 cur from hg).lt
 have hsz : (putRowK Rc.cells 19 (Sort.ahead w n) g 0 d).heap.size = w.heap.size := by simp [putRowK,putRow,mapBlock,Sort.ahead]
 have hold : ∀ i,i < w.heap.size -> (sortWorldK Rc.cells 19 w g 0 n d os).heap[i]? = (putRowK Rc.cells 19 (Sort.ahead w n) g 0 d).heap[i]? := fun i hi => heap_grow_old _ _ (by rw [hsz]; exact hi)
 have hdl : d.toList.length = us.length := by simpa using hd
 refine ⟨⟨by rw [erow_len], .inr ⟨g,cap,putCells id 0 (flatK Rc.cells 19 d) cur,rfl,hB,?_,by omega,hcap,?_,?_⟩⟩,rfl,rfl,rfl,?_,fun i hi hne => ?_⟩
 ·rw [hold g hlt]
  simp only [putRowK,putRow,mapBlock,Sort.ahead,Array.getElem?_modify,if_pos rfl,hg,Option.map_some,onCells,if_true]
 ·simp [putCells,hcs]
 ·rw [flat_rc]
  apply List.ext_getElem
  ·rw [List.length_take, erow_len]
   simp [putCells,hcs]
   omega
  ·intro t h1 h2
   rw [List.getElem_take]; simp only [putCells,Array.getElem_toList,Array.getElem_mapIdx]; rw [erow_len] at h2; rw [if_pos (by simp [erow_len]; omega)]
   simp
   rw [List.getElem?_eq_getElem (by rw [erow_len]; exact h2)]
   rfl
 ·unfold sortWorldK grow
  simp only [Array.size_append,hsz]
  omega
 ·rw [hold i hi]
  have hne' : g ≠ i := fun e => hne (by rw [e])
  simp [putRowK,putRow,mapBlock,Sort.ahead,Array.getElem?_modify,hne']
theorem perm_flat {us : List Rc} {d' : Array Rc} (hs : d'.size = us.length) (hp : (d'.extract 0 us.toArray.size).toList.Perm (us.toArray.extract 0 us.toArray.size).toList) : d'.toList.Perm us := by
 have h1 : (d'.extract 0 us.toArray.size).toList = d'.toList := by simp [<- hs]
 have h2 : (us.toArray.extract 0 us.toArray.size).toList = us := by simp
 rw [h1,h2] at hp; exact hp
theorem sort_some (B g cap : Nat) (cur : Array Value) (us : List Rc) (w : World) (hr : Rowed recE (fun _ => False) B 44 w us (.slice (some ⟨g, 0, none⟩) us.length cap)) (hg : w.heap[g]? = some (.cells cur 44 (0, 0))) (hB : B <= g) (hnc : us.length <= cap) (hcap : cap <= maxLen) (hcs : cur.size = cap * 19) (htk : cur.toList.take (us.length * 19) = recE.row us) (hl : us.length <= 100000) (hBw : B <= w.heap.size) :
  Calls Tryz.prog 31 #[.slice (some ⟨g, 0,none⟩) us.length cap, .func (.func 32) #[] #[]] w fun e w' => SortedOut B (.slice (some ⟨g, 0,none⟩) us.length cap) us w e w' := by
 have eg : ∀ args w, (callFunc 32 args).run Tryz.prog w = .ok (.enter 32 args) w := enters_of Tryz.func32 (by kernel_rfl) rfl
 have hlt : g < w.heap.size := (show Blk w g 44 cur from hg).lt
 have hcon := AnyQ.slices_SortFunc sortR 19 Tryz.isAgg44 Tryz.sizeOf44 Rc.cells Rc.cells_len rc_one ordR swoR 32 #[] g 0 cap us.toArray w eg (cmpLaysR g 0 us.toArray.size w) (holds_rc (B := B) (n := 0) (cap := cap) hg htk) hlt (by simp; omega)
 change Calls Tryz.prog 31 _ _ _ at hcon
 refine hcon.mono ?_; rintro e w' ⟨rfl,d',n,os,hpi,hsi,rfl⟩; obtain ⟨hsz,_,hpe⟩ := hpi; have hsz' : d'.size = us.length := by simpa using hsz
 have hperm := perm_flat hsz' hpe; obtain ⟨hown,hon⟩ := sorted_row (n := n) (os := os) (us := us) (us' := us) (d := d') (B := B) hg hcs hnc hcap hB hsz'; have hdl : d'.toList.length = us.length := by simpa using hsz'
 refine ⟨rfl,d'.toList,hperm,?_,⟨by rw [hdl] at hown ⊢; exact hown,fun u hu => ?_⟩,hon.below hB hBw⟩
 ·rw [List.pairwise_iff_getElem]
  intro i j hi hj hij; have hi' : i < d'.size := by simpa using hi
  have hj' : j < d'.size := by simpa using hj
  have h1 := hsi i j (Nat.zero_le _) hij (by rw [List.size_toArray, <- hsz']; exact hj')
  rw [getElem!_pos d' j hj',getElem!_pos d' i hi',ltOf_ordR] at h1; have h2 : ¬ (d'[j]).seq < (d'[i]).seq := by simpa using h1
  simp
  omega
 ·have hu' := hperm.subset hu
  obtain ⟨h1,h2⟩ := hr.each u hu'; exact ⟨recE.carry h1 h2 (fun b o hs hlt' => only_cell hon (fun e => hs.2 (by subst e; rfl)) hlt' o) hon.size,h2⟩
theorem ins_none (p : Option Addr) (c : Nat) (w : World) : Calls Tryz.prog 76 #[.slice p 0 c, .int .i64 0, .int .i64 0, .func (.func 32) #[] #[]] w fun e w' => e = .returned (.tuple #[]) /\ w = w' := by
 go_enter Tryz.func76,Tryz.ntmps76
 go_wp2
 go_loop [8] (fun iv => iv = .int .i64 1) (fun iv => 0)
 case atStart => rfl
 case round =>
  obtain rfl := hrel
  go_wp2
  go_end0
  exact ⟨rfl,rfl⟩
theorem pdq_none (p : Option Addr) (c : Nat) (l : Int) (w : World) : Calls Tryz.prog 50 #[.slice p 0 c, .int .i64 0, .int .i64 0, .int .i64 l, .func (.func 32) #[] #[]] w fun e w' => e = .returned (.tuple #[]) /\ w = w' := by
 have HI := gh (ins_none p c)
 go_enter Tryz.func50,Tryz.ntmps50
 go_wp2
 go_loop [1, 2] (fun av bv => av = .int .i64 0 /\ bv = .int .i64 0) (fun _ _ => 0)
 case atStart => exact ⟨rfl,rfl⟩
 case round =>
  obtain ⟨rfl,rfl⟩ := hrel
  go_wp2_with fail
  refine (HI.o _).mono ?_; rintro e w' ⟨rfl,rfl⟩
  go_wp2
  refine bodyPost_ret (v := .tuple #[]) (by simp [results,Tryz.results50,go_sem]) rfl ?_
  exact ⟨rfl,rfl⟩
theorem len_zero (w : World) : Calls Tryz.prog 51 #[.int .u64 0] w fun e w' => e = .returned (.int .i64 (Lib.bitLen 0 : Nat)) /\ w' = w :=
 Any.bits_Len (SlLaysF0.n15.bits (P := Tryz.prog) (ρ := sortR_ren) { sortR with }) 0 w (by omega) (by omega)
theorem sort_none (p : Option Addr) (c : Nat) (w : World) : Calls Tryz.prog 31 #[.slice p 0 c, .func (.func 32) #[] #[]] w fun e w' => e = .returned (.tuple #[]) /\ w = w' := by
 have HP := gh (fun l => pdq_none p c l w)
 have HL := gh (len_zero w)
 go_enter Tryz.func31,Tryz.ntmps31
 go_wp2_with fail
 refine HL.o.mono ?_; rintro e w' ⟨rfl,rfl⟩
 go_wp2_with fail
 refine (HP.o _).mono ?_; rintro e w' ⟨rfl,rfl⟩
 go_wp2
 go_end0
 exact ⟨rfl,rfl⟩
theorem sort_recs : SortSpec := by
 intro B v us w hr hl hB
 rcases hr.items.2 with ⟨rfl,h0⟩ | ⟨g,cap,cur,rfl,hb,hg,hnc,hcm,hcs,htk⟩
 ·have hu : us = [] := List.eq_nil_of_length_eq_zero h0
  subst hu; refine (sort_none none 0 w).mono ?_; rintro e w' ⟨rfl,rfl⟩; exact ⟨rfl, [],List.Perm.refl _,List.Pairwise.nil,hr,Below.refl _ _⟩
 ·exact sort_some B g cap cur us w hr hg hb hnc hcm hcs htk hl hB
end Go.Proofs.YtaamihdibpioaaaGreat.Jr
namespace Go.Proofs.YtaamihdibpioaaaGreat.Jr
open Go.RowKit Go.Proofs.YtaamihdibpioaaaGreat.Crc Go.Proofs.YtaamihdibpioaaaGreat.Pk
structure RecRow (w : World) (B : Nat) (v : Value) (H : List He) (g c : Nat) : Prop where
 form : v = .slice (some ⟨g, 0,none⟩) H.length c
 cap : H.length <= c
 ge : B <= g
 lt : g < w.heap.size
 cells : ∀ k (hk : k < H.length),w.cell? ⟨g,k * 19,none⟩ = some (.int .i64 (H[k]'hk).seq) /\ w.cell? ⟨g,k * 19 + 1,none⟩ = some (.int .i64 (H[k]'hk).label)
theorem recRow_of {w : World} {B : Nat} {v : Value} {us : List Rc} {H : List He} (hr : Rowed recE (fun _ => False) B 44 w us v) (hm : us.map Rc.erase = H.map He.rc) (hH : H ≠ []) : ∃ g c, RecRow w B v H g c := by
 have hl : us.length = H.length := by
  have := congrArg List.length hm
  rwa [List.length_map,List.length_map] at this
 have hpos : 0 < H.length := List.length_pos_iff.2 hH; have hh := hr.items
 rcases hr.items.2 with ⟨rfl,h0⟩ | ⟨g,cap,cur,rfl,hb,hg,hc,_⟩
 ·omega
 ·refine ⟨g, cap, by rw [hl], by omega, hb, (show Blk w g 44 cur from hg).lt, fun k hk => ?_⟩
  have hku : k < us.length := by omega
  have h2 : (us[k]'hku).erase = (H[k]'hk).rc := by
   have h1 : (us.map Rc.erase)[k]? = (H.map He.rc)[k]? := by rw [hm]
   rw [List.getElem?_map,List.getElem?_map,List.getElem?_eq_getElem hku,List.getElem?_eq_getElem hk] at h1
   simpa using h1
  have hs : (us[k]'hku).seq = ((H[k]'hk).seq : Int) := congrArg Rc.seq h2; have hlb : (us[k]'hku).label = ((H[k]'hk).label : Int) := congrArg Rc.label h2; have e0 := erow_get us k 0 hku (by decide)
  have e1 := erow_get us k 1 hku (by decide)
  have k0 := hh.cells (g := g) rfl (k * 19) (.int .i64 (us[k]'hku).seq) e0; have k1 := hh.cells (g := g) rfl (k * 19 + 1) (.int .i64 (us[k]'hku).label) e1; rw [Addr.add_lit,Nat.zero_add] at k0 k1; rw [hs] at k0; rw [hlb] at k1; exact ⟨k0,k1⟩
theorem RecRow.keep {w w' : World} {B : Nat} {v : Value} {H : List He} {g c j d : Nat} (h : RecRow w B v H g c) (k : Keeps2 w w' j d) (hj : j < B) (hd : d < B) : RecRow w' B v H g c :=
 ⟨h.form, h.cap, h.ge, Nat.lt_of_lt_of_le h.lt k.size, fun i hi => by
  have hb := k.block g h.lt (by have := h.ge; omega) (by have := h.ge; omega)
  have e0 := World.cell?_of_block (a := ⟨g,i * 19,none⟩) hb; have e1 := World.cell?_of_block (a := ⟨g,i * 19 + 1,none⟩) hb; exact ⟨e0.trans (h.cells i hi).1,e1.trans (h.cells i hi).2⟩⟩
theorem tickw (j d : Nat) (s s' : Jt) (label k : Int) (w : World) (h : JAt w j d s) (hn : s.next < 1000000000) (hk : jE s label tickE = k) (hs : jWrite s label tickE = s') :
  Calls Tryz.prog 10 #[.pointer (some ⟨j, 0,none⟩), .int .i64 label,tickC.agg] w fun e w' => JDid k s' j d w e w' := by
 have := jwrite_any j d s label tickC w h hn (tick_in w); rw [tick_enc] at this; rw [<- hk, <- hs]; exact this
theorem tickc (j d : Nat) (s s' : Jt) (label k keep : Int) (w : World) (h : JAt w j d s) (hn : s.next < 1000000000) (hk : jE s label tickE = k) (hs : jCrash s label tickE keep = s') :
  Calls Tryz.prog 11 #[.pointer (some ⟨j, 0,none⟩), .int .i64 label,tickC.agg, .int .i64 keep] w fun e w' => JDid k s' j d w e w' := by
 have := jcrash_any j d s label tickC keep w h hn (tick_in w); rw [tick_enc] at this; rw [<- hk, <- hs]; exact this
def TrueB (w : World) (e : Ending) (w' : World) : Prop := e = .returned (.bool true) /\ Below w.heap.size w w'
theorem awake18_any (w : World) : Calls Tryz.prog 8 #[] w fun e w' => TrueB w e w' := by
 obtain ⟨S1,S2,S3,S4,S5,hp⟩ := awake_plain; have HP := gh hp; have HNW := gh (jnew_ok 2 w (by decide) (by decide))
 obtain ⟨r2,gd2⟩ := hp.g2; obtain ⟨r3,gd3⟩ := hp.g3; obtain ⟨r5,gd5⟩ := hp.g5
 have hsq : ∀ h, h ∈ hs3 -> h.seq < 4294967296 := fun h hh => by
  simp only [hs3,List.mem_cons,List.not_mem_nil,or_false] at hh
  rcases hh with rfl | rfl | rfl <;> decide
 have hsq2 : ∀ h, h ∈ hs2 -> h.seq < 4294967296 := fun h hh => hsq h (by
  simp only [hs2,hs3,List.mem_cons,List.not_mem_nil,or_false] at hh ⊢
  rcases hh with h | h
  ·exact .inl h
  ·exact .inr (.inl h))
 have HRD := gh (fun (j d : Nat) (W : World) (h : JAt W j d S2) => records_any sort_recs j d S2 hs2 r2 W h gd2.hist hsq2 (by decide))
 have HRV := gh (fun (j d : Nat) (W : World) (h : JAt W j d S3) => recover_any sort_recs j d S3 hs2 r3 W h gd3.hist hsq2 (by decide))
 have HRV5 := gh (fun (j d : Nat) (W : World) (h : JAt W j d S5) => recover_any sort_recs j d S5 hs3 r5 W h gd5.hist hsq (by decide))
 clear hp gd2 gd3 gd5 hsq hsq2
 go_enter Tryz.func8,Tryz.ntmps8
 try simp only [lapp_cons,lapp_nil]
 go_wp2_with fail
 refine HNW.o.mono ?_; rintro e w1 ⟨j,d,hj,hd,rfl,hb1,hJ1⟩; have J1 := gh hJ1; have B1 := gh hb1; have hwz := hb1.size; clear hb1 hJ1 HNW
 go_wp2_with fail
 refine (tick_any w1).mono ?_; rintro e w2 ⟨rfl,hb2⟩; have B2 := gh (B1.o.trans (hb2.mono B1.o.size)); have J2 := gh (J1.o.below hb2); clear hb2
 go_wp2_with fail
 refine (tickw j d (jNew 2) S1 1 0 w2 J2.o (by decide) HP.o.e0 HP.o.s1).mono ?_
 rintro e w3 ⟨rfl,hJ3,hK3⟩; have B3 := gh (B2.o.trans (hK3.below hj hd B2.o.size)); have J3 := gh hJ3; clear hJ3 hK3
 go_wp2_with fail
 refine (tick_any w3).mono ?_; rintro e w4 ⟨rfl,hb4⟩; have B4 := gh (B3.o.trans (hb4.mono B3.o.size)); have J4 := gh (J3.o.below hb4); clear hb4
 go_wp2_with fail
 refine (tickw j d S1 S2 0 0 w4 J4.o HP.o.n1 HP.o.e1 HP.o.s2).mono ?_; rintro e w5 ⟨rfl,hJ5,hK5⟩; have B5 := gh (B4.o.trans (hK5.below hj hd B4.o.size)); have J5 := gh hJ5; clear hJ5 hK5; have HR5 := gh (HRD.o j d w5 J5.o)
 go_wp2_with fail
 refine HR5.o.mono ?_; rintro e w6 ⟨RB,v,us,hRB,hRB2,rfl,hb6,hr6,hm6⟩; obtain ⟨g,c,hrow⟩ := recRow_of hr6 hm6 (by decide)
 obtain rfl := hrow.form; have B6 := gh (B5.o.trans (hb6.mono B5.o.size)); have J6 := gh (J5.o.below hb6); have R6 := gh hrow; have hjB : j < RB := Nat.lt_of_lt_of_le J5.o.jb.lt hRB; have hdB : d < RB := Nat.lt_of_lt_of_le J5.o.db.lt hRB; clear hb6 hr6 hm6 hrow HR5
 go_wp2_with fail
 refine (tick_any w6).mono ?_; rintro e w7 ⟨rfl,hb7⟩; have B7 := gh (B6.o.trans (hb7.mono B6.o.size)); have J7 := gh (J6.o.below hb7); have R7 := gh (R6.o.keep (Keeps2.of_below hb7 j d) hjB hdB); clear hb7
 go_wp2_with fail
 refine (tickc j d S2 S3 0 0 3 w7 J7.o HP.o.n2 HP.o.e2 HP.o.s3).mono ?_; rintro e w8 ⟨rfl,hJ8,hK8⟩; have B8 := gh (B7.o.trans (hK8.below hj hd B7.o.size)); have J8 := gh hJ8; have R8 := gh (R7.o.keep hK8 hjB hdB); clear hJ8 hK8
 go_wp2_with fail
 refine (tick_any w8).mono ?_; rintro e w9 ⟨rfl,hb9⟩; have B9 := gh (B8.o.trans (hb9.mono B8.o.size)); have J9 := gh (J8.o.below hb9); have R9 := gh (R8.o.keep (Keeps2.of_below hb9 j d) hjB hdB); clear hb9
 go_wp2_with fail
 refine (tickw j d S3 S3 0 14 w9 J9.o HP.o.n3 HP.o.e3 HP.o.s3').mono ?_; rintro e w10 ⟨rfl,hJ10,hK10⟩; have B10 := gh (B9.o.trans (hK10.below hj hd B9.o.size)); have J10 := gh hJ10; have R10 := gh (R9.o.keep hK10 hjB hdB); clear hJ10 hK10; have HR10 := gh (HRV.o j d w10 J10.o)
 go_wp2_with fail
 refine HR10.o.mono ?_; rintro e w11 ⟨MB,mv,ms,hMB,hMB2,rfl,hK11,hJ11,hr11,hm11⟩; obtain ⟨mg,mc,hmrow⟩ := recRow_of hr11 hm11 (by decide)
 obtain rfl := hmrow.form; rw [HP.o.s4] at hJ11; have B11 := gh (B10.o.trans (hK11.below hj hd B10.o.size)); have J11 := gh hJ11; have R11 := gh (R10.o.keep hK11 hjB hdB); have l0 := (R11.o.cells 0 (by decide)).2
 have l1 := (R11.o.cells 1 (by decide)).1
 have hc2 : 2 <= c := R11.o.cap; have hg11 := R11.o.lt; clear hJ11 hK11 hr11 hm11 hmrow HR10; have l0' : w11.cell? ⟨g, 1,none⟩ = some (.int .i64 1) := l0; have l1' : w11.cell? ⟨g, 19,none⟩ = some (.int .i64 2) := l1; clear l0 l1; rw [show hs2.length = 2 from rfl]
 go_wp2_with fail
 refine (tick_any w11).mono ?_; rintro e w12 ⟨rfl,hb12⟩; have B12 := gh (B11.o.trans (hb12.mono B11.o.size)); have J12 := gh (J11.o.below hb12); clear hb12
 go_wp2_with fail
 refine (tickc j d S4 S5 0 0 99 w12 J12.o HP.o.n4 HP.o.e4 HP.o.s5).mono ?_; rintro e w13 ⟨rfl,hJ13,hK13⟩; have B13 := gh (B12.o.trans (hK13.below hj hd B12.o.size)); have HR13 := gh (HRV5.o j d w13 hJ13); clear hJ13 hK13
 go_wp2_with fail
 refine HR13.o.mono ?_; rintro e w14 ⟨NB,nv,ns,hNB,hNB2,rfl,hK14,hJ14,hr14,hm14⟩; obtain ⟨ng,nc,hnrow⟩ := recRow_of hr14 hm14 (by decide)
 obtain rfl := hnrow.form; have HF := gh (B13.o.trans (hK14.below hj hd B13.o.size)); rw [show hs3.length = 3 from rfl]
 clear hJ14 hK14 hr14 hm14 hnrow HR13
 go_wp2
 go_ret
 exact ⟨rfl,HF.o⟩
end Go.Proofs.YtaamihdibpioaaaGreat.Jr
