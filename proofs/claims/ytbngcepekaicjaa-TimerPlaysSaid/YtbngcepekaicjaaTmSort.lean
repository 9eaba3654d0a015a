/- Those that wait are sorted: slices.SortFunc with timer.order. -/
import Derived.Test.YtbngcepekaicjaaTmIdx
import Derived.Test.YtbngcepekaicjaaTmSpec
import Derived.Shelf.SlSortCmp.WholeK
import Derived.Shelf.SlGeneric
import Derived.Ground.SlsfProg
import Derived.Ground.NamesProg
namespace Go.Proofs.Ytbngcepekaicjaa
set_option linter.unusedVariables false
open Go.Shelf Go.RowKit Go.Lib Go.Sort
def sortW_ren : Go.Shelf.Ren := ⟨fun | 6 => 25 | 15 => 32 | 14 => 31 | 28 => 43 | 29 => 44 | 20 => 35 | 21 => 36 | 22 => 37 | 23 => 38 | 24 => 39 | 25 => 40 | 26 => 41 | 27 => 42 | 46 => 46 | 47 => 47 | 48 => 48 | 49 => 49 | 50 => 50 | 57 => 51 | n => n, fun | 22 => 52 | 24 => 57 | 25 => 61 | 3 => 3 | 39 => 28 | 0 => 0 | 53 => 75 | 55 => 77 | 4 => 4 | 46 => 69 | 45 => 68 | 50 => 32 | 5 => 5 | 9 => 9 | 66 => 78 | 70 => 82 | 76 => 84 | 77 => 85 | n => n, fun | n => n⟩
theorem sortW : Go.Proofs.SlLaysF0.n6 Try.prog sortW_ren := {
  mixed := by kernel_rfl
  f6 := ⟨Try.f25.name, by decide, Try.func25.trans (congrArg some (by kernel_rfl))⟩
  f14 := ⟨Try.f31.name, by decide, Try.func31.trans (congrArg some (by kernel_rfl))⟩
  f15 := Try.func32.trans (congrArg some (by kernel_rfl))
  f20 := ⟨Try.f35.name, by decide, Try.func35.trans (congrArg some (by kernel_rfl))⟩
  f21 := ⟨Try.f36.name, by decide, Try.func36.trans (congrArg some (by kernel_rfl))⟩
  f22 := ⟨Try.f37.name, by decide, Try.func37.trans (congrArg some (by kernel_rfl))⟩
  f23 := ⟨Try.f38.name, by decide, Try.func38.trans (congrArg some (by kernel_rfl))⟩
  f24 := ⟨Try.f39.name, by decide, Try.func39.trans (congrArg some (by kernel_rfl))⟩
  f25 := ⟨Try.f40.name, by decide, Try.func40.trans (congrArg some (by kernel_rfl))⟩
  f26 := ⟨Try.f41.name, by decide, Try.func41.trans (congrArg some (by kernel_rfl))⟩
  f27 := ⟨Try.f42.name, by decide, Try.func42.trans (congrArg some (by kernel_rfl))⟩
  f28 := Try.func43.trans (congrArg some (by kernel_rfl))
  f29 := Try.func44.trans (congrArg some (by kernel_rfl))
  f46 := ⟨Try.f46.name, by decide, Try.func46.trans (congrArg some (by kernel_rfl))⟩
  f47 := Try.func47.trans (congrArg some (by kernel_rfl))
  f48 := Try.func48.trans (congrArg some (by kernel_rfl))
  f49 := ⟨Try.f49.name, by decide, Try.func49.trans (congrArg some (by kernel_rfl))⟩
  f50 := ⟨Try.f50.name, by decide, Try.func50.trans (congrArg some (by kernel_rfl))⟩
  f57 := ⟨Try.f51.name, by decide, Try.func51.trans (congrArg some (by kernel_rfl))⟩
  t0 := Try.underlying0
  a0 := Try.isAgg0
  z0 := Try.sizeOf0
  v0 := Try.zeroValue0
  t3 := Try.underlying3
  a3 := Try.isAgg3
  z3 := Try.sizeOf3
  v3 := Try.zeroValue3
  t4 := Try.underlying4
  a4 := Try.isAgg4
  z4 := Try.sizeOf4
  v4 := Try.zeroValue4
  t5 := Try.underlying5
  a5 := Try.isAgg5
  z5 := Try.sizeOf5
  v5 := Try.zeroValue5
  t9 := Try.underlying9
  a9 := Try.isAgg9
  z9 := Try.sizeOf9
  v9 := Try.zeroValue9
  t22 := Try.underlying52
  a22 := Try.isAgg52
  z22 := Try.sizeOf52
  v22 := Try.zeroValue52
  t25 := Try.underlying61
  a25 := Try.isAgg61
  z25 := Try.sizeOf61
  v25 := Try.zeroValue61
  t39 := Try.underlying28
  a39 := Try.isAgg28
  z39 := Try.sizeOf28
  v39 := Try.zeroValue28
  t45 := Try.underlying68
  a45 := Try.isAgg68
  z45 := Try.sizeOf68
  v45 := Try.zeroValue68
  t46 := Try.underlying69
  a46 := Try.isAgg69
  z46 := Try.sizeOf69
  v46 := Try.zeroValue69
  t50 := Try.underlying32
  a50 := Try.isAgg32
  z50 := Try.sizeOf32
  v50 := Try.zeroValue32
  t53 := Try.underlying75
  a53 := Try.isAgg75
  z53 := Try.sizeOf75
  v53 := Try.zeroValue75
  t55 := Try.underlying77
  a55 := Try.isAgg77
  z55 := Try.sizeOf77
  v55 := Try.zeroValue77
  t66 := Try.underlying78
  a66 := Try.isAgg78
  z66 := Try.sizeOf78
  v66 := Try.zeroValue78
  t70 := Try.underlying82
  a70 := Try.isAgg82
  z70 := Try.sizeOf82
  v70 := Try.zeroValue82
  t76 := Try.underlying84
  a76 := Try.isAgg84
  z76 := Try.sizeOf84
  v76 := Try.zeroValue84
  t77 := Try.underlying85
  a77 := Try.isAgg85
  z77 := Try.sizeOf85
  v77 := Try.zeroValue85 }

def encW (x : Wt) : List Value := [.int .i64 x.1, .int .i64 x.2]
theorem ltOf_ord (x y : Wt) : ltOf ordW x y = decide (ltW x y) := by
  unfold ltOf
  rw [Bool.eq_iff_iff]
  simp only [decide_eq_true_eq]
  exact ordW_lt x y
theorem swoW : SWO (ltOf ordW) where
  irrefl x := by rw [ltOf_ord]; simp [ltW_irrefl]
  trans x y z h1 h2 := by rw [ltOf_ord] at *; simp at *; exact ltW_trans h1 h2
  ntrans x y z h1 h2 := by rw [ltOf_ord] at *; simp at *; unfold ltW at *; omega
def OrdGrow (n : Int) (w : World) (e : Ending) (w' : World) : Prop := e = .returned (.int .i64 n) ∧ ∃ q os', w' = grow (w.drewN q) os'
theorem grow3 (w : World) (A B C : Obj) : (((w.alloc A).alloc B).alloc C).drew = grow (w.drewN 1) #[A, B, C] := by
  have h : ((w.alloc A).alloc B).alloc C = grow w #[A, B, C] := by rw [alloc_eq_grow, alloc_eq_grow, alloc_eq_grow, grow_grow, grow_grow]; rfl
  rw [h]
  rfl
set_option maxHeartbeats 1000000 in
theorem order_grow (a b : Wt) (w : World) : Calls Try.prog 26 #[.agg #[.int .i64 a.1, .int .i64 a.2], .agg #[.int .i64 b.1, .int .i64 b.2]] w fun e w' => OrdGrow (ordW a b) w e w' := by
  obtain ⟨W, hW⟩ : ∃ W, W = (w.alloc (.cells #[.int .i64 a.1, .int .i64 a.2] 57)).alloc (.cells #[.int .i64 b.1, .int .i64 b.2] 57) := ⟨_, rfl⟩
  have hbW : Below w.heap.size w W := by rw [hW]; exact ((Below.refl _ _).alloc (Nat.le_refl _) _).alloc (by simp) _
  have ha := (Blk.new w 57 #[.int .i64 a.1, .int .i64 a.2]).alloc (.cells #[.int .i64 b.1, .int .i64 b.2] 57)
  have hb := Blk.new (w.alloc (.cells #[.int .i64 a.1, .int .i64 a.2] 57)) 57 #[.int .i64 b.1, .int .i64 b.2]
  rw [World.size_alloc] at hb
  rw [← hW] at ha hb
  have hs : W.drew.cell? ⟨w.heap.size, 0, none⟩ = some (.int .i64 a.1) ∧ W.drew.cell? ⟨w.heap.size, 1, none⟩ = some (.int .i64 a.2) ∧ W.drew.cell? ⟨w.heap.size + 1, 0, none⟩ = some (.int .i64 b.1) ∧ W.drew.cell? ⟨w.heap.size + 1, 1, none⟩ = some (.int .i64 b.2) ∧ w.heap.size + 1 < W.drew.heap.size :=
    ⟨ha.cell 0, ha.cell 1, hb.cell 0, hb.cell 1, hb.lt⟩
  have HS0 := Lib.hid (show W.cell? ⟨w.heap.size, 0, none⟩ = some (.int .i64 a.1) ∧ W.cell? ⟨w.heap.size, 1, none⟩ = some (.int .i64 a.2) ∧ W.cell? ⟨w.heap.size + 1, 0, none⟩ = some (.int .i64 b.1) ∧ W.cell? ⟨w.heap.size + 1, 1, none⟩ = some (.int .i64 b.2) ∧ w.heap.size + 1 < W.heap.size from hs)
  have HS := Lib.hid hs; have HB := Lib.hid hbW; have HW := Lib.hid hW
  have hzW := hbW.size
  clear hs hbW hW ha hb
  go_enter Try.func26, Try.ntmps26
  go_wp2_with fail
  rw [← HW.out]
  go_region_held3 (fun W => W.cell? ⟨w.heap.size, 0, none⟩ = some (.int .i64 a.1) ∧ W.cell? ⟨w.heap.size, 1, none⟩ = some (.int .i64 a.2) ∧ W.cell? ⟨w.heap.size + 1, 0, none⟩ = some (.int .i64 b.1) ∧ W.cell? ⟨w.heap.size + 1, 1, none⟩ = some (.int .i64 b.2) ∧ w.heap.size + 1 < W.heap.size)
    (first | with_reducible exact HS.out | with_reducible assumption | with_reducible exact four_allocD HS0.out | fail)
    (first
      | (go_at_call 34; refine (cmp_int _ _ _).mono ?_; rintro e w' ⟨rfl, rfl⟩)
      | (go_at_call 33; refine (or_any W.heap.size (sgnI a.2 b.2) (sgnI a.1 b.1) _ (by go_simp) (by go_simp)).mono ?_; rintro e w' ⟨rfl, rfl⟩))
  all_goals
    go_wp2
    go_ret
    exact ⟨ret_int (or_ord a b), 1, _, by rw [HW.out]; exact grow3 _ _ _ _⟩
theorem cmpLaysW (blk off size : Nat) (w : World) : CmpLays Try.prog 26 #[] encW 2 ordW blk off size w :=
  fun _ _ _ _ x y => order_grow x y _

/-- Those that wait, sorted. -/
theorem perm_sorted_eq : ∀ {a b : List Wt}, a.Perm b → a.Pairwise ltW → b.Pairwise ltW → a = b
  | [], b, h, _, _ => by rw [h.symm.eq_nil]
  | x :: a, [], h, _, _ => by have := h.length_eq; simp at this
  | x :: a, y :: b, h, ha, hb => by
    have ha' := List.pairwise_cons.1 ha
    have hb' := List.pairwise_cons.1 hb
    have e : x = y := by
      have h1 : x ∈ y :: b := h.mem_iff.1 (by simp)
      have h2 : y ∈ x :: a := h.mem_iff.2 (by simp)
      rcases List.mem_cons.1 h1 with e | h1
      · exact e
      · rcases List.mem_cons.1 h2 with e | h2
        · exact e.symm
        · exact absurd (ltW_trans (ha'.1 y h2) (hb'.1 x h1)) (ltW_irrefl x)
    subst e
    rw [perm_sorted_eq ((List.perm_cons x).1 h) ha'.2 hb'.2]
theorem flat_wc (d : Array Wt) : flatK encW 2 d = (wc d.toList).toArray := by
  apply Array.ext (by simp [wc_len]; omega)
  intro t h1 h2
  rw [size_flatK] at h1
  have hg := get_flatK encW 2 d t h1
  rw [getElem!_pos _ t (by rw [size_flatK]; exact h1)] at hg
  rw [hg]
  have hd : t / 2 < d.toList.length := by simp; omega
  have hx : d[t / 2]! = gW d.toList (t / 2) := by
    rw [gW_eq hd, getElem!_pos d (t / 2) (by simpa using hd)]
    simp
  rw [hx]
  have e0 := wc_0 d.toList (t / 2) [] hd
  have e1 := wc_1 d.toList (t / 2) [] hd
  rw [List.append_nil] at e0 e1
  have hm : t % 2 = 0 ∨ t % 2 = 1 := by omega
  have hs : (wc d.toList)[t]? = some ((wc d.toList).toArray[t]'h2) := by simp
  rcases hm with hm | hm
  · rw [show t / 2 * 2 = t from by omega] at e0
    rw [e0] at hs
    injection hs with hs
    rw [← hs, hm]; rfl
  · rw [show t / 2 * 2 + 1 = t from by omega] at e1
    rw [e1] at hs
    injection hs with hs
    rw [← hs, hm]; rfl
theorem holds_wc {w : World} {b : Nat} {l : List Wt} (h : HBk w b l []) : HoldsK encW 2 w b 0 l.toArray := by
  intro j hj
  have e : flatK encW 2 l.toArray = (wc l).toArray := flat_wc l.toArray
  rw [e] at hj ⊢
  rw [Nat.zero_add]
  refine ⟨?_, Blk.frozen h j⟩
  have := Blk.cell h j
  rw [this, List.getElem?_toArray, List.append_nil]
  simp at hj
  rw [getElem!_pos _ j (by simpa using hj)]
  simp
theorem sorted_world {w : World} {b n : Nat} {l : List Wt} {d : Array Wt} {os : Array Obj} (hb : HBk w b l []) (hs : d.size = l.length) : HBk (sortWorldK encW 2 w b 0 n d os) b d.toList [] ∧ Only w (sortWorldK encW 2 w b 0 n d os) b := by
  have hlt := Blk.lt hb
  have hsz : (putRowK encW 2 (Sort.ahead w n) b 0 d).heap.size = w.heap.size := by simp [putRowK, putRow, mapBlock, Sort.ahead]
  have hold : ∀ i, i < w.heap.size → (sortWorldK encW 2 w b 0 n d os).heap[i]? = (putRowK encW 2 (Sort.ahead w n) b 0 d).heap[i]? := fun i hi => heap_grow_old _ _ (by rw [hsz]; exact hi)
  refine ⟨?_, rfl, rfl, rfl, ?_, fun i hi hne => ?_⟩
  · unfold HBk Blk
    rw [hold b hlt]
    have h0 : w.heap[b]? = some (.cells (wc l ++ []).toArray 57 (0, 0)) := hb
    have e : putCells id 0 (flatK encW 2 d) (wc l ++ []).toArray = (wc d.toList ++ []).toArray := by
      rw [flat_wc, List.append_nil, List.append_nil]
      apply Array.ext (by simp [putCells, wc_len, hs])
      intro t h1 h2
      simp only [putCells, Array.getElem_mapIdx]
      rw [if_pos (by simp at h2 ⊢; omega)]
      simp
      simp at h2
      rw [List.getElem?_eq_getElem h2]
      rfl
    simp only [putRowK, putRow, mapBlock, Sort.ahead, Array.getElem?_modify, if_pos rfl, h0, Option.map_some, onCells, e, if_true]
  · unfold sortWorldK grow
    simp only [Array.size_append, hsz]
    omega
  · rw [hold i hi]
    have hne' : b ≠ i := fun e => hne (by rw [e])
    simp [putRowK, putRow, mapBlock, Sort.ahead, Array.getElem?_modify, hne']
def SortedTo (b : Nat) (L : List Wt) (w : World) (e : Ending) (w' : World) : Prop := e = .returned (.tuple #[]) ∧ HBk w' b L [] ∧ Only w w' b
theorem sort_any (b cap : Nat) (l L : List Wt) (w : World) (hb : HBk w b l []) (hp : l.Perm L) (hok : OkW L) : Calls Try.prog 25 #[.slice (some ⟨b, 0, none⟩) l.length cap, .func (.func 26) #[] #[]] w fun e w' => SortedTo b L w e w' := by
  have eg : ∀ args w, (callFunc 26 args).run Try.prog w = .ok (.enter 26 args) w := enters_of Try.func26 (by kernel_rfl) rfl
  have hcon := AnyQ.slices_SortFunc sortW 2 Try.isAgg57 Try.sizeOf57 encW (fun _ => rfl) (fun x v hv => by simp [encW] at hv; rcases hv with rfl | rfl <;> rfl) ordW swoW 26 #[] b 0 cap l.toArray w eg (cmpLaysW b 0 l.toArray.size w) (holds_wc hb) (Blk.lt hb) (by have := hok.len; rw [List.size_toArray, hp.length_eq]; omega)
  change Calls Try.prog 25 _ _ _ at hcon
  refine hcon.mono ?_
  rintro e w' ⟨rfl, d', n, os, hpi, hsi, rfl⟩
  obtain ⟨hsz, _, hpe⟩ := hpi
  have hsz' : d'.size = l.length := by simpa using hsz
  have hw := sorted_world (n := n) (os := os) hb hsz'
  have hperm : d'.toList.Perm l := by
    have h1 : (d'.extract 0 l.toArray.size).toList = d'.toList := by simp [← hsz']
    have h2 : (l.toArray.extract 0 l.toArray.size).toList = l := by simp
    rw [h1, h2] at hpe
    exact hpe
  have hL := hperm.trans hp
  have hnd : (d'.toList.map (·.1)).Nodup := (hL.map (·.1)).nodup_iff.2 hok.ids
  have hsd : d'.toList.Pairwise ltW := by
    rw [List.pairwise_iff_getElem]
    intro i j hi hj hij
    have hi' : i < d'.size := by simpa using hi
    have hj' : j < d'.size := by simpa using hj
    have h1 := hsi i j (Nat.zero_le _) hij (by rw [List.size_toArray, ← hsz']; exact hj')
    rw [getElem!_pos d' j hj', getElem!_pos d' i hi', ltOf_ord] at h1
    have h2 : ¬ ltW d'[j] d'[i] := by simpa using h1
    have hne : (d'.toList[i]).1 ≠ (d'.toList[j]).1 := by
      intro e
      have := (List.getElem_inj (i := i) (j := j) (h₀ := by simpa using hi) (h₁ := by simpa using hj) hnd).1 (by simpa using e)
      omega
    simp at hne ⊢
    unfold ltW at h2 ⊢; omega
  have e := perm_sorted_eq hL hsd hok.sorted
  rw [e] at hw
  exact ⟨rfl, hw.1, hw.2⟩
end Go.Proofs.Ytbngcepekaicjaa
