/- Joins of types: places do not matter; what two right types join to is right. Plain lemmas. -/
import Derived.Test.YtjpdbhhjlnmacaaGreatTcM21
import Derived.Test.YtjpdbhhjlnmacaaGreatTcM33
import Derived.Test.YtjpdbhhjlnmacaaGreatTcM35
import Derived.BigQuiet
namespace Go.Proofs.YtjpdbhhjlnmacaaGreat
set_option linter.unusedVariables false
open Go.RowKit

section
variable (v : Ty)
theorem Ty.erase_k : v.erase.k = v.k := by rw [Ty.erase_eq]; rfl
theorem Ty.erase_ns : v.erase.ns = v.ns := by rw [Ty.erase_eq]; rfl
theorem Ty.erase_xs : v.erase.xs = v.xs.map Ty.erase := by rw [Ty.erase_eq]; rfl
end
theorem Ty.count_erase (d : Nat) : ∀ (v : Ty) (n : Nat), v.sz ≤ d → v.erase.count n = v.count n := by
  induction d with
  | zero => intro v n hd; rw [Ty.sz_eq] at hd; omega
  | succ d ih =>
    intro v n hd
    have key : ∀ (xs : List Ty) (m : Nat), (∀ x, x ∈ xs → x.sz ≤ d) → Ty.countAll (xs.map Ty.erase) m = Ty.countAll xs m := fun xs => by
      induction xs with
      | nil => intro m _; rfl
      | cons x xs ihx =>
        intro m hm
        simp only [List.map_cons, Ty.countAll]
        rw [ih x m (hm x (by simp)), ihx _ (fun z hz => hm z (List.mem_cons_of_mem _ hz))]
    rw [Ty.count_eq, Ty.count_eq, Ty.erase_xs]
    exact key v.xs _ (fun x hx => by have := Ty.size_mem hx; omega)
theorem Ty.rightB_erase (d : Nat) : ∀ (v : Ty) (deep : Nat), v.sz ≤ d → v.erase.rightB deep = v.rightB deep := by
  induction d with
  | zero => intro v deep hd; rw [Ty.sz_eq] at hd; omega
  | succ d ih =>
    intro v deep hd
    have key : ∀ (xs : List Ty) (deep : Nat), (∀ x, x ∈ xs → x.sz ≤ d) → Ty.rightAll (xs.map Ty.erase) deep = Ty.rightAll xs deep := fun xs => by
      induction xs with
      | nil => intro deep _; rfl
      | cons x xs ihx =>
        intro deep hm
        simp only [List.map_cons, Ty.rightAll]
        rw [ih x deep (hm x (by simp)), ihx _ (fun z hz => hm z (List.mem_cons_of_mem _ hz))]
    rw [Ty.rightB_eq, Ty.rightB_eq v, Ty.erase_k, Ty.erase_ns, Ty.erase_xs, List.length_map, key v.xs (deep + 1) (fun x hx => by have := Ty.size_mem hx; omega)]
theorem Ty.RightB_erase (v : Ty) : v.erase.RightB = v.RightB := by
  unfold Ty.RightB
  rw [Ty.count_erase v.sz v 0 (Nat.le_refl _), Ty.rightB_erase v.sz v 1 (Nat.le_refl _)]

theorem joinAll_erase (d : Nat) (ih : ∀ a b : Ty, a.sz ≤ d → a.erase.joinT b.erase = a.joinT b) : ∀ (xs ys : List Ty), (∀ x, x ∈ xs → x.sz ≤ d) → Ty.joinAll (xs.map Ty.erase) (ys.map Ty.erase) = Ty.joinAll xs ys
  | [], ys, _ => by simp [Ty.joinAll]
  | x :: xs, [], _ => by simp [Ty.joinAll]
  | x :: xs, y :: ys, h => by
    simp only [List.map_cons, Ty.joinAll]
    rw [ih x y (h x (by simp)), joinAll_erase d ih xs ys (fun z hz => h z (List.mem_cons_of_mem _ hz))]
theorem Ty.ee (v : Ty) : v.erase.erase = v.erase := Ty.erase_erase v.sz v (Nat.le_refl _)
theorem joinT_eraseD (d : Nat) : ∀ a b : Ty, a.sz ≤ d → a.erase.joinT b.erase = a.joinT b := by
  induction d with
  | zero => intro a b hd; rw [Ty.sz_eq] at hd; omega
  | succ d ih =>
    intro a b hd
    rw [Ty.joinT_eq, Ty.joinT_eq a b, Ty.erase_k, Ty.erase_k, Ty.erase_ns, Ty.erase_ns, Ty.ee, Ty.ee, Ty.erase_xs, Ty.erase_xs, joinAll_erase d ih a.xs b.xs (fun x hx => by have := Ty.size_mem hx; omega)]
theorem Ty.joinT_erase (a b : Ty) : a.erase.joinT b.erase = a.joinT b := joinT_eraseD a.sz a b (Nat.le_refl _)
theorem Ty.joinT_eraseL (a b : Ty) : a.erase.joinT b = a.joinT b := by rw [← Ty.joinT_erase a.erase b, Ty.ee, Ty.joinT_erase]
theorem Ty.joinT_eraseR (a b : Ty) : a.joinT b.erase = a.joinT b := by rw [← Ty.joinT_erase a b.erase, Ty.ee, Ty.joinT_erase]
theorem trightAll_of : ∀ {xs : List Ty} {d : Nat}, (∀ x, x ∈ xs → x.rightB d = true) → Ty.rightAll xs d = true
  | [], _, _ => rfl
  | x :: xs, d, h => by
    simp only [Ty.rightAll]
    rw [h x (by simp), trightAll_of (fun z hz => h z (List.mem_cons_of_mem _ hz))]
    rfl
theorem joinAll_each {Q : Ty → Prop} : ∀ (xs ys us : List Ty), Ty.joinAll xs ys = some us → (∀ x, x ∈ xs → ∀ y, y ∈ ys → ∀ u, x.joinT y = some u → Q u) → us.length = xs.length ∧ ∀ u, u ∈ us → Q u
  | [], ys, us, h, _ => by
    simp [Ty.joinAll] at h
    subst h
    exact ⟨rfl, fun u hu => by simp at hu⟩
  | x :: xs, [], us, h, _ => by simp [Ty.joinAll] at h
  | x :: xs, y :: ys, us, h, hq => by
    simp only [Ty.joinAll, Option.bind_eq_some_iff, Option.map_eq_some_iff] at h
    obtain ⟨u, h1, vs, h2, rfl⟩ := h
    obtain ⟨h3, h4⟩ := joinAll_each xs ys vs h2 (fun a ha b hb => hq a (List.mem_cons_of_mem _ ha) b (List.mem_cons_of_mem _ hb))
    refine ⟨by simp [h3], fun z hz => ?_⟩
    rcases List.mem_cons.1 hz with rfl | hz
    · exact hq x (by simp) y (by simp) z h1
    · exact h4 z hz
theorem Ty.rightB_mk (k : Int) (na : Sl) (ns : List ByteArray) (xa : Sl) (xs : List Ty) (deep : Nat) : (Ty.mk k na ns xa xs).rightB deep =
    if 12 < deep then false
    else if k = 5 then decide (ns.length = 0) && decide (xs.length = 1) && Ty.rightAll xs (deep + 1)
    else if k = 6 then decide (ns.length = xs.length) && risingB ns && Ty.rightAll xs (deep + 1)
    else if 1 ≤ k ∧ k ≤ 7 then decide (ns.length = 0) && decide (xs.length = 0)
    else false := Ty.rightB_eq _ _
theorem joinT_rightD (d : Nat) : ∀ (a b v : Ty) (n : Nat), a.sz ≤ d → a.rightB n = true → b.rightB n = true → a.joinT b = some v → v.rightB n = true := by
  induction d with
  | zero => intro a b v n hd; rw [Ty.sz_eq] at hd; omega
  | succ d ih =>
    intro a b v n hd ha hb h
    rw [Ty.joinT_eq] at h
    by_cases h7 : a.k = 7
    · rw [if_pos h7] at h
      injection h with h
      rw [← h, Ty.rightB_erase b.sz b n (Nat.le_refl _)]
      exact hb
    rw [if_neg h7] at h
    by_cases h8 : b.k = 7
    · rw [if_pos h8] at h
      injection h with h
      rw [← h, Ty.rightB_erase a.sz a n (Nat.le_refl _)]
      exact ha
    rw [if_neg h8] at h
    by_cases hkn : a.k = b.k ∧ a.ns = b.ns
    case neg => rw [if_neg hkn] at h; cases h
    rw [if_pos hkn, Option.map_eq_some_iff] at h
    obtain ⟨us, hus, rfl⟩ := h
    rw [Ty.rightB_eq] at ha
    rw [Ty.rightB_mk]
    rw [Ty.rightB_eq, ← hkn.1, ← hkn.2] at hb
    have hsub : ∀ m, Ty.rightAll a.xs m = true → Ty.rightAll b.xs m = true → us.length = a.xs.length ∧ Ty.rightAll us m = true := fun m h1 h2 => by
      obtain ⟨h3, h4⟩ := joinAll_each (Q := fun u => u.rightB m = true) a.xs b.xs us hus (fun x hx y hy u hu => ih x y u m (by have := Ty.size_mem hx; omega) (trightAll_mem h1 x hx) (trightAll_mem h2 y hy) hu)
      exact ⟨h3, trightAll_of h4⟩
    split at ha
    · cases ha
    rename_i h12
    rw [if_neg h12] at hb ⊢
    split at ha
    · rename_i h5
      rw [if_pos h5] at hb ⊢
      simp only [Bool.and_eq_true, decide_eq_true_eq] at ha hb ⊢
      obtain ⟨h3, h4⟩ := hsub _ ha.2 hb.2
      exact ⟨⟨ha.1.1, by rw [h3]; exact ha.1.2⟩, h4⟩
    rename_i h5
    rw [if_neg h5] at hb ⊢
    split at ha
    · rename_i h6
      rw [if_pos h6] at hb ⊢
      simp only [Bool.and_eq_true, decide_eq_true_eq] at ha hb ⊢
      obtain ⟨h3, h4⟩ := hsub _ ha.2 hb.2
      exact ⟨⟨by rw [h3]; exact ha.1.1, ha.1.2⟩, h4⟩
    rename_i h6
    rw [if_neg h6] at hb ⊢
    split at ha
    · rename_i hr
      rw [if_pos hr] at hb ⊢
      simp only [Bool.and_eq_true, decide_eq_true_eq] at ha hb ⊢
      obtain ⟨h3, h4⟩ := joinAll_each (Q := fun _ => True) a.xs b.xs us hus (fun _ _ _ _ _ _ => trivial)
      exact ⟨ha.1, by rw [h3]; exact ha.2⟩
    · cases ha
theorem joinT_right {a b v : Ty} {n : Nat} (ha : a.rightB n = true) (hb : b.rightB n = true) (h : a.joinT b = some v) : v.rightB n = true := joinT_rightD a.sz a b v n (Nat.le_refl _) ha hb h
end Go.Proofs.YtjpdbhhjlnmacaaGreat

/- types.own of any type: the same in memory of its own. -/
namespace Go.Proofs.YtjpdbhhjlnmacaaGreat
set_option linter.unusedVariables false
open Go.RowKit

def Owned (t : Ty) (w : World) (e : Ending) (w' : World) : Prop := ∃ u : Ty, e = .returned u.agg ∧ u.erase = t.erase ∧ u.In w' ∧ u.Sep (fun b => w.heap.size ≤ b) ∧ Below w.heap.size w w'
set_option maxHeartbeats 8000000 in
set_option maxRecDepth 100000 in
theorem own_step (d : Nat) (ih : ∀ (t : Ty) (w : World), t.sz ≤ d → t.In w → Calls Tryz.prog 31 #[t.agg] w fun e w' => Owned t w e w') (t : Ty) (w : World) (hd : t.sz ≤ d + 1) (ht : t.In w) : Calls Tryz.prog 31 #[t.agg] w fun e w' => Owned t w e w' := by
  obtain ⟨W, hW⟩ : ∃ W, W = (w.alloc (.cells #[.int .i64 t.k, t.na.val t.ns.length, t.xa.val t.xs.length] 36)).alloc (.cells #[.int .i64 0, .slice none 0 0, .slice none 0 0] 36) := ⟨_, rfl⟩
  have hBW : Below w.heap.size w W := by rw [hW]; exact ((Below.refl _ w).alloc (Nat.le_refl _) _).alloc (by simp) _
  have hb : Blk W w.heap.size 36 #[.int .i64 t.k, t.na.val t.ns.length, t.xa.val t.xs.length] := by rw [hW]; exact (Blk.new w 36 _).alloc _
  have hbr : Blk W (w.heap.size + 1) 36 #[.int .i64 0, .slice none 0 0, .slice none 0 0] := by
    rw [hW]
    have := Blk.new (w.alloc (.cells #[.int .i64 t.k, t.na.val t.ns.length, t.xa.val t.xs.length] 36)) 36 #[.int .i64 0, .slice none 0 0, .slice none 0 0]
    rw [show (w.alloc (.cells #[.int .i64 t.k, t.na.val t.ns.length, t.xa.val t.xs.length] 36)).heap.size = w.heap.size + 1 from by simp] at this
    exact this
  have hWS : W.heap.size = w.heap.size + 2 := by rw [hW]; simp
  have hcl := clone_any _ t.ns W (TNamesAt.of (ht.below hBW)) ht.ok.2.1
  obtain ⟨p4, q4, e4⟩ := ht.nslice
  obtain ⟨p5, q5, e5, hx⟩ := titems_at ht
  rw [e4, e5] at hW hb
  rw [e4] at hcl
  unfold Ty.agg
  rw [e4, e5]
  obtain ⟨A, hA⟩ : ∃ A, A = w.heap.size := ⟨_, rfl⟩
  rw [← hA] at hb hbr hWS
  obtain ⟨M, hM⟩ : ∃ M, M = t.xs.length := ⟨_, rfl⟩
  rw [← hM] at hW hb ⊢
  have hMb : M ≤ 2513169434843 := by rw [hM]; exact ht.ok.2.2.1
  have c0 := hb.cell 0; have c1 := hb.cell 1; have c2 := hb.cell 2; have f1 := hb.frozen 1
  simp at c0 c1 c2
  obtain ⟨i0, hi0, hz0, hz1, hz2⟩ := info_parts tty_facts'
  have HW := Lib.hid hW; have HBW := Lib.hid hBW; have HB := Lib.hid hb; have HBR := Lib.hid hbr; have HA := Lib.hid hA; have HX := Lib.hid hx; have HM := Lib.hid hM; have HIH := Lib.hid ih; have HOK := Lib.hid ht.ok; have HCL := Lib.hid hcl; have HWS := Lib.hid hWS
  have HMM := Lib.hid (show ∀ y, y ∈ t.xs → y.sz ≤ d from fun y hy => by have := Ty.size_mem hy; omega)
  clear hW hBW hb hbr hA hx hM ih ht hcl hd hWS e4 e5
  go_enter Tryz.func31, Tryz.ntmps31
  go_wp2_with fail
  rw [← HW.out, ← HA.out]
  refine HCL.out.mono ?_
  rintro e w3 ⟨sn, rfl, hlie, hsep, hb3⟩
  obtain ⟨p6, q6, e6⟩ := hlie.slice
  rw [e6]
  have hbA := HB.out.below hb3 HB.out.lt
  have hbR := HBR.out.below hb3 HBR.out.lt
  clear c0 c1 c2 f1
  have c1 := hbA.cell 1; have f1 := hbA.frozen 1
  simp at c1
  obtain ⟨W4, hW4⟩ : ∃ W4, W4 = w3.setCell ⟨A, 1, none⟩ (.slice p6 t.ns.length q6) := ⟨_, rfl⟩
  have hbA4 : Blk W4 A 36 #[.int .i64 t.k, .slice p6 t.ns.length q6, .slice p5 M q5] := by rw [hW4]; exact hbA.set_ 1 _
  have hbR4 : Blk W4 (A + 1) 36 #[.int .i64 0, .slice none 0 0, .slice none 0 0] := by rw [hW4]; exact hbR.far (p := ⟨A, 1, none⟩) (by simp) _
  have hB4 : Below w.heap.size w W4 := by rw [hW4]; exact (HBW.out.trans (hb3.mono HBW.out.size)).setCell (p := ⟨A, 1, none⟩) (by show w.heap.size ≤ A; have := HA.out; omega) _
  have hz4 : W4.heap.size = w3.heap.size := by rw [hW4]; simp [World.setCell]
  have hz3 := hb3.size
  have hlie4 : sn.lies W4 1 t.ns.length (fun i => [.string (t.ns.getD i ByteArray.empty)]) := by
    refine hlie.carryS hsep (fun b o hb _ => ?_) (by omega)
    rw [hW4]
    exact World.cell?_setCell_other w3 ⟨A, 1, none⟩ ⟨b, o, none⟩ _ (fun e => by injection e with e _; have := HB.out.lt; omega)
  have HW4 := Lib.hid hW4; have HA4 := Lib.hid hbA4; have HR4 := Lib.hid hbR4; have HB4 := Lib.hid hB4; have HLI := Lib.hid hlie4; have HSP := Lib.hid hsep; have E6 := Lib.hid e6
  have hW34 : W.heap.size ≤ W4.heap.size := by omega
  clear hW4 hbA4 hbR4 hB4 hlie4 hsep e6 hlie hbA hbR hb3 hz4 hz3
  go_upto_region 2 with fail
  rw [← HW4.out]
  clear c1 f1
  have c2 := HA4.out.cell 2
  simp at c2
  go_wp2_with fail
  clear c2
  go_loopw [3, 13] (fun sv iv wr => ∃ (i : Nat) (us : List Ty) (ax : Option Addr) (cx : Nat), sv = .slice ax us.length cx ∧ iv = .int .i64 (i : Int) ∧ i ≤ M ∧ Hid (us.length = i) ∧ Hid (us.map Ty.erase = (t.xs.take i).map Ty.erase) ∧
    Hid (Rowed tyE (fun _ => False) W4.heap.size 36 wr us (.slice ax us.length cx)) ∧ Hid (Below W4.heap.size W4 wr)) (fun _ iv _ => M - (intOf iv).toNat)
  case atStart => exact ⟨0, [], none, 0, rfl, rfl, by omega, Lib.hid rfl, Lib.hid rfl, Lib.hid (rowed_start _), Lib.hid (Below.refl _ _)⟩
  case round =>
    obtain ⟨i, us, ax, cx, rfl, rfl, hi, HUL, HUE, HG, HBL⟩ := hrel
    have hbw : Below w.heap.size w wr := HB4.out.trans (HBL.out.mono HB4.out.size)
    have HBW4 := Lib.hid hbw
    clear hbw
    by_cases hlt : i < M
    · have hil : i < t.xs.length := by rw [← HM.out]; exact hlt
      obtain ⟨xb, xo, rfl, hpx0, hlc⟩ := HX.out i hil
      rw [← HM.out] at hlc
      obtain ⟨x, hxx⟩ : ∃ x, x = t.xs[i]'hil := ⟨_, rfl⟩
      have htk : (t.xs.take (i + 1)).map Ty.erase = (t.xs.take i).map Ty.erase ++ [x.erase] := by rw [List.take_succ_eq_append_getElem hil, List.map_append, hxx]; rfl
      have hxs := HMM.out (t.xs[i]'hil) (by simp)
      rw [← hxx] at hpx0 hxs
      have hpx := hpx0.below HBW4.out
      have u0 := hpx.c0; have u1 := hpx.c1; have u2 := hpx.c2
      obtain ⟨k4, l4, f4⟩ := hpx.in.nslice
      obtain ⟨k5, l5, f5⟩ := hpx.in.xslice
      rw [f4] at u1; rw [f5] at u2
      obtain ⟨W5, hW5⟩ : ∃ W5, W5 = wr.alloc (.cells #[.int .i64 x.k, .slice k4 x.ns.length l4, .slice k5 x.xs.length l5] 36) := ⟨_, rfl⟩
      have hb5 : Below wr.heap.size wr W5 := by rw [hW5]; exact (Below.refl _ _).alloc (Nat.le_refl _) _
      have hbx5 : Blk W5 wr.heap.size 36 #[.int .i64 x.k, .slice k4 x.ns.length l4, .slice k5 x.xs.length l5] := by rw [hW5]; exact Blk.new wr 36 _
      have hc := HIH.out x W5 hxs (hpx.in.below hb5)
      unfold Ty.agg at hc
      rw [f4, f5] at hc
      have hk0 : (0 : Int) ≤ (i : Int) := by omega
      have hk1 : (i : Int) < (M : Int) := by omega
      have hbxl := hpx.2.1
      have HC := Lib.hid hc; have HW5 := Lib.hid hW5; have HB5 := Lib.hid hb5; have HBX := Lib.hid hbx5; have HTK := Lib.hid htk
      have hzr : W4.heap.size ≤ wr.heap.size := HBL.out.size
      clear hc hW5 hb5 hbx5 htk hpx hpx0 hxx hxs hil f4 f5
      go_upto_region 6 with fail
      rw [← HW5.out]
      clear u0 u1 u2
      have u0 := HBX.out.cell 0; have u1 := HBX.out.cell 1; have u2 := HBX.out.cell 2
      simp at u0 u1 u2
      go_wp2_with fail
      refine HC.out.mono ?_
      rintro e w6 ⟨u, rfl, hue, hui, hus, hb6⟩
      obtain ⟨a4, b4, g4⟩ := hui.nslice
      obtain ⟨a5, b5, g5⟩ := hui.xslice
      unfold Ty.agg
      rw [g4, g5]
      have hb06 := HB5.out.trans (hb6.mono HB5.out.size)
      have hz6 := hb06.size
      have hg6 := HG.out.below hb06
      have hus2 : u.Sep (fun b => False ∨ wr.heap.size ≤ b) := hus.mono (fun b hb => .inr (by have := HB5.out.size; omega))
      have hred : Reads (w6.alloc (.cells #[.int .i64 u.k, .slice a4 u.ns.length b4, .slice a5 u.xs.length b5] 36)) (w6.heap.size + 1) 3 (some ⟨w6.heap.size, 0, none⟩) 1 u.cells := by
        unfold Ty.cells; rw [g4, g5]; exact row_reads w6 _ 36
      have hown6 := hg6.items.alloc (.cells #[.int .i64 u.k, .slice a4 u.ns.length b4, .slice a5 u.xs.length b5] 36)
      have hxz : ∀ b, (Value.slice ax us.length cx).ownBlock = some b → b < wr.heap.size := fun b hb => (HG.out.items.lt b hb).2
      have HG6 := Lib.hid hg6; have HRED := Lib.hid hred; have HOWN6 := Lib.hid hown6; have HUI := Lib.hid hui; have HUS := Lib.hid hus2; have HUER := Lib.hid hue; have HXZ := Lib.hid hxz; have HBL6 := Lib.hid (HBL.out.trans (hb06.mono hzr))
      have hul : us.length ≤ M := by rw [HUL.out]; exact hi
      clear hg6 hred hown6 hui hus hus2 hue hxz hb6 hb06 g4 g5 u0 u1 u2
      go_wp2_with (at_builtin; refine wpList_append_any _ rfl _ _ 34 rfl W4.heap.size 36 i0 (.agg #[.int .i64 0, .slice none 0 0, .slice none 0 0]) 3 56 Tryz.underlying34 hi0 hz0 hz1 hz2 rfl (by decide) _ us.length (tyE.row us) rfl HOWN6.out (w6.heap.size + 1) _ 1 _ u.cells rfl HRED.out (tyE.one u) ?c1 ?c2 ?c3 ?_)
      case c1 => unfold maxLen; omega
      case c2 => omega
      case c3 => simp; omega
      intro v' w8 hown' hgrow hor
      have hg8 := Rowed.item (Rowed.below HG6.out ((Below.refl _ w6).alloc (Nat.le_refl _) (.cells #[.int .i64 u.k, .slice a4 u.ns.length b4, .slice a5 u.xs.length b5] 36))) (fun b hb => hb.elim) (by simp; omega) (HUI.out.below ((Below.refl _ w6).alloc (Nat.le_refl _) (.cells #[.int .i64 u.k, .slice a4 u.ns.length b4, .slice a5 u.xs.length b5] 36))) HUS.out hzr HXZ.out hown' hgrow (by simpa using hor)
      have hb8 := (HBL6.out.alloc HBL6.out.size (.cells #[.int .i64 u.k, .slice a4 u.ns.length b4, .slice a5 u.xs.length b5] 36)).grown hgrow (by have := HBL6.out.size; simp; omega) (fun k hk => own_ge HG6.out.items hk)
      obtain ⟨ax', cx', rfl⟩ := row_form hown'
      have HG8 := Lib.hid hg8; have HB8 := Lib.hid hb8
      clear hg8 hb8 hown' hgrow hor
      go_wp2
      go_roundw
      case rel => exact ⟨i + 1, us ++ [u], ax', cx', by simp, by go_num, by omega, Lib.hid (by simp [HUL.out]), Lib.hid (by rw [List.map_append, HUE.out, HTK.out, List.map_cons, List.map_nil, HUER.out]), by simpa using HG8, HB8⟩
      case measure => simp [intOf]; omega
    · obtain rfl : i = M := by omega
      have hA4 := HA4.out.below HBL.out HA4.out.lt
      have hR4 := HR4.out.below HBL.out HR4.out.lt
      have a0 := hA4.cell 0; have a1 := hA4.cell 1; have a2 := hA4.cell 2; have fa2 := hA4.frozen 2
      have hAs := hA4.set_ 2 (.slice ax us.length cx)
      have d0 := hAs.cell 0; have d1 := hAs.cell 1; have d2 := hAs.cell 2
      have hRs := hR4.far (p := ⟨A, 2, none⟩) (by simp) (.slice ax us.length cx)
      have r0 := hRs.cell 0; have r1 := hRs.cell 1; have r2 := hRs.cell 2
      have s0 := hRs.frozen 0; have s1 := hRs.frozen 1; have s2 := hRs.frozen 2
      simp at a0 a1 a2 d0 d1 d2 r0 r1 r2
      obtain ⟨WF, hWF⟩ : ∃ WF, WF = (((wr.setCell ⟨A, 2, none⟩ (.slice ax us.length cx)).setCell ⟨A + 1, 0, none⟩ (.int .i64 t.k)).setCell ⟨A + 1, 1, none⟩ (.slice p6 t.ns.length q6)).setCell ⟨A + 1, 2, none⟩ (.slice ax us.length cx) := ⟨_, rfl⟩
      have hF : Blk WF (A + 1) 36 #[.int .i64 t.k, .slice p6 t.ns.length q6, .slice ax us.length cx] := by rw [hWF]; exact blk3_set hRs _ _ _
      have hBF : Below w.heap.size w WF := by
        rw [hWF]
        exact below3_set (HBW4.out.setCell (p := ⟨A, 2, none⟩) (by show w.heap.size ≤ A; have := HA.out; omega) _) (by have := HA.out; omega) _ _ _
      have hg2 : Rowed tyE (fun _ => False) W4.heap.size 36 WF us (.slice ax us.length cx) := by
        rw [hWF]
        have hl := HR4.out.lt
        exact (((HG.out.set_ (p := ⟨A, 2, none⟩) (fun b hb => hb.elim) (by show A < _; omega) _).set_ (p := ⟨A + 1, 0, none⟩) (fun b hb => hb.elim) hl _).set_ (p := ⟨A + 1, 1, none⟩) (fun b hb => hb.elim) hl _).set_ (p := ⟨A + 1, 2, none⟩) (fun b hb => hb.elim) hl _
      obtain ⟨sx, hsx, hlx, hspx⟩ := trowLies_of_own hg2.items
      have hsn : sn.lies WF 1 t.ns.length (fun i => [.string (t.ns.getD i ByteArray.empty)]) := by
        have h1 : sn.lies wr 1 t.ns.length (fun i => [.string (t.ns.getD i ByteArray.empty)]) := HLI.out.carry (fun b o hlt => HBL.out.cell (p := ⟨b, o, none⟩) hlt) HBL.out.size
        refine h1.carryS HSP.out (fun b o hb _ => ?_) (by rw [hWF]; simp [World.setCell])
        have hne : ∀ (c k : Nat), c = A ∨ c = A + 1 → (⟨c, k, none⟩ : Addr) ≠ ⟨b, o, none⟩ := fun c k hc e => by injection e with e _; have := HBR.out.lt; omega
        rw [hWF, World.cell?_setCell_other _ _ _ _ (hne _ 2 (.inr rfl)), World.cell?_setCell_other _ _ _ _ (hne _ 1 (.inr rfl)), World.cell?_setCell_other _ _ _ _ (hne _ 0 (.inr rfl)), World.cell?_setCell_other _ _ _ _ (hne _ 2 (.inl rfl))]
      have hfin : Owned t w (.returned (.agg #[.int .i64 t.k, .slice p6 t.ns.length q6, .slice ax us.length cx])) WF := by
        refine ⟨.mk t.k sn t.ns sx us, ?_, ?_, ?_, ?_, hBF⟩
        · show _ = Ending.returned (.agg #[.int .i64 t.k, sn.val t.ns.length, sx.val us.length])
          rw [← hsx, E6.out]
        · rw [Ty.erase_eq, Ty.erase_eq t]
          show Ty.mk t.k .no t.ns .no (us.map Ty.erase) = _
          rw [HUE.out, HM.out, List.take_length]
        · rw [Ty.in_iff]
          exact ⟨⟨HOK.out.1, HOK.out.2.1, by show us.length ≤ _; rw [HUL.out]; omega, HOK.out.2.2.2⟩, hsn, hlx, fun y hy => (hg2.each y hy).1⟩
        · rw [Ty.sep_iff]
          have hw2 : w.heap.size ≤ W.heap.size := HBW.out.size
          exact ⟨HSP.out.mono (fun b hb => by omega), hspx.mono (fun b hb => by omega), fun y hy => (hg2.each y hy).2.mono (fun b hb => by rcases hb.1 with h | h; exact h.elim; omega)⟩
      have HWF := Lib.hid hWF; have HF := Lib.hid hF; have HFIN := Lib.hid hfin
      have t1 : decide ((i : Int) < (i : Int)) = false := by simp
      clear hWF hF hfin hBF hg2 hsx hlx hspx hsn hAs hRs hA4 hR4 hlt
      go_wp2_with fail
      rw [← HWF.out]
      clear a0 a1 a2 fa2 d0 d1 d2 r0 r1 r2 s0 s1 s2
      have f0 := HF.out.cell 0; have f1 := HF.out.cell 1; have f2 := HF.out.cell 2
      simp at f0 f1 f2
      refine bodyPost_ret (v := .agg #[.int .i64 t.k, .slice p6 t.ns.length q6, .slice ax us.length cx]) (by simp [results, Tryz.results31, go_sem, f0, f1, f2]) rfl ?_
      exact HFIN.out
theorem own_any : ∀ (d : Nat) (t : Ty) (w : World), t.sz ≤ d → t.In w → Calls Tryz.prog 31 #[t.agg] w fun e w' => Owned t w e w'
  | 0, t, w, hd, _ => by rw [Ty.sz_eq] at hd; omega
  | d + 1, t, w, hd, h => own_step d (fun t w h1 h2 => own_any d t w h1 h2) t w hd h
end Go.Proofs.YtjpdbhhjlnmacaaGreat

/- The document's parser: its state, the next sign. -/
namespace Go.Proofs.YtjpdbhhjlnmacaaGreat
set_option linter.unusedVariables false
open Go.RowKit

/-- A parser that has no error: at token i, d within one another. -/
structure PS (w : World) (p : Nat) (tp : Option Addr) (tc : Nat) (ts : List Tok) (en i d : Nat) : Prop where
  blk : Blk w p 97 #[.slice tp ts.length tc, .int .i64 (i : Int), .int .i64 (en : Int), .int .i64 0, .int .i64 0, .int .i64 (d : Int)]
  toks : Toks w tp tc ts
  apart : ∀ g o m, tp = some ⟨g, o, m⟩ → ts.length = 0 ∨ g ≠ p
def tokIs (ts : List Tok) (i : Nat) (s : ByteArray) : Bool := match ts[i]? with
  | some t => decide (t.k = 6) && (t.s.toList == s.toList)
  | none => false
section
variable {w w' : World} {p : Nat} {tp : Option Addr} {tc : Nat} {ts : List Tok} {en i d : Nat}
theorem PS.keep {i' d' : Nat} (h : PS w p tp tc ts en i d) (hb : Blk w' p 97 #[.slice tp ts.length tc, .int .i64 (i' : Int), .int .i64 (en : Int), .int .i64 0, .int .i64 0, .int .i64 (d' : Int)]) (ho : Only w w' p) : PS w' p tp tc ts en i' d' :=
  ⟨hb, ⟨h.toks.cap, fun k hk => by
    obtain ⟨g, a, b, c⟩ := h.toks.at_ k hk
    refine ⟨g, a, Nat.lt_of_lt_of_le b ho.size, fun j hj => ?_⟩
    rcases h.apart g 0 none a with h0 | h0
    · omega
    · rw [← c j hj]
      exact World.cell?_of_block (a := ⟨g, k * 6 + j, none⟩) (ho.block g b (by simpa using h0))⟩, h.apart⟩
theorem PS.below (h : PS w p tp tc ts en i d) (hb : Below w.heap.size w w') : PS w' p tp tc ts en i d :=
  h.keep (h.blk.below hb h.blk.lt) (Only.of_below hb p)
theorem PS.drewN (h : PS w p tp tc ts en i d) (n : Nat) : PS (w.drewN n) p tp tc ts en i d := h.keep h.blk ((Only.refl w p).drewN n)

set_option maxHeartbeats 2000000 in
set_option maxRecDepth 100000 in
theorem is_at (s : ByteArray) (h : PS w p tp tc ts en i d) : Calls Tryz.prog 113 #[.pointer (some ⟨p, 0, none⟩), .string s] w fun e w' => e = .returned (.bool (tokIs ts i s)) ∧ ∃ n, w' = w.drewN n := by
  obtain ⟨R, hR⟩ : ∃ R, R = tokIs ts i s := ⟨_, rfl⟩
  rw [← hR]
  unfold tokIs at hR
  have c0 := h.blk.cell 0; have c1 := h.blk.cell 1; have c3 := h.blk.cell 3
  simp at c0 c1 c3
  have hcap := h.toks.cap
  by_cases hlt : i < ts.length
  · obtain ⟨g, a, b, c⟩ := h.toks.at_ i hlt
    obtain ⟨t, ht⟩ : ∃ t, t = ts[i]'hlt := ⟨_, rfl⟩
    rw [List.getElem?_eq_getElem hlt, ← ht] at hR
    rw [← ht] at c
    have t0 := c 0 (by omega); have t5 := c 5 (by omega)
    simp only [Tok.cells, List.getElem?_cons_zero, List.getElem?_cons_succ, Nat.add_zero] at t0 t5
    have g1 : decide ((i : Int) < (ts.length : Int)) = true := by simp; omega
    have g2 : (i : Int) < (ts.length : Int) := by omega
    have g3 : (0 : Int) ≤ (i : Int) := by omega
    subst a
    by_cases hk : t.k = 6
    · have g4 : (t.k == 6) = true := by simpa using hk
      obtain ⟨E, hE⟩ : ∃ E, E = (t.s.toList == s.toList) := ⟨_, rfl⟩
      have HR : Hid (R = E) := Lib.hid (by rw [hR, hE]; simp [hk])
      have g5 : (t.s.toList == s.toList) = E := hE.symm
      clear hR ht c h hE hk
      go_enter Tryz.func113, Tryz.ntmps113
      try simp only [lapp_cons, lapp_nil]
      cases E
      all_goals
        go_wp2_with fail
        go_quiet (fail)
        go_wp2_with fail
        go_ret
        exact ⟨by rw [HR.out]; simp, _, rfl⟩
    · have g4 : (t.k == 6) = false := by simpa using hk
      have HR : Hid (R = false) := Lib.hid (by rw [hR]; simp [hk])
      clear hR ht c h hk
      go_enter Tryz.func113, Tryz.ntmps113
      try simp only [lapp_cons, lapp_nil]
      go_wp2_with fail
      go_quiet (fail)
      go_wp2_with fail
      go_ret
      exact ⟨by rw [HR.out]; simp, _, rfl⟩
  · have g1 : decide ((i : Int) < (ts.length : Int)) = false := by simp; omega
    have HR : Hid (R = false) := Lib.hid (by rw [hR, List.getElem?_eq_none (by omega)])
    clear hR h
    go_enter Tryz.func113, Tryz.ntmps113
    try simp only [lapp_cons, lapp_nil]
    go_wp2_with fail
    go_quiet (fail)
    go_wp2_with fail
    go_ret
    exact ⟨by rw [HR.out]; simp, _, rfl⟩

set_option maxHeartbeats 1000000 in
set_option maxRecDepth 100000 in
theorem take_at (s : ByteArray) (h : PS w p tp tc ts en i d) (hi : i < 9223372036854775807) : Calls Tryz.prog 93 #[.pointer (some ⟨p, 0, none⟩), .string s] w fun e w' => e = .returned (.bool (tokIs ts i s)) ∧ PS w' p tp tc ts en (if tokIs ts i s then i + 1 else i) d ∧ Only w w' p := by
  have hq := is_at s h
  obtain ⟨T, hT⟩ : ∃ T, T = tokIs ts i s := ⟨_, rfl⟩
  rw [← hT] at hq ⊢
  have H := Lib.hid h; have HIS := Lib.hid hq
  clear h hq hT
  go_enter Tryz.func93, Tryz.ntmps93
  go_wp2_with fail
  refine HIS.out.mono ?_
  cases T with
  | false =>
    rintro e w1 ⟨rfl, n, rfl⟩
    go_wp2_with fail
    go_ret
    exact ⟨rfl, H.out.drewN n, (Only.refl w p).drewN n⟩
  | true =>
    rintro e w1 ⟨rfl, n, rfl⟩
    obtain ⟨W, hW⟩ : ∃ W, W = w.drewN n := ⟨_, rfl⟩
    rw [← hW]
    have h1 : PS W p tp tc ts en i d := by rw [hW]; exact H.out.drewN n
    have ho : Only w W p := by rw [hW]; exact (Only.refl w p).drewN n
    have c1 := h1.blk.cell 1
    simp at c1
    have d1 := h1.blk.frozen 1
    have h2 : PS (W.setCell ⟨p, 1, none⟩ (.int .i64 ((i : Int) + 1))) p tp tc ts en (i + 1) d := h1.keep (h1.blk.set_ 1 (.int .i64 ((i + 1 : Nat) : Int))) ((Only.refl W p).set_ (p := ⟨p, 1, none⟩) (.inl rfl) _)
    have ho2 : Only w (W.setCell ⟨p, 1, none⟩ (.int .i64 ((i : Int) + 1))) p := ho.set_ (p := ⟨p, 1, none⟩) (.inl rfl) _
    have H2 := Lib.hid h2; have HO2 := Lib.hid ho2
    clear hW h1 ho h2 ho2
    go_wp2_with fail
    go_ret
    exact ⟨rfl, H2.out, HO2.out⟩

set_option maxHeartbeats 1000000 in
set_option maxRecDepth 100000 in
theorem want_at (s : ByteArray) (h : PS w p tp tc ts en i d) (hi : i < 9223372036854775807) (ht : tokIs ts i s = true) : Calls Tryz.prog 94 #[.pointer (some ⟨p, 0, none⟩), .string s] w fun e w' => e = .returned (.tuple #[]) ∧ PS w' p tp tc ts en (i + 1) d ∧ Only w w' p := by
  have HT := take_at s h hi
  rw [ht, if_pos rfl] at HT
  have HTK := Lib.hid HT
  clear h HT ht
  go_enter Tryz.func94, Tryz.ntmps94
  go_wp2_with fail
  refine HTK.out.mono ?_
  rintro e w1 ⟨rfl, h1, h2⟩
  have H1 := Lib.hid h1; have H2 := Lib.hid h2
  clear h1 h2
  go_wp2_with fail
  go_end0
  exact ⟨rfl, H1.out, H2.out⟩

set_option maxHeartbeats 1000000 in
set_option maxRecDepth 100000 in
theorem down_at (h : PS w p tp tc ts en i d) (hd : d < 100) : Calls Tryz.prog 91 #[.pointer (some ⟨p, 0, none⟩)] w fun e w' => e = .returned (.tuple #[]) ∧ w' = w.setCell ⟨p, 5, none⟩ (.int .i64 ((d : Int) + 1)) ∧ PS w' p tp tc ts en i (d + 1) ∧ Only w w' p := by
  have c5 := h.blk.cell 5
  simp at c5
  have d5 := h.blk.frozen 5
  have g1 : decide ((100 : Int) < (d : Int) + 1) = false := by simp; omega
  have h2 : PS (w.setCell ⟨p, 5, none⟩ (.int .i64 ((d : Int) + 1))) p tp tc ts en i (d + 1) := h.keep (h.blk.set_ 5 (.int .i64 ((d + 1 : Nat) : Int))) ((Only.refl w p).set_ (p := ⟨p, 5, none⟩) (.inl rfl) _)
  have ho2 : Only w (w.setCell ⟨p, 5, none⟩ (.int .i64 ((d : Int) + 1))) p := (Only.refl w p).set_ (p := ⟨p, 5, none⟩) (.inl rfl) _
  have H2 := Lib.hid h2; have HO2 := Lib.hid ho2
  clear h h2 ho2
  go_enter Tryz.func91, Tryz.ntmps91
  go_wp2_with fail
  go_end0
  exact ⟨rfl, rfl, H2.out, HO2.out⟩
end
end Go.Proofs.YtjpdbhhjlnmacaaGreat
