/- Joins of types: places do not matter; what two right types join to is right. Plain lemmas. -/
import Derived.Test.YtjpdbhhjlnmacaaGreatTpM27
import Derived.Test.YtjpdbhhjlnmacaaGreatTpM28
import Derived.Test.YtjpdbhhjlnmacaaGreatTpM33
import Derived.Test.YtjpdbhhjlnmacaaGreatTpM36
import Derived.BigQuiet
namespace Go.Proofs.YtjpdbhhjlnmacaaGreat
set_option linter.unusedVariables false
open Go.RowKit

section
variable (v : Ty)
theorem Ty.erase_k : v.erase.k = v.k := by rw [Ty.erase_eq]; rfl
theorem Ty.erase_ns : v.erase.ns = v.ns := by rw [Ty.erase_eq]; rfl
theorem Ty.erase_xs : v.erase.xs = v.xs.map Ty.erase := by rw [Ty.erase_eq]; rfl
end
theorem Ty.count_erase (d : Nat) : ∀ (v : Ty) (n : Nat), v.sz ≤ d → v.erase.count n = v.count n := by
  induction d with
  | zero => intro v n hd; rw [Ty.sz_eq] at hd; omega
  | succ d ih =>
    intro v n hd
    have key : ∀ (xs : List Ty) (m : Nat), (∀ x, x ∈ xs → x.sz ≤ d) → Ty.countAll (xs.map Ty.erase) m = Ty.countAll xs m := fun xs => by
      induction xs with
      | nil => intro m _; rfl
      | cons x xs ihx =>
        intro m hm
        simp only [List.map_cons, Ty.countAll]
        rw [ih x m (hm x (by simp)), ihx _ (fun z hz => hm z (List.mem_cons_of_mem _ hz))]
    rw [Ty.count_eq, Ty.count_eq, Ty.erase_xs]
    exact key v.xs _ (fun x hx => by have := Ty.size_mem hx; omega)
theorem Ty.rightB_erase (d : Nat) : ∀ (v : Ty) (deep : Nat), v.sz ≤ d → v.erase.rightB deep = v.rightB deep := by
  induction d with
  | zero => intro v deep hd; rw [Ty.sz_eq] at hd; omega
  | succ d ih =>
    intro v deep hd
    have key : ∀ (xs : List Ty) (deep : Nat), (∀ x, x ∈ xs → x.sz ≤ d) → Ty.rightAll (xs.map Ty.erase) deep = Ty.rightAll xs deep := fun xs => by
      induction xs with
      | nil => intro deep _; rfl
      | cons x xs ihx =>
        intro deep hm
        simp only [List.map_cons, Ty.rightAll]
        rw [ih x deep (hm x (by simp)), ihx _ (fun z hz => hm z (List.mem_cons_of_mem _ hz))]
    rw [Ty.rightB_eq, Ty.rightB_eq v, Ty.erase_k, Ty.erase_ns, Ty.erase_xs, List.length_map, key v.xs (deep + 1) (fun x hx => by have := Ty.size_mem hx; omega)]
theorem Ty.RightB_erase (v : Ty) : v.erase.RightB = v.RightB := by
  unfold Ty.RightB
  rw [Ty.count_erase v.sz v 0 (Nat.le_refl _), Ty.rightB_erase v.sz v 1 (Nat.le_refl _)]

theorem joinAll_erase (d : Nat) (ih : ∀ a b : Ty, a.sz ≤ d → a.erase.joinT b.erase = a.joinT b) : ∀ (xs ys : List Ty), (∀ x, x ∈ xs → x.sz ≤ d) → Ty.joinAll (xs.map Ty.erase) (ys.map Ty.erase) = Ty.joinAll xs ys
  | [], ys, _ => by simp [Ty.joinAll]
  | x :: xs, [], _ => by simp [Ty.joinAll]
  | x :: xs, y :: ys, h => by
    simp only [List.map_cons, Ty.joinAll]
    rw [ih x y (h x (by simp)), joinAll_erase d ih xs ys (fun z hz => h z (List.mem_cons_of_mem _ hz))]
theorem Ty.ee (v : Ty) : v.erase.erase = v.erase := Ty.erase_erase v.sz v (Nat.le_refl _)
theorem joinT_eraseD (d : Nat) : ∀ a b : Ty, a.sz ≤ d → a.erase.joinT b.erase = a.joinT b := by
  induction d with
  | zero => intro a b hd; rw [Ty.sz_eq] at hd; omega
  | succ d ih =>
    intro a b hd
    rw [Ty.joinT_eq, Ty.joinT_eq a b, Ty.erase_k, Ty.erase_k, Ty.erase_ns, Ty.erase_ns, Ty.ee, Ty.ee, Ty.erase_xs, Ty.erase_xs, joinAll_erase d ih a.xs b.xs (fun x hx => by have := Ty.size_mem hx; omega)]
theorem Ty.joinT_erase (a b : Ty) : a.erase.joinT b.erase = a.joinT b := joinT_eraseD a.sz a b (Nat.le_refl _)
theorem Ty.joinT_eraseL (a b : Ty) : a.erase.joinT b = a.joinT b := by rw [← Ty.joinT_erase a.erase b, Ty.ee, Ty.joinT_erase]
theorem Ty.joinT_eraseR (a b : Ty) : a.joinT b.erase = a.joinT b := by rw [← Ty.joinT_erase a b.erase, Ty.ee, Ty.joinT_erase]
theorem trightAll_of : ∀ {xs : List Ty} {d : Nat}, (∀ x, x ∈ xs → x.rightB d = true) → Ty.rightAll xs d = true
  | [], _, _ => rfl
  | x :: xs, d, h => by
    simp only [Ty.rightAll]
    rw [h x (by simp), trightAll_of (fun z hz => h z (List.mem_cons_of_mem _ hz))]
    rfl
theorem joinAll_each {Q : Ty → Prop} : ∀ (xs ys us : List Ty), Ty.joinAll xs ys = some us → (∀ x, x ∈ xs → ∀ y, y ∈ ys → ∀ u, x.joinT y = some u → Q u) → us.length = xs.length ∧ ∀ u, u ∈ us → Q u
  | [], ys, us, h, _ => by
    simp [Ty.joinAll] at h
    subst h
    exact ⟨rfl, fun u hu => by simp at hu⟩
  | x :: xs, [], us, h, _ => by simp [Ty.joinAll] at h
  | x :: xs, y :: ys, us, h, hq => by
    simp only [Ty.joinAll, Option.bind_eq_some_iff, Option.map_eq_some_iff] at h
    obtain ⟨u, h1, vs, h2, rfl⟩ := h
    obtain ⟨h3, h4⟩ := joinAll_each xs ys vs h2 (fun a ha b hb => hq a (List.mem_cons_of_mem _ ha) b (List.mem_cons_of_mem _ hb))
    refine ⟨by simp [h3], fun z hz => ?_⟩
    rcases List.mem_cons.1 hz with rfl | hz
    · exact hq x (by simp) y (by simp) z h1
    · exact h4 z hz
theorem Ty.rightB_mk (k : Int) (na : Sl) (ns : List ByteArray) (xa : Sl) (xs : List Ty) (deep : Nat) : (Ty.mk k na ns xa xs).rightB deep =
    if 12 < deep then false
    else if k = 5 then decide (ns.length = 0) && decide (xs.length = 1) && Ty.rightAll xs (deep + 1)
    else if k = 6 then decide (ns.length = xs.length) && risingB ns && Ty.rightAll xs (deep + 1)
    else if 1 ≤ k ∧ k ≤ 7 then decide (ns.length = 0) && decide (xs.length = 0)
    else false := Ty.rightB_eq _ _
theorem joinT_rightD (d : Nat) : ∀ (a b v : Ty) (n : Nat), a.sz ≤ d → a.rightB n = true → b.rightB n = true → a.joinT b = some v → v.rightB n = true := by
  induction d with
  | zero => intro a b v n hd; rw [Ty.sz_eq] at hd; omega
  | succ d ih =>
    intro a b v n hd ha hb h
    rw [Ty.joinT_eq] at h
    by_cases h7 : a.k = 7
    · rw [if_pos h7] at h
      injection h with h
      rw [← h, Ty.rightB_erase b.sz b n (Nat.le_refl _)]
      exact hb
    rw [if_neg h7] at h
    by_cases h8 : b.k = 7
    · rw [if_pos h8] at h
      injection h with h
      rw [← h, Ty.rightB_erase a.sz a n (Nat.le_refl _)]
      exact ha
    rw [if_neg h8] at h
    by_cases hkn : a.k = b.k ∧ a.ns = b.ns
    case neg => rw [if_neg hkn] at h; cases h
    rw [if_pos hkn, Option.map_eq_some_iff] at h
    obtain ⟨us, hus, rfl⟩ := h
    rw [Ty.rightB_eq] at ha
    rw [Ty.rightB_mk]
    rw [Ty.rightB_eq, ← hkn.1, ← hkn.2] at hb
    have hsub : ∀ m, Ty.rightAll a.xs m = true → Ty.rightAll b.xs m = true → us.length = a.xs.length ∧ Ty.rightAll us m = true := fun m h1 h2 => by
      obtain ⟨h3, h4⟩ := joinAll_each (Q := fun u => u.rightB m = true) a.xs b.xs us hus (fun x hx y hy u hu => ih x y u m (by have := Ty.size_mem hx; omega) (trightAll_mem h1 x hx) (trightAll_mem h2 y hy) hu)
      exact ⟨h3, trightAll_of h4⟩
    split at ha
    · cases ha
    rename_i h12
    rw [if_neg h12] at hb ⊢
    split at ha
    · rename_i h5
      rw [if_pos h5] at hb ⊢
      simp only [Bool.and_eq_true, decide_eq_true_eq] at ha hb ⊢
      obtain ⟨h3, h4⟩ := hsub _ ha.2 hb.2
      exact ⟨⟨ha.1.1, by rw [h3]; exact ha.1.2⟩, h4⟩
    rename_i h5
    rw [if_neg h5] at hb ⊢
    split at ha
    · rename_i h6
      rw [if_pos h6] at hb ⊢
      simp only [Bool.and_eq_true, decide_eq_true_eq] at ha hb ⊢
      obtain ⟨h3, h4⟩ := hsub _ ha.2 hb.2
      exact ⟨⟨by rw [h3]; exact ha.1.1, ha.1.2⟩, h4⟩
    rename_i h6
    rw [if_neg h6] at hb ⊢
    split at ha
    · rename_i hr
      rw [if_pos hr] at hb ⊢
      simp only [Bool.and_eq_true, decide_eq_true_eq] at ha hb ⊢
      obtain ⟨h3, h4⟩ := joinAll_each (Q := fun _ => True) a.xs b.xs us hus (fun _ _ _ _ _ _ => trivial)
      exact ⟨ha.1, by rw [h3]; exact ha.2⟩
    · cases ha
theorem joinT_right {a b v : Ty} {n : Nat} (ha : a.rightB n = true) (hb : b.rightB n = true) (h : a.joinT b = some v) : v.rightB n = true := joinT_rightD a.sz a b v n (Nat.le_refl _) ha hb h
end Go.Proofs.YtjpdbhhjlnmacaaGreat

/- (*checker).own of a list, and of any expression (printed by wip/gen_cown3.py). -/
namespace Go.Proofs.YtjpdbhhjlnmacaaGreat
set_option linter.unusedVariables false
open Go.RowKit

def listR (F : Option Ty) : Except Int Ty := match F with | some t => .ok (.mk 5 .no [] .no [t]) | none => .error 6
theorem foldJ_erase (a : Ty) (l : List Ty) : (foldJ a.erase l).map Ty.erase = (foldJ a l).map Ty.erase := by
  cases l with
  | nil => simp [foldJ, Ty.ee]
  | cons x l => simp only [foldJ, Ty.joinT_eraseL]
theorem foldJ_drop {u v u' : Ty} {ks : List Ty} {i : Nat} (hi : i < ks.length) (h : u.joinT (ks[i]'hi) = some v) (hv : u'.erase = v) : (foldJ u (ks.drop i)).map Ty.erase = (foldJ u' (ks.drop (i + 1))).map Ty.erase := by
  rw [List.drop_eq_getElem_cons hi, foldJ, h, Option.bind_some, ← hv, foldJ_erase]
theorem foldJ_stop {u : Ty} {ks : List Ty} {i : Nat} (hi : i < ks.length) (h : u.joinT (ks[i]'hi) = none) : (foldJ u (ks.drop i)).map Ty.erase = none := by
  rw [List.drop_eq_getElem_cons hi, foldJ, h]
  rfl
/-- A type's cells written over a block. -/
theorem ty_over {W WF : World} {u : Ty} {P : Nat → Prop} {R : Nat} {k4 k5 : Option Addr} {l4 l5 : Nat} {x0 x1 x2 : Value} (hP : ∀ b, P b → b < R) (hr : Blk W R 36 #[x0, x1, x2]) (hi : u.In W) (hs : u.Sep (fun b => P b ∨ R + 1 ≤ b))
    (hWF : WF = ((W.setCell ⟨R, 0, none⟩ (.int .i64 u.k)).setCell ⟨R, 1, none⟩ (.slice k4 u.ns.length l4)).setCell ⟨R, 2, none⟩ (.slice k5 u.xs.length l5)) :
    Blk WF R 36 #[.int .i64 u.k, .slice k4 u.ns.length l4, .slice k5 u.xs.length l5] ∧ u.In WF := by
  refine ⟨by rw [hWF]; exact blk3_set hr _ _ _, ?_⟩
  refine hi.carryS hs (fun b o hb hlt => ?_) (by rw [hWF]; simp [World.setCell])
  have hne : ∀ k, (⟨R, k, none⟩ : Addr) ≠ ⟨b, o, none⟩ := fun k e => by
    injection e with e _
    rcases hb with hb | hb
    · have := hP b hb; omega
    · omega
  rw [hWF, World.cell?_setCell_other _ _ _ _ (hne 2), World.cell?_setCell_other _ _ _ _ (hne 1), World.cell?_setCell_other _ _ _ _ (hne 0)]
/-- A list of one type, in a row of its own. -/
theorem one_row {w : World} {u : Ty} (h : u.In w) : (Ty.mk 5 .no [] (.at_ w.heap.size 0 1) [u]).In (w.alloc (.cells u.cells.toArray 36)) := by
  have hp := PTy.new w u 36 h
  rw [Ty.in_iff]
  refine ⟨⟨by show i64r 5; unfold i64r; decide, by simp [Ty.ns], by simp [Ty.xs], fun s hs => by simp [Ty.ns] at hs⟩, rfl, ?_, fun x hx => ?_⟩
  · refine ⟨Nat.le_refl _, by decide, fun i hi j hj => ?_⟩
    obtain rfl : i = 0 := by simp [Ty.xs] at hi; omega
    refine ⟨?_, by simp⟩
    have := hp.1 j hj
    simp only [Nat.zero_mul, Nat.zero_add] at this ⊢
    rw [this]
    rfl
  · obtain rfl : x = u := by simpa [Ty.xs] using hx
    exact hp.in

set_option maxHeartbeats 8000000 in
set_option maxRecDepth 100000 in
theorem cown_list (C b o : Nat) (x : Exp) (K : Ty) (vp : Option Addr) (vc : Nat) (vs : List Var) (P : Nat → Prop) (w : World) (h : OwnIn C b o x K vp vc vs P w) (hk : x.k = 16) :
    Calls Tryz.prog 52 #[.pointer (some ⟨C, 0, none⟩), .pointer (some ⟨b, o, none⟩), K.xa.val K.xs.length] w fun e w' => GaveE (ownP x K.xs vs) P w e w' := by
  obtain ⟨W, hW⟩ : ∃ W, W = (w.alloc (.cells #[.pointer (some ⟨b, o, none⟩)] 66)).alloc (.cells #[.int .i64 0, .slice none 0 0, .slice none 0 0] 36) := ⟨_, rfl⟩
  have hj : C0 w W b o := by rw [hW]; exact c0_start w b o
  have hIW := h.below hj.below
  obtain ⟨kp, kc, ek, hkat⟩ := titems_at hIW.hK
  rw [ek]
  obtain ⟨A, hA⟩ : ∃ A, A = w.heap.size := ⟨_, rfl⟩
  have bp := hj.bp; have br := hj.br; have hWS := hj.size
  rw [← hA] at bp br hWS
  have p0 := bp.cell 0
  simp at p0
  have HW := Lib.hid hW; have HA := Lib.hid hA; have HBW := Lib.hid hj.below; have BP := Lib.hid bp; have BR := Lib.hid br; have HI := Lib.hid hIW; have HP := Lib.hid h.hP; have HWS := Lib.hid hWS; have HKAT := Lib.hid hkat
  have x0 := hIW.hx.c0
  rw [hk] at x0
  obtain ⟨R, hR⟩ : ∃ R, R = ownP x K.xs vs := ⟨_, rfl⟩
  rw [← hR]
  obtain ⟨F, hF⟩ : ∃ F, F = (foldJ (Ty.of 7) K.xs).map Ty.erase := ⟨_, rfl⟩
  have hR2 : R = listR F := by
    rw [hR, hF]; unfold ownP; rw [if_neg (by omega), if_neg (by omega), if_neg (by omega), if_pos hk]
    cases foldJ (Ty.of 7) K.xs <;> rfl
  have hMb : K.xs.length ≤ 2513169434843 := hIW.hK.ok.2.2.1
  obtain ⟨M, hM⟩ : ∃ M, M = K.xs.length := ⟨_, rfl⟩
  rw [← hM] at hMb ⊢
  have HR2 := Lib.hid hR2; have HF := Lib.hid hF; have HM := Lib.hid hM; have HOF := Lib.hid (fun W => of_any 7 W); have HKS := Lib.hid h.hKS; have HKR := Lib.hid h.hKR
  clear hW hA hj hIW hkat hR hR2 hk ek bp br hWS h hF hM
  go_enter Tryz.func52, Tryz.ntmps52
  go_upto_region 1 with fail
  rw [← HW.out, ← HA.out]
  go_wp2_with fail
  refine (HOF.out _).mono ?_
  rintro e w5 ⟨rfl, hb5⟩
  obtain ⟨T, hT⟩ : ∃ T, T = w5.heap.size := ⟨_, rfl⟩
  obtain ⟨W6, hW6⟩ : ∃ W6, W6 = w5.alloc (.cells #[.int .i64 7, .slice none 0 0, .slice none 0 0] 36) := ⟨_, rfl⟩
  have hb6 : Below W.heap.size W W6 := by rw [hW6]; exact hb5.alloc hb5.size _
  have hbt : Blk W6 T 36 #[.int .i64 7, .slice none 0 0, .slice none 0 0] := by rw [hW6, hT]; exact Blk.new w5 36 _
  have hWT : W.heap.size ≤ T := by rw [hT]; exact hb5.size
  have HW6 := Lib.hid hW6; have B6 := Lib.hid hb6; have HBT := Lib.hid hbt; have HT := Lib.hid hT; have HWT := Lib.hid hWT
  clear hW6 hb6 hbt hb5 hT hWT
  go_upto_region 13 with fail
  rw [← HW6.out, ← HT.out]
  go_wp2_with fail
  go_loopw [63] (fun iv wr => ∃ (i : Nat) (u : Ty) (k4 k5 : Option Addr) (l4 l5 : Nat), iv = .int .i64 (i : Int) ∧ i ≤ M ∧ Hid (Blk wr T 36 #[.int .i64 u.k, .slice k4 u.ns.length l4, .slice k5 u.xs.length l5]) ∧
    Hid (u.na.val u.ns.length = .slice k4 u.ns.length l4) ∧ Hid (u.xa.val u.xs.length = .slice k5 u.xs.length l5) ∧ Hid (u.In wr) ∧ Hid (u.Sep (fun b => P b ∨ T + 1 ≤ b)) ∧ Hid (u.rightB 1 = true) ∧ Hid (F = (foldJ u (K.xs.drop i)).map Ty.erase) ∧ Hid (Below W.heap.size W wr)) (fun iv _ => M - (intOf iv).toNat)
  case atStart => exact ⟨0, Ty.of 7, none, none, 0, 0, rfl, by omega, HBT, Lib.hid rfl, Lib.hid rfl, Lib.hid (of_in 7 (by unfold i64r; decide) _), Lib.hid (of_sep _ _), Lib.hid (by rw [Ty.rightB_mk]; decide), Lib.hid (by rw [HF.out]; rfl), B6⟩
  case round =>
    obtain ⟨i, u, k4, k5, l4, l5, rfl, hi, HB, E4, E5, HIN, HSEP, HRI, HFO, HBL⟩ := hrel
    by_cases hlt : i < M
    · have hil : i < K.xs.length := by rw [← HM.out]; exact hlt
      obtain ⟨xb, xo, rfl, hpx0, hlc⟩ := HKAT.out i hil
      rw [← HM.out] at hlc
      obtain ⟨y, hy⟩ : ∃ y, y = K.xs[i]'hil := ⟨_, rfl⟩
      have hym : y ∈ K.xs := by rw [hy]; simp
      rw [← hy] at hpx0
      have hpx := hpx0.below HBL.out
      have u0 := hpx.c0; have u1 := hpx.c1; have u2 := hpx.c2
      obtain ⟨m4, n4, g4⟩ := hpx.in.nslice
      obtain ⟨m5, n5, g5⟩ := hpx.in.xslice
      rw [g4] at u1; rw [g5] at u2
      obtain ⟨W5, hW5⟩ : ∃ W5, W5 = wr.alloc (.cells #[.int .i64 y.k, .slice m4 y.ns.length n4, .slice m5 y.xs.length n5] 36) := ⟨_, rfl⟩
      have hb5 : Below wr.heap.size wr W5 := by rw [hW5]; exact (Below.refl _ _).alloc (Nat.le_refl _) _
      have hbx5 : Blk W5 wr.heap.size 36 #[.int .i64 y.k, .slice m4 y.ns.length n4, .slice m5 y.xs.length n5] := by rw [hW5]; exact Blk.new wr 36 _
      have hTw : T < wr.heap.size := HB.out.lt
      have hwW : W.heap.size ≤ wr.heap.size := HBL.out.size
      have hww : w.heap.size ≤ W.heap.size := HBW.out.size
      have hsu : u.Sep (fun b => P b ∨ (T + 1 ≤ b ∧ b < W5.heap.size)) := (HSEP.out.and HIN.out.sep).mono (fun b hb => by
        rcases hb.1 with h | h
        · exact .inl h
        · exact .inr ⟨h, Nat.lt_of_lt_of_le hb.2 hb5.size⟩)
      have hc := join_any u.sz u y (fun b => P b ∨ (T + 1 ≤ b ∧ b < W5.heap.size)) W5 (Nat.le_refl _) (fun b hb => by
        have h5 := hb5.size
        rcases hb with h | h
        · have := HP.out b h; omega
        · exact h.2) (HIN.out.below hb5) (hpx.in.below hb5) ⟨1, HRI.out⟩ ⟨1, HKR.out y hym⟩ hsu ((HKS.out.kid hym).mono (fun b hb => .inl hb))
      obtain ⟨JT, hJT⟩ : ∃ JT, JT = u.joinT y := ⟨_, rfl⟩
      rw [← hJT] at hc
      unfold Ty.agg at hc
      rw [g4, g5, E4.out, E5.out] at hc
      have hk0 : (0 : Int) ≤ (i : Int) := by omega
      have hk1 : (i : Int) < (M : Int) := by omega
      have HC := Lib.hid hc; have HW5 := Lib.hid hW5; have HB5 := Lib.hid hb5; have HBX := Lib.hid hbx5; have HJT := Lib.hid hJT; have HY := Lib.hid hy
      have HYM := Lib.hid hym
      have HSZ := Lib.hid hTw
      clear hc hW5 hb5 hbx5 hpx hpx0 hJT hsu hym g4 g5 hTw hwW hww hy
      go_upto_region 16 with fail
      rw [← HW5.out]
      clear u0 u1 u2
      have u0 := HBX.out.cell 0; have u1 := HBX.out.cell 1; have u2 := HBX.out.cell 2
      have hbT5 := HB.out.below HB5.out HB.out.lt
      have t0 := hbT5.cell 0; have t1 := hbT5.cell 1; have t2 := hbT5.cell 2
      simp at u0 u1 u2 t0 t1 t2
      clear hbT5
      go_wp2_with fail
      refine HC.out.mono ?_
      cases JT with
      | none =>
        rintro e w6 ⟨hb6, rfl⟩
        have B7 := Lib.hid (HBL.out.trans ((HB5.out.trans (hb6.mono HB5.out.size)).mono HBL.out.size))
        have HRN : Hid (R = .error 6) := Lib.hid (by
          rw [HR2.out, HFO.out, foldJ_stop hil (by rw [← HY.out, ← HJT.out])]; rfl)
        clear hb6
        unfold gave
        go_wp2
        refine ⟨rfl, HBW.out.trans ((B7.out).mono HBW.out.size), ?_⟩
        rw [HRN.out]
        rfl
      | some v =>
        rintro e w6 ⟨hb6, u', rfl, hue, hui, hus⟩
        obtain ⟨a4, b4, f4⟩ := hui.nslice
        obtain ⟨a5, b5, f5⟩ := hui.xslice
        have hag : u'.agg = .agg #[.int .i64 u'.k, .slice a4 u'.ns.length b4, .slice a5 u'.xs.length b5] := by unfold Ty.agg; rw [f4, f5]
        rw [hag]
        have hr06 := HB5.out.trans (hb6.mono HB5.out.size)
        have hbT := HB.out.below hr06 HB.out.lt
        have r0 := hbT.cell 0; have r1 := hbT.cell 1; have r2 := hbT.cell 2
        have s0 := hbT.frozen 0; have s1 := hbT.frozen 1; have s2 := hbT.frozen 2
        simp at r0 r1 r2
        obtain ⟨WF, hWF⟩ : ∃ WF, WF = ((w6.setCell ⟨T, 0, none⟩ (.int .i64 u'.k)).setCell ⟨T, 1, none⟩ (.slice a4 u'.ns.length b4)).setCell ⟨T, 2, none⟩ (.slice a5 u'.xs.length b5) := ⟨_, rfl⟩
        have hsu : u'.Sep (fun b => P b ∨ T + 1 ≤ b) := hus.mono (fun b hb => by
          have h5 := HB5.out.size; have h6 := HSZ.out
          rcases hb with h | h
          · rcases h with h | h
            · exact .inl h
            · exact .inr h.1
          · exact .inr (by omega))
        obtain ⟨hTF, hIF⟩ := ty_over (fun b hb => by have := HP.out b hb; have h2 := HBW.out.size; have h3 := HWT.out; omega) hbT hui hsu hWF
        have hBF : Below W.heap.size W WF := by rw [hWF]; exact below3_set (HBL.out.trans (hr06.mono HBL.out.size)) HWT.out _ _ _
        have HWF := Lib.hid hWF; have HTF := Lib.hid hTF; have HIF := Lib.hid hIF; have HBF := Lib.hid hBF; have HSU := Lib.hid hsu; have F4 := Lib.hid f4; have F5 := Lib.hid f5
        have HRT : Hid (u'.rightB 1 = true) := Lib.hid (by
          rw [← Ty.rightB_erase u'.sz u' 1 (Nat.le_refl _), hue]
          exact joinT_right HRI.out (HKR.out y HYM.out) HJT.out.symm)
        have HF2 : Hid (F = (foldJ u' (K.xs.drop (i + 1))).map Ty.erase) := Lib.hid (by
          rw [HFO.out]
          exact foldJ_drop hil (by rw [← HY.out, ← HJT.out]) hue)
        clear hWF hTF hIF hBF hsu f4 f5 hag hr06 hbT hb6 hui hus hue u0 u1 u2 t0 t1 t2
        go_wp2_with fail
        rw [← HWF.out]
        go_roundw
        case rel => exact ⟨i + 1, u', a4, a5, b4, b5, by go_num, by omega, HTF, F4, F5, HIF, HSU, HRT, HF2, HBF⟩
        case measure => simp [intOf]; omega
    · obtain rfl : i = M := by omega
      have t0 := HB.out.cell 0; have t1 := HB.out.cell 1; have t2 := HB.out.cell 2
      simp at t0 t1 t2
      have hlt2 : decide ((i : Int) < (i : Int)) = false := by simp
      have HRS : Hid (R = .ok (Ty.mk 5 .no [] (.at_ wr.heap.size 0 1) [u]).erase) := Lib.hid (by
        rw [HR2.out, HFO.out, HM.out, List.drop_length, Ty.erase_eq]
        rfl)
      obtain ⟨W9, hW9⟩ : ∃ W9, W9 = wr.alloc (.cells #[.int .i64 u.k, .slice k4 u.ns.length l4, .slice k5 u.xs.length l5] 36) := ⟨_, rfl⟩
      have hb9 : Below W.heap.size W W9 := by rw [hW9]; exact HBL.out.alloc HBL.out.size _
      have hU := one_row HIN.out
      have hcl : u.cells.toArray = #[.int .i64 u.k, .slice k4 u.ns.length l4, .slice k5 u.xs.length l5] := by unfold Ty.cells; rw [E4.out, E5.out]
      rw [hcl, ← hW9] at hU
      have hTw : T < wr.heap.size := HB.out.lt
      have hUS : (Ty.mk 5 .no [] (.at_ wr.heap.size 0 1) [u]).Sep (fun b => P b ∨ A + 1 + 1 ≤ b) := by
        rw [Ty.sep_iff]
        refine ⟨trivial, .inr (by have h1 := HBL.out.size; have h2 := HWS.out; omega), fun y hy => ?_⟩
        obtain rfl : y = u := by simpa [Ty.xs] using hy
        exact HSEP.out.mono (fun b hb => by
          rcases hb with h | h
          · exact .inl h
          · exact .inr (by have h1 := HWT.out; have h2 := HWS.out; omega))
      have HW9 := Lib.hid hW9; have B9 := Lib.hid hb9
      have hbr := BR.out.below (B9.out) BR.out.lt
      have r0 := hbr.cell 0; have r1 := hbr.cell 1; have r2 := hbr.cell 2
      have s0 := hbr.frozen 0; have s1 := hbr.frozen 1; have s2 := hbr.frozen 2
      simp at r0 r1 r2
      obtain ⟨WF, hWF⟩ : ∃ WF, WF = ((W9.setCell ⟨A + 1, 0, none⟩ (.int .i64 5)).setCell ⟨A + 1, 1, none⟩ (.slice none 0 0)).setCell ⟨A + 1, 2, none⟩ (.slice (some ⟨wr.heap.size, 0, none⟩) 1 1) := ⟨_, rfl⟩
      have hres := res_storedE (u := Ty.mk 5 .no [] (.at_ wr.heap.size 0 1) [u]) (k4 := none) (k5 := (some ⟨wr.heap.size, 0, none⟩)) (l4 := 0) (l5 := 1) (R := A + 1) (by rw [HA.out]; omega) HP.out (HBW.out.trans ((B9.out).mono HBW.out.size)) hbr (hU) (hUS) (rfl) (rfl) hWF
      have HRES := Lib.hid hres; have HWF := Lib.hid hWF
      clear HWF
      have hbr0 := BR.out.below HBL.out BR.out.lt
      have hlr0 := hbr0.lt
      have hWF2 : WF = (((wr.setCell ⟨A + 1, 0, none⟩ (.int .i64 5)).setCell ⟨A + 1, 1, none⟩ (.slice none 0 0)).setCell ⟨A + 1, 2, none⟩ (.slice (some ⟨wr.heap.size, 0, none⟩) 1 1)).alloc (.cells #[.int .i64 u.k, .slice k4 u.ns.length l4, .slice k5 u.xs.length l5] 36) := by
        rw [hWF, hW9]
        simp [go_sem, hlr0]
      have HWF := Lib.hid hWF2
      clear hres hWF hbr hb9 hU hcl hUS hlt hW9 r0 r1 r2 s0 s1 s2 hWF2 hlr0 hbr0
      have hbr := BR.out.below HBL.out BR.out.lt
      have r0 := hbr.cell 0; have r1 := hbr.cell 1; have r2 := hbr.cell 2
      have s0 := hbr.frozen 0; have s1 := hbr.frozen 1; have s2 := hbr.frozen 2
      simp at r0 r1 r2
      have hlr := hbr.lt
      clear hbr
      go_wp2_with fail
      rw [← HWF.out]
      obtain ⟨hF, hJ⟩ := HRES.out
      have f0 := hF.cell 0; have f1 := hF.cell 1; have f2 := hF.cell 2
      simp [Ty.k, Ty.ns, Ty.xs] at f0 f1 f2
      refine bodyPost_ret (v := .agg #[.int .i64 5, .slice none 0 0, .slice (some ⟨wr.heap.size, 0, none⟩) 1 1]) (by simp [results, Tryz.results52, go_sem, f0, f1, f2]) rfl ?_
      rw [HRS.out]
      exact hJ
end Go.Proofs.YtjpdbhhjlnmacaaGreat

/- The document's parser: its state, the next sign. -/
namespace Go.Proofs.YtjpdbhhjlnmacaaGreat
set_option linter.unusedVariables false
open Go.RowKit

/-- A parser that has no error: at token i, d within one another. -/
structure PS (w : World) (p : Nat) (tp : Option Addr) (tc : Nat) (ts : List Tok) (en i d : Nat) : Prop where
  blk : Blk w p 97 #[.slice tp ts.length tc, .int .i64 (i : Int), .int .i64 (en : Int), .int .i64 0, .int .i64 0, .int .i64 (d : Int)]
  toks : Toks w tp tc ts
  apart : ∀ g o m, tp = some ⟨g, o, m⟩ → ts.length = 0 ∨ g ≠ p
def tokIs (ts : List Tok) (i : Nat) (s : ByteArray) : Bool := match ts[i]? with
  | some t => decide (t.k = 6) && (t.s.toList == s.toList)
  | none => false
section
variable {w w' : World} {p : Nat} {tp : Option Addr} {tc : Nat} {ts : List Tok} {en i d : Nat}
theorem PS.keep {i' d' : Nat} (h : PS w p tp tc ts en i d) (hb : Blk w' p 97 #[.slice tp ts.length tc, .int .i64 (i' : Int), .int .i64 (en : Int), .int .i64 0, .int .i64 0, .int .i64 (d' : Int)]) (ho : Only w w' p) : PS w' p tp tc ts en i' d' :=
  ⟨hb, ⟨h.toks.cap, fun k hk => by
    obtain ⟨g, a, b, c⟩ := h.toks.at_ k hk
    refine ⟨g, a, Nat.lt_of_lt_of_le b ho.size, fun j hj => ?_⟩
    rcases h.apart g 0 none a with h0 | h0
    · omega
    · rw [← c j hj]
      exact World.cell?_of_block (a := ⟨g, k * 6 + j, none⟩) (ho.block g b (by simpa using h0))⟩, h.apart⟩
theorem PS.below (h : PS w p tp tc ts en i d) (hb : Below w.heap.size w w') : PS w' p tp tc ts en i d :=
  h.keep (h.blk.below hb h.blk.lt) (Only.of_below hb p)
theorem PS.drewN (h : PS w p tp tc ts en i d) (n : Nat) : PS (w.drewN n) p tp tc ts en i d := h.keep h.blk ((Only.refl w p).drewN n)

set_option maxHeartbeats 2000000 in
set_option maxRecDepth 100000 in
theorem is_at (s : ByteArray) (h : PS w p tp tc ts en i d) : Calls Tryz.prog 113 #[.pointer (some ⟨p, 0, none⟩), .string s] w fun e w' => e = .returned (.bool (tokIs ts i s)) ∧ ∃ n, w' = w.drewN n := by
  obtain ⟨R, hR⟩ : ∃ R, R = tokIs ts i s := ⟨_, rfl⟩
  rw [← hR]
  unfold tokIs at hR
  have c0 := h.blk.cell 0; have c1 := h.blk.cell 1; have c3 := h.blk.cell 3
  simp at c0 c1 c3
  have hcap := h.toks.cap
  by_cases hlt : i < ts.length
  · obtain ⟨g, a, b, c⟩ := h.toks.at_ i hlt
    obtain ⟨t, ht⟩ : ∃ t, t = ts[i]'hlt := ⟨_, rfl⟩
    rw [List.getElem?_eq_getElem hlt, ← ht] at hR
    rw [← ht] at c
    have t0 := c 0 (by omega); have t5 := c 5 (by omega)
    simp only [Tok.cells, List.getElem?_cons_zero, List.getElem?_cons_succ, Nat.add_zero] at t0 t5
    have g1 : decide ((i : Int) < (ts.length : Int)) = true := by simp; omega
    have g2 : (i : Int) < (ts.length : Int) := by omega
    have g3 : (0 : Int) ≤ (i : Int) := by omega
    subst a
    by_cases hk : t.k = 6
    · have g4 : (t.k == 6) = true := by simpa using hk
      obtain ⟨E, hE⟩ : ∃ E, E = (t.s.toList == s.toList) := ⟨_, rfl⟩
      have HR : Hid (R = E) := Lib.hid (by rw [hR, hE]; simp [hk])
      have g5 : (t.s.toList == s.toList) = E := hE.symm
      clear hR ht c h hE hk
      go_enter Tryz.func113, Tryz.ntmps113
      try simp only [lapp_cons, lapp_nil]
      cases E
      all_goals
        go_wp2_with fail
        go_quiet (fail)
        go_wp2_with fail
        go_ret
        exact ⟨by rw [HR.out]; simp, _, rfl⟩
    · have g4 : (t.k == 6) = false := by simpa using hk
      have HR : Hid (R = false) := Lib.hid (by rw [hR]; simp [hk])
      clear hR ht c h hk
      go_enter Tryz.func113, Tryz.ntmps113
      try simp only [lapp_cons, lapp_nil]
      go_wp2_with fail
      go_quiet (fail)
      go_wp2_with fail
      go_ret
      exact ⟨by rw [HR.out]; simp, _, rfl⟩
  · have g1 : decide ((i : Int) < (ts.length : Int)) = false := by simp; omega
    have HR : Hid (R = false) := Lib.hid (by rw [hR, List.getElem?_eq_none (by omega)])
    clear hR h
    go_enter Tryz.func113, Tryz.ntmps113
    try simp only [lapp_cons, lapp_nil]
    go_wp2_with fail
    go_quiet (fail)
    go_wp2_with fail
    go_ret
    exact ⟨by rw [HR.out]; simp, _, rfl⟩

set_option maxHeartbeats 1000000 in
set_option maxRecDepth 100000 in
theorem take_at (s : ByteArray) (h : PS w p tp tc ts en i d) (hi : i < 9223372036854775807) : Calls Tryz.prog 93 #[.pointer (some ⟨p, 0, none⟩), .string s] w fun e w' => e = .returned (.bool (tokIs ts i s)) ∧ PS w' p tp tc ts en (if tokIs ts i s then i + 1 else i) d ∧ Only w w' p := by
  have hq := is_at s h
  obtain ⟨T, hT⟩ : ∃ T, T = tokIs ts i s := ⟨_, rfl⟩
  rw [← hT] at hq ⊢
  have H := Lib.hid h; have HIS := Lib.hid hq
  clear h hq hT
  go_enter Tryz.func93, Tryz.ntmps93
  go_wp2_with fail
  refine HIS.out.mono ?_
  cases T with
  | false =>
    rintro e w1 ⟨rfl, n, rfl⟩
    go_wp2_with fail
    go_ret
    exact ⟨rfl, H.out.drewN n, (Only.refl w p).drewN n⟩
  | true =>
    rintro e w1 ⟨rfl, n, rfl⟩
    obtain ⟨W, hW⟩ : ∃ W, W = w.drewN n := ⟨_, rfl⟩
    rw [← hW]
    have h1 : PS W p tp tc ts en i d := by rw [hW]; exact H.out.drewN n
    have ho : Only w W p := by rw [hW]; exact (Only.refl w p).drewN n
    have c1 := h1.blk.cell 1
    simp at c1
    have d1 := h1.blk.frozen 1
    have h2 : PS (W.setCell ⟨p, 1, none⟩ (.int .i64 ((i : Int) + 1))) p tp tc ts en (i + 1) d := h1.keep (h1.blk.set_ 1 (.int .i64 ((i + 1 : Nat) : Int))) ((Only.refl W p).set_ (p := ⟨p, 1, none⟩) (.inl rfl) _)
    have ho2 : Only w (W.setCell ⟨p, 1, none⟩ (.int .i64 ((i : Int) + 1))) p := ho.set_ (p := ⟨p, 1, none⟩) (.inl rfl) _
    have H2 := Lib.hid h2; have HO2 := Lib.hid ho2
    clear hW h1 ho h2 ho2
    go_wp2_with fail
    go_ret
    exact ⟨rfl, H2.out, HO2.out⟩

set_option maxHeartbeats 1000000 in
set_option maxRecDepth 100000 in
theorem want_at (s : ByteArray) (h : PS w p tp tc ts en i d) (hi : i < 9223372036854775807) (ht : tokIs ts i s = true) : Calls Tryz.prog 94 #[.pointer (some ⟨p, 0, none⟩), .string s] w fun e w' => e = .returned (.tuple #[]) ∧ PS w' p tp tc ts en (i + 1) d ∧ Only w w' p := by
  have HT := take_at s h hi
  rw [ht, if_pos rfl] at HT
  have HTK := Lib.hid HT
  clear h HT ht
  go_enter Tryz.func94, Tryz.ntmps94
  go_wp2_with fail
  refine HTK.out.mono ?_
  rintro e w1 ⟨rfl, h1, h2⟩
  have H1 := Lib.hid h1; have H2 := Lib.hid h2
  clear h1 h2
  go_wp2_with fail
  go_end0
  exact ⟨rfl, H1.out, H2.out⟩

set_option maxHeartbeats 1000000 in
set_option maxRecDepth 100000 in
theorem down_at (h : PS w p tp tc ts en i d) (hd : d < 100) : Calls Tryz.prog 91 #[.pointer (some ⟨p, 0, none⟩)] w fun e w' => e = .returned (.tuple #[]) ∧ w' = w.setCell ⟨p, 5, none⟩ (.int .i64 ((d : Int) + 1)) ∧ PS w' p tp tc ts en i (d + 1) ∧ Only w w' p := by
  have c5 := h.blk.cell 5
  simp at c5
  have d5 := h.blk.frozen 5
  have g1 : decide ((100 : Int) < (d : Int) + 1) = false := by simp; omega
  have h2 : PS (w.setCell ⟨p, 5, none⟩ (.int .i64 ((d : Int) + 1))) p tp tc ts en i (d + 1) := h.keep (h.blk.set_ 5 (.int .i64 ((d + 1 : Nat) : Int))) ((Only.refl w p).set_ (p := ⟨p, 5, none⟩) (.inl rfl) _)
  have ho2 : Only w (w.setCell ⟨p, 5, none⟩ (.int .i64 ((d : Int) + 1))) p := (Only.refl w p).set_ (p := ⟨p, 5, none⟩) (.inl rfl) _
  have H2 := Lib.hid h2; have HO2 := Lib.hid ho2
  clear h h2 ho2
  go_enter Tryz.func91, Tryz.ntmps91
  go_wp2_with fail
  go_end0
  exact ⟨rfl, rfl, H2.out, HO2.out⟩
end
end Go.Proofs.YtjpdbhhjlnmacaaGreat
