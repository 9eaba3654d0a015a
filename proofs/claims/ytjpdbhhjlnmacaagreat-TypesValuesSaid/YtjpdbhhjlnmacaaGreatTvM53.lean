/- Words that the laws of layer 9 share. -/
import Derived.Test.YtjpdbhhjlnmacaaGreatTvM10
import Derived.Test.YtjpdbhhjlnmacaaGreatTvM15
import Derived.Test.YtjpdbhhjlnmacaaGreatTvM45
import Derived.Test.YtjpdbhhjlnmacaaGreatTvM46
import Derived.Test.YtjpdbhhjlnmacaaGreatTvM49
import Derived.Test.YtjpdbhhjlnmacaaGreatTvM50
import Derived.Test.YtjpdbhhjlnmacaaGreatTvM52
namespace Go.Proofs.YtjpdbhhjlnmacaaGreat
set_option linter.unusedVariables false
open Go.RowKit

/-- What a join of right types answers. -/
def JAns (a b T : Ty) (k : Int) : Prop := (k = 0 ∧ a.joinT b = some T.erase) ∨ (k = 6 ∧ a.joinT b = none ∧ T.erase = Ty.zero)
theorem joined_right (a b : Ty) (w : World) (ha : a.In w) (hb : b.In w) (hra : a.RightB = true) (hrb : b.RightB = true) :
    Calls Tryz.prog 17 #[a.agg, b.agg] w fun e w' => ∃ (T : Ty) (k : Int), e = .returned (.tuple #[T.agg, .int .i64 k]) ∧ T.In w' ∧ JAns a b T k ∧ Below w.heap.size w w' := by
  refine (joinf_any a b (fun b => b < w.heap.size) w (fun b h => h) ha hb ha.sep hb.sep).mono ?_
  rintro e w' ⟨hb', hr⟩
  unfold Ty.joinF at hr
  rw [hra, hrb] at hr
  simp only [Bool.and_self, cond_true] at hr
  cases h2 : a.joinT b with
  | none =>
    rw [h2] at hr
    exact ⟨Ty.zero, 6, hr, tzero_in _, .inr ⟨rfl, h2, rfl⟩, hb'⟩
  | some v =>
    rw [h2] at hr
    obtain ⟨u, he, hue, hui, hus⟩ := hr
    exact ⟨u, 0, he, hui, .inl ⟨rfl, by rw [h2, hue]⟩, hb'⟩
/-- A join of what is no type. -/
theorem joined_wrong (a b : Ty) (w : World) (ha : a.In w) (hb : b.In w) (hr : (a.RightB && b.RightB) = false) :
    Calls Tryz.prog 17 #[a.agg, b.agg] w fun e w' => e = .returned (.tuple #[Ty.zero.agg, .int .i64 2]) ∧ Below w.heap.size w w' := by
  refine (joinf_any a b (fun b => b < w.heap.size) w (fun b h => h) ha hb ha.sep hb.sep).mono ?_
  rintro e w' ⟨hb', h⟩
  unfold Ty.joinF at h
  rw [hr] at h
  simp only [cond_false] at h
  exact ⟨h, hb'⟩
theorem zero_wrong (a q : Ty) (h : q.erase = Ty.zero) : (a.RightB && q.RightB) = false := by
  rw [← Ty.RightB_erase q, h]
  have : Ty.zero.RightB = false := by kernel_rfl
  rw [this, Bool.and_false]
theorem right_rt {a : Ty} (h : a.RightB = true) : a.Rt := RightB.some h
theorem isB_up {a x v : Ty} (ha : a.RightB = true) (hx : x.RightB = true) (hv : x.erase = v) (h : a.joinT v = some v) : a.isB x = true := by
  rw [isB_eq, ha, hx, ← Ty.joinT_eraseR, hv, h]
  show v.sameB x = true
  exact Ty.sameB_of (by rw [← hv, Ty.ee])
theorem isB_self {a : Ty} (ha : a.RightB = true) : a.isB a = true := by
  rw [isB_eq, ha, joinT_self]
  exact Ty.sameB_of (Ty.ee a)
end Go.Proofs.YtjpdbhhjlnmacaaGreat

/- basculeref04.Fits; what fits a type fits what this one stands for (printed by wip/gen_typesvalues.py). -/
namespace Go.Proofs.YtjpdbhhjlnmacaaGreat
set_option linter.unusedVariables false
open Go.RowKit

theorem cells3 {W : World} {Q : Nat} {T : TypeId} {v0 v1 v2 : Value} (h : Blk W Q T #[v0, v1, v2]) : ∀ W', Below W.heap.size W W' → W'.cell? ⟨Q, 0, none⟩ = some v0 ∧ W'.cell? ⟨Q, 1, none⟩ = some v1 ∧ W'.cell? ⟨Q, 2, none⟩ = some v2 := fun W' hb =>
  ⟨(h.below hb h.lt).cell 0, (h.below hb h.lt).cell 1, (h.below hb h.lt).cell 2⟩
theorem cells6 {W : World} {Q : Nat} {T : TypeId} {v0 v1 v2 v3 v4 v5 : Value} (h : Blk W Q T #[v0, v1, v2, v3, v4, v5]) : ∀ W', Below W.heap.size W W' → W'.cell? ⟨Q, 0, none⟩ = some v0 ∧ W'.cell? ⟨Q, 1, none⟩ = some v1 ∧ W'.cell? ⟨Q, 2, none⟩ = some v2 ∧ W'.cell? ⟨Q, 3, none⟩ = some v3 ∧ W'.cell? ⟨Q, 4, none⟩ = some v4 ∧ W'.cell? ⟨Q, 5, none⟩ = some v5 := fun W' hb =>
  ⟨(h.below hb h.lt).cell 0, (h.below hb h.lt).cell 1, (h.below hb h.lt).cell 2, (h.below hb h.lt).cell 3, (h.below hb h.lt).cell 4, (h.below hb h.lt).cell 5⟩
/-- Is a value right, a type right, and the one of the other? -/
def Val.FitsB (v : Val) (t : Ty) : Bool := v.RightB && (t.RightB && v.fitsB t)
theorem vright_some {v : Val} (h : v.RightB = true) : ∃ n, v.rightB n = true := by
  unfold Val.RightB at h
  rw [Bool.and_eq_true] at h
  exact ⟨1, h.2⟩
set_option maxHeartbeats 4000000 in
set_option maxRecDepth 100000 in
theorem fitsf_any (v : Val) (t : Ty) (w : World) (hv : v.In w) (ht : t.In w) : Calls Tryz.prog 23 #[v.agg, t.agg] w fun e w' => BoolBelow (v.FitsB t) w e w' := by
  have hE : v.FitsB t = (v.RightB && (t.RightB && v.fitsB t)) := rfl
  obtain ⟨R, hR⟩ : ∃ R, R = v.FitsB t := ⟨_, rfl⟩
  rw [← hR] at hE ⊢
  have HE := Lib.hid hE
  clear hE hR
  obtain ⟨W, hW⟩ : ∃ W, W = (w.alloc (.cells #[.int .i64 v.k, .int .i64 v.n, .float .f64 v.f, .string v.s, v.na.val v.ns.length, v.xa.val v.xs.length] 26)).alloc (.cells #[.int .i64 t.k, t.na.val t.ns.length, t.xa.val t.xs.length] 36) := ⟨_, rfl⟩
  have hBW : Below w.heap.size w W := by rw [hW]; exact (((Below.refl _ w).alloc (by simp; try omega) _).alloc (by simp; try omega) _)
  have bk_v : Blk W (w.heap.size) 26 #[.int .i64 v.k, .int .i64 v.n, .float .f64 v.f, .string v.s, v.na.val v.ns.length, v.xa.val v.xs.length] := by
    have h0 := Blk.new w 26 #[.int .i64 v.k, .int .i64 v.n, .float .f64 v.f, .string v.s, v.na.val v.ns.length, v.xa.val v.xs.length]
    rw [hW]
    exact (h0).alloc _
  have bk_t : Blk W (w.heap.size + 1) 36 #[.int .i64 t.k, t.na.val t.ns.length, t.xa.val t.xs.length] := by
    have h0 := Blk.new (w.alloc (.cells #[.int .i64 v.k, .int .i64 v.n, .float .f64 v.f, .string v.s, v.na.val v.ns.length, v.xa.val v.xs.length] 26)) 36 #[.int .i64 t.k, t.na.val t.ns.length, t.xa.val t.xs.length]
    rw [show (w.alloc (.cells #[.int .i64 v.k, .int .i64 v.n, .float .f64 v.f, .string v.s, v.na.val v.ns.length, v.xa.val v.xs.length] 26)).heap.size = w.heap.size + 1 from by simp] at h0
    rw [hW]
    exact h0
  obtain ⟨va4, vb4, vf4⟩ := hv.nslice
  obtain ⟨va5, vb5, vf5⟩ := hv.xslice
  obtain ⟨ta4, tb4, tf4⟩ := ht.nslice
  obtain ⟨ta5, tb5, tf5⟩ := ht.xslice
  obtain ⟨A, hA⟩ : ∃ A, A = w.heap.size := ⟨_, rfl⟩
  rw [← hA] at bk_v bk_t
  rw [vf4, vf5] at bk_v hW
  rw [tf4, tf5] at bk_t hW
  have HC_v := Lib.hid (cells6 bk_v)
  have IN_v := Lib.hid (fun (W' : World) (h : Below W.heap.size W W') => (hv.below hBW).below h)
  have AG_v : Hid (v.agg = .agg #[.int .i64 v.k, .int .i64 v.n, .float .f64 v.f, .string v.s, .slice va4 v.ns.length vb4, .slice va5 v.xs.length vb5]) := Lib.hid (by unfold Val.agg; rw [vf4, vf5])
  have HC_t := Lib.hid (cells3 bk_t)
  have IN_t := Lib.hid (fun (W' : World) (h : Below W.heap.size W W') => (ht.below hBW).below h)
  have AG_t : Hid (t.agg = .agg #[.int .i64 t.k, .slice ta4 t.ns.length tb4, .slice ta5 t.xs.length tb5]) := Lib.hid (by unfold Ty.agg; rw [tf4, tf5])
  rw [AG_v.out, AG_t.out]
  have BR_W := Lib.hid (Below.refl W.heap.size W)
  have HW := Lib.hid hW; have HA := Lib.hid hA; have HBW := Lib.hid hBW
  clear hW hA hBW bk_v vf4 vf5 hv bk_t tf4 tf5 ht
  go_enter Tryz.func23, Tryz.ntmps23
  go_upto_region 1 with fail
  rw [← HW.out, ← HA.out]
  have hcc := rrightf_any v W (IN_v.out _ BR_W.out)
  rw [AG_v.out] at hcc
  have CC := Lib.hid hcc
  clear hcc
  obtain ⟨v0_, v1_, v2_, v3_, v4_, v5_⟩ := HC_v.out _ BR_W.out
  go_wp2_with fail
  refine CC.out.mono ?_
  rintro e w1 ⟨rfl, hb⟩
  clear v0_ v1_ v2_ v3_ v4_ v5_
  have B2_W := Lib.hid (BR_W.out.trans (hb.mono BR_W.out.size))
  clear CC hb
  cases hr : v.RightB with
  | false =>
    have HR : Hid (R = false) := Lib.hid (by rw [HE.out, hr]; rfl)
    clear hr
    go_wp2_with fail
    go_ret
    exact ⟨by rw [HR.out]; rfl, HBW.out.trans (B2_W.out.mono HBW.out.size)⟩
  | true =>
  have HRV := Lib.hid hr
  clear hr
  have hcc := rtrightf_any t w1 (IN_t.out _ B2_W.out)
  rw [AG_t.out] at hcc
  have CC := Lib.hid hcc
  clear hcc
  obtain ⟨t0_, t1_, t2_⟩ := HC_t.out _ B2_W.out
  go_wp2_with fail
  refine CC.out.mono ?_
  rintro e w3 ⟨rfl, hb⟩
  clear t0_ t1_ t2_
  have B4_W := Lib.hid (B2_W.out.trans (hb.mono B2_W.out.size))
  clear CC hb
  cases hr : t.RightB with
  | false =>
    have HR : Hid (R = false) := Lib.hid (by rw [HE.out, hr, HRV.out]; rfl)
    clear hr
    go_wp2_with fail
    go_ret
    exact ⟨by rw [HR.out]; rfl, HBW.out.trans (B4_W.out.mono HBW.out.size)⟩
  | true =>
  have HRT := Lib.hid hr
  clear hr
  have hcc := fits_any v.sz v t w3 (Nat.le_refl _) (IN_v.out _ B4_W.out) (IN_t.out _ B4_W.out) (vright_some HRV.out) (RightB.some HRT.out)
  rw [AG_v.out, AG_t.out] at hcc
  have CC := Lib.hid hcc
  clear hcc
  obtain ⟨v0_, v1_, v2_, v3_, v4_, v5_⟩ := HC_v.out _ B4_W.out
  obtain ⟨t0_, t1_, t2_⟩ := HC_t.out _ B4_W.out
  go_wp2_with fail
  refine CC.out.mono ?_
  rintro e w5 ⟨rfl, hb⟩
  clear v0_ v1_ v2_ v3_ v4_ v5_ t0_ t1_ t2_
  have B6_W := Lib.hid (B4_W.out.trans (hb.mono B4_W.out.size))
  clear CC hb
  have HR : Hid (R = v.fitsB t) := Lib.hid (by rw [HE.out, HRV.out, HRT.out]; rfl)
  go_wp2_with fail
  go_ret
  exact ⟨by rw [HR.out]; rfl, HBW.out.trans (B6_W.out.mono HBW.out.size)⟩

/-- What fits a type fits what this one stands for. -/
theorem fits_join (d : Nat) : ∀ (v : Val) (a b : Ty), v.sz ≤ d → v.fitsB a = true → a.Rt → b.Rt → a.joinT b = some b.erase → v.fitsB b = true := by
  induction d with
  | zero => intro v a b hd; rw [Val.sz_eq] at hd; omega
  | succ d ih =>
    intro v a b hd hf ha hb hj
    rw [Val.fitsB_eq] at hf ⊢
    simp only [Bool.and_eq_true, Bool.not_eq_true', Bool.or_eq_false_iff, decide_eq_false_iff_not, Decidable.not_not] at hf ⊢
    obtain ⟨⟨h1, h2⟩, h3⟩ := hf
    rw [Ty.joinT_eq, if_neg h2] at hj
    by_cases h4 : b.k = 7
    · exfalso
      rw [if_pos h4] at hj
      injection hj with hj
      have := congrArg Ty.k hj
      rw [Ty.erase_k, Ty.erase_k] at this
      omega
    rw [if_neg h4] at hj
    by_cases h5 : a.k = b.k ∧ a.ns = b.ns
    case neg => rw [if_neg h5] at hj; cases hj
    rw [if_pos h5, Option.map_eq_some_iff] at hj
    obtain ⟨us, hus, he⟩ := hj
    have hue : us = b.xs.map Ty.erase := by
      rw [Ty.erase_eq b] at he
      injection he
    have hlen := (joinAll_each (Q := fun _ => True) a.xs b.xs us hus (fun _ _ _ _ _ _ => trivial)).1
    obtain ⟨n, hn⟩ := ha
    obtain ⟨m, hm⟩ := hb
    have hl := right_same_len hn hm h5.1 h5.2
    have pair : ∀ (xs ys us : List Ty), xs.length = ys.length → Ty.joinAll xs ys = some us → us = ys.map Ty.erase → ∀ i (h1 : i < xs.length) (h2 : i < ys.length), (xs[i]'h1).joinT (ys[i]'h2) = some (ys[i]'h2).erase := fun xs => by
      induction xs with
      | nil => intro ys us _ _ _ i h1; simp at h1
      | cons x xs ihx =>
        intro ys us hl hj hu i h1 h2
        cases ys with
        | nil => simp at hl
        | cons y ys =>
          simp only [Ty.joinAll, Option.bind_eq_some_iff, Option.map_eq_some_iff] at hj
          obtain ⟨u, g1, vs, g2, rfl⟩ := hj
          rw [List.map_cons] at hu
          injection hu with hu1 hu2
          cases i with
          | zero => show x.joinT y = some y.erase; rw [g1, hu1]
          | succ i => exact ihx ys vs (by simpa using hl) g2 hu2 i (by simpa using h1) (by simpa using h2)
    have hp := pair a.xs b.xs us hl hus hue
    refine ⟨⟨h1.trans h5.1, h4⟩, ?_⟩
    by_cases k5 : v.k = 5
    · rw [if_pos k5] at h3 ⊢
      have l1 := tright_len5 ⟨n, hn⟩ (by omega)
      have l2 : 0 < b.xs.length := by omega
      have e1 : a.xs.getD 0 Ty.zero = a.xs[0]'(by omega) := by simp [show 0 < a.xs.length by omega]
      have e2 : b.xs.getD 0 Ty.zero = b.xs[0]'l2 := by simp [l2]
      rw [e1] at h3
      rw [e2]
      have key : ∀ xs : List Val, (∀ x, x ∈ xs → x.sz ≤ d) → Val.fits5 xs (a.xs[0]'(by omega)) = true → Val.fits5 xs (b.xs[0]'l2) = true := fun xs => by
        induction xs with
        | nil => intro _ _; rfl
        | cons x xs ihx =>
          intro hs h
          simp only [Val.fits5, Bool.and_eq_true] at h ⊢
          exact ⟨ih x _ _ (hs x (by simp)) h.1 (Ty.Rt.item ⟨n, hn⟩ (by simp)) (Ty.Rt.item ⟨m, hm⟩ (by simp)) (hp 0 (by omega) l2), ihx (fun z hz => hs z (List.mem_cons_of_mem _ hz)) h.2⟩
      exact key v.xs (fun x hx => by have := Val.size_mem hx; omega) h3
    rw [if_neg k5] at h3 ⊢
    by_cases k6 : v.k = 6
    · rw [if_pos k6] at h3 ⊢
      simp only [Bool.and_eq_true, decide_eq_true_eq] at h3 ⊢
      refine ⟨h3.1.trans h5.2, ?_⟩
      have key : ∀ (xs : List Val) (al bl : List Ty), al.length = bl.length → (∀ x, x ∈ xs → x.sz ≤ d) → (∀ x, x ∈ al → x.Rt) → (∀ x, x ∈ bl → x.Rt) → (∀ i (h1 : i < al.length) (h2 : i < bl.length), (al[i]'h1).joinT (bl[i]'h2) = some (bl[i]'h2).erase) → Val.fits6 xs al = true → Val.fits6 xs bl = true := fun xs => by
        induction xs with
        | nil => intro al bl _ _ _ _ _ _; simp [Val.fits6]
        | cons x xs ihx =>
          intro al bl hl hs hra hrb hj h
          cases al with
          | nil => simp [Val.fits6] at h
          | cons a' al =>
            cases bl with
            | nil => simp at hl
            | cons b' bl =>
              simp only [Val.fits6, Bool.and_eq_true] at h ⊢
              exact ⟨ih x a' b' (hs x (by simp)) h.1 (hra a' (by simp)) (hrb b' (by simp)) (hj 0 (by simp) (by simp)), ihx al bl (by simpa using hl) (fun z hz => hs z (List.mem_cons_of_mem _ hz)) (fun z hz => hra z (List.mem_cons_of_mem _ hz)) (fun z hz => hrb z (List.mem_cons_of_mem _ hz)) (fun i h1 h2 => hj (i + 1) (by simpa using h1) (by simpa using h2)) h.2⟩
      exact key v.xs a.xs b.xs hl (fun x hx => by have := Val.size_mem hx; omega) (fun x hx => Ty.Rt.item ⟨n, hn⟩ hx) (fun x hx => Ty.Rt.item ⟨m, hm⟩ hx) hp h3.2
    · rw [if_neg k6]
theorem FitsB_is {v : Val} {a b : Ty} (h : v.FitsB a = true) (hi : a.isB b = true) : v.FitsB b = true := by
  unfold Val.FitsB at h ⊢
  rw [isB_eq] at hi
  simp only [Bool.and_eq_true] at h hi ⊢
  refine ⟨h.1, hi.1.2, ?_⟩
  cases hj : a.joinT b with
  | none => rw [hj] at hi; simp at hi
  | some u =>
    rw [hj] at hi
    have hs : u.erase = b.erase := (Ty.sameB_erase u.sz u b (Nat.le_refl _)).1 hi.2
    rw [joinT_erased a.sz a b u (Nat.le_refl _) hj] at hs
    exact fits_join v.sz v a b (Nat.le_refl _) h.2.2 (RightB.some hi.1.1) (RightB.some hi.1.2) (by rw [hj, hs])
end Go.Proofs.YtjpdbhhjlnmacaaGreat
