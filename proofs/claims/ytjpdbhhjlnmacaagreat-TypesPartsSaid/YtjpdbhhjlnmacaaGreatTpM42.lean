/- What a list of one expression, and a record's field, are checked to. Plain lemmas. -/
import Derived.Test.YtjpdbhhjlnmacaaGreatTpM39
import Derived.Test.YtjpdbhhjlnmacaaGreatTpM40
import Derived.Test.YtjpdbhhjlnmacaaGreatTpM41
namespace Go.Proofs.YtjpdbhhjlnmacaaGreat
set_option linter.unusedVariables false
open Go.RowKit

theorem countAll_le {xs : List Exp} {m : Nat} (h : m ≤ 500) : Exp.countAll xs m ≤ 500 := by
  induction xs generalizing m with
  | nil => simpa [Exp.countAll] using h
  | cons x xs ih =>
    simp only [Exp.countAll]
    split
    · exact h
    · exact ih (Exp.count_le x.sz x m (Nat.le_refl _) (by omega)).2
theorem Exp.count_mono (d : Nat) : ∀ (v : Exp) (n m : Nat), v.sz ≤ d → n ≤ m → v.count n ≤ v.count m := by
  induction d with
  | zero => intro v n m hd; rw [Exp.sz_eq] at hd; omega
  | succ d ih =>
    intro v n m hd hnm
    have key : ∀ (xs : List Exp), (∀ x, x ∈ xs → x.sz ≤ d) → ∀ n m, n ≤ m → Exp.countAll xs n ≤ Exp.countAll xs m := fun xs => by
      induction xs with
      | nil => intro _ n m h; simpa [Exp.countAll] using h
      | cons x xs ihx =>
        intro hx n m h
        simp only [Exp.countAll]
        by_cases h1 : 500 ≤ n
        · rw [if_pos h1, if_pos (by omega)]; exact h
        · rw [if_neg h1]
          by_cases h2 : 500 ≤ m
          · rw [if_pos h2]
            exact Nat.le_trans (countAll_le (Exp.count_le x.sz x n (Nat.le_refl _) (by omega)).2) h2
          · rw [if_neg h2]
            exact ihx (fun y hy => hx y (List.mem_cons_of_mem _ hy)) _ _ (ih x n m (hx x (by simp)) h)
    rw [Exp.count_eq, Exp.count_eq]
    exact key v.xs (fun x hx => by have := Exp.size_mem hx; omega) _ _ (by omega)
theorem Exp.rightB_up (d : Nat) : ∀ (v : Exp) (n : Nat), v.sz ≤ d → v.rightB (n + 1) = true → v.rightB n = true := by
  induction d with
  | zero => intro v n hd; rw [Exp.sz_eq] at hd; omega
  | succ d ih =>
    intro v n hd h
    rw [Exp.rightB_eq] at h ⊢
    simp only [Bool.and_eq_true, Bool.not_eq_true', decide_eq_false_iff_not] at h ⊢
    refine ⟨⟨by omega, h.1.2⟩, ?_⟩
    have key : ∀ (xs : List Exp), (∀ x, x ∈ xs → x.sz ≤ d) → Exp.rightAll xs (n + 1 + 1) = true → Exp.rightAll xs (n + 1) = true := fun xs => by
      induction xs with
      | nil => intro _ _; rfl
      | cons x xs ihx =>
        intro hx h
        simp only [Exp.rightAll, Bool.and_eq_true] at h ⊢
        exact ⟨ih x _ (hx x (by simp)) h.1, ihx (fun y hy => hx y (List.mem_cons_of_mem _ hy)) h.2⟩
    exact key v.xs (fun x hx => by have := Exp.size_mem hx; omega) h.2
/-- A kid of a right one is right. -/
theorem kid_RightB {v x : Exp} (h : v.RightB = true) (hx : v.xs = [x]) : x.RightB = true := by
  unfold Exp.RightB at h ⊢
  simp only [Bool.and_eq_true, decide_eq_true_eq] at h ⊢
  obtain ⟨h1, h2⟩ := h
  rw [Exp.count_eq, hx] at h1
  rw [Exp.rightB_eq, hx] at h2
  have h3 : x.count 1 ≤ 200 := by
    simp only [Exp.countAll] at h1
    rw [if_neg (by omega)] at h1
    exact h1
  simp only [Bool.and_eq_true, Exp.rightAll] at h2
  exact ⟨Nat.le_trans (Exp.count_mono x.sz x 0 1 (Nat.le_refl _) (by omega)) h3, Exp.rightB_up x.sz x 1 (Nat.le_refl _) h2.2.1⟩
theorem toE_err {o : Option Ty} {k : Int} (h : toE o = .error k) : k ≠ 0 := by
  cases o with
  | none => injection h with h; omega
  | some v => cases h
theorem ownP_err {x : Exp} {ks : List Ty} {vs : List Var} {k : Int} (h : ownP x ks vs = .error k) : k ≠ 0 := by
  unfold ownP at h
  repeat' split at h
  all_goals first | exact toE_err h | (injection h with h; omega) | cases h
theorem checkP_err (d : Nat) : ∀ (vs : List Var) (x : Exp) (k : Int), x.sz ≤ d → checkP vs x = .error k → k ≠ 0 := by
  induction d with
  | zero => intro vs v k hd; rw [Exp.sz_eq] at hd; omega
  | succ d ih =>
    intro vs x k hd h
    have key : ∀ (xs : List Exp), (∀ x, x ∈ xs → x.sz ≤ d) → ∀ k, checkAll vs xs = .error k → k ≠ 0 := fun xs => by
      induction xs with
      | nil => intro _ k h; simp [checkAll] at h
      | cons y xs ihx =>
        intro hx k h
        rw [checkAll] at h
        cases h1 : checkP vs y with
        | error e =>
          rw [h1] at h
          injection h with h
          exact h ▸ ih vs y e (hx y (by simp)) h1
        | ok t =>
          rw [h1] at h
          cases h2 : checkAll vs xs with
          | error e =>
            rw [h2] at h
            injection h with h
            exact h ▸ ihx (fun z hz => hx z (List.mem_cons_of_mem _ hz)) e h2
          | ok ts => rw [h2] at h; cases h
    rw [checkP_eq] at h
    unfold restP at h
    cases h1 : checkAll vs x.xs with
    | error e =>
      rw [h1] at h
      injection h with h
      exact h ▸ key x.xs (fun y hy => by have := Exp.size_mem hy; omega) e h1
    | ok ks =>
      rw [h1] at h
      simp only [] at h
      cases h2 : ownP x ks vs with
      | error e =>
        rw [h2] at h
        injection h with h
        exact h ▸ ownP_err h2
      | ok t =>
        rw [h2] at h
        simp only [] at h
        split at h
        · cases h
        · injection h with h; omega
theorem checkF_err {x : Exp} {vs : List Var} {k : Int} (h : checkF x vs = .error k) : k ≠ 0 := by
  unfold checkF at h
  split at h
  · exact checkP_err x.sz vs x k (Nat.le_refl _) h
  · injection h with h; omega
/-- Of one kid. -/
theorem check_kid {v x : Exp} {vs : List Var} (hx : v.xs = [x]) : checkP vs v = match checkP vs x with | .error e => .error e | .ok t => restP v vs (.ok [t]) := by
  rw [checkP_eq, hx, checkAll]
  cases checkP vs x with
  | error e => rfl
  | ok t => rfl
theorem checkF_kid {v x : Exp} {vs : List Var} {k : Int} (hx : v.xs = [x]) (h : checkF x vs = .error k) : ∃ k2, checkF v vs = .error k2 ∧ k2 ≠ 0 := by
  cases h2 : checkF v vs with
  | error k2 => exact ⟨k2, rfl, checkF_err h2⟩
  | ok t =>
    exfalso
    unfold checkF at h h2
    split at h2
    · rename_i hr
      rw [Bool.and_eq_true] at hr
      rw [if_pos (by rw [Bool.and_eq_true]; exact ⟨hr.1, kid_RightB hr.2 hx⟩)] at h
      rw [check_kid hx, h] at h2
      cases h2
    · cases h2
theorem checkF_ok {x : Exp} {vs : List Var} {t : Ty} (h : checkF x vs = .ok t) : checkP vs x = .ok t := by
  unfold checkF at h
  split at h
  · exact h
  · cases h
theorem restP_ok (x : Exp) (vs : List Var) (ks : List Ty) : restP x vs (.ok ks) = match ownP x ks vs with | .error e => .error e | .ok t => if t.RightB then .ok t else .error 15 := rfl
theorem ownP_list {x : Exp} (ks : List Ty) (vs : List Var) (h : x.k = 16) : ownP x ks vs = match foldJ (Ty.of 7) ks with | some t => .ok (.mk 5 .no [] .no [t.erase]) | none => .error 6 := by
  unfold ownP
  rw [if_neg (by omega), if_neg (by omega), if_neg (by omega), if_pos h]
  rfl
theorem ownP_rec {x : Exp} (ks : List Ty) (vs : List Var) (h : x.k = 17) : ownP x ks vs = .ok (.mk 6 .no x.ns .no (ks.map Ty.erase)) := by
  unfold ownP
  rw [if_neg (by omega), if_neg (by omega), if_neg (by omega), if_neg (by omega), if_pos h]
theorem ownP_field {x : Exp} (ks : List Ty) (vs : List Var) (h : x.k = 18) : ownP x ks vs = if (nthT ks 0).k = 6 then (if nameIdx (nthT ks 0).ns x.s < 0 then .error 10 else .ok (nthT (nthT ks 0).xs (nameIdx (nthT ks 0).ns x.s).toNat).erase) else .error 6 := by
  unfold ownP
  rw [if_neg (by omega), if_neg (by omega), if_neg (by omega), if_neg (by omega), if_neg (by omega), if_pos h]
/-- A list of one. -/
theorem parts_list {x : Exp} {vs : List Var} {t : Ty} {xa : Sl} (h : checkF x vs = .ok t) :
    checkF (.mk 16 ⟨#[]⟩ Val.zero .no [] xa [x]) vs = .ok (.mk 5 .no [] .no [t.erase]) ∨ ∃ k, checkF (.mk 16 ⟨#[]⟩ Val.zero .no [] xa [x]) vs = .error k ∧ k ≠ 0 := by
  cases h2 : checkF (.mk 16 ⟨#[]⟩ Val.zero .no [] xa [x]) vs with
  | error k => exact .inr ⟨k, rfl, checkF_err h2⟩
  | ok u =>
    refine .inl ?_
    have h3 := checkF_ok h2
    rw [check_kid (x := x) rfl, checkF_ok h] at h3
    simp only [] at h3
    have ho : ownP (.mk 16 ⟨#[]⟩ Val.zero .no [] xa [x]) [t] vs = .ok (.mk 5 .no [] .no [t.erase]) := by
      have hj : (Ty.of 7).joinT t = some t.erase := by rw [Ty.joinT_eq, if_pos (show (Ty.of 7).k = 7 from rfl)]
      rw [ownP_list [t] vs (show (Exp.mk 16 ⟨#[]⟩ Val.zero .no [] xa [x]).k = 16 from rfl)]
      simp only [foldJ, hj, Option.bind_some, Ty.ee]
    rw [restP_ok, ho] at h3
    simp only [] at h3
    split at h3
    · rw [← h3]
    · cases h3
/-- A record's field. -/
theorem parts_field {x : Exp} {vs : List Var} {t : Ty} {na xa xb : Sl} (h : checkF x vs = .ok t) :
    (∃ v, checkF (.mk 18 ⟨#[97]⟩ Val.zero .no [] xb [.mk 17 ⟨#[]⟩ Val.zero na [⟨#[97]⟩] xa [x]]) vs = .ok v ∧ v.erase = t.erase) ∨ ∃ k, checkF (.mk 18 ⟨#[97]⟩ Val.zero .no [] xb [.mk 17 ⟨#[]⟩ Val.zero na [⟨#[97]⟩] xa [x]]) vs = .error k ∧ k ≠ 0 := by
  cases h2 : checkF (.mk 18 ⟨#[97]⟩ Val.zero .no [] xb [.mk 17 ⟨#[]⟩ Val.zero na [⟨#[97]⟩] xa [x]]) vs with
  | error k => exact .inr ⟨k, rfl, checkF_err h2⟩
  | ok u =>
    refine .inl ⟨u, rfl, ?_⟩
    have h3 := checkF_ok h2
    rw [check_kid (x := .mk 17 ⟨#[]⟩ Val.zero na [⟨#[97]⟩] xa [x]) rfl, check_kid (v := .mk 17 ⟨#[]⟩ Val.zero na [⟨#[97]⟩] xa [x]) (x := x) rfl, checkF_ok h] at h3
    simp only [] at h3
    have ho : ownP (.mk 17 ⟨#[]⟩ Val.zero na [⟨#[97]⟩] xa [x]) [t] vs = .ok (.mk 6 .no [⟨#[97]⟩] .no [t.erase]) := ownP_rec [t] vs rfl
    have hr : restP (.mk 17 ⟨#[]⟩ Val.zero na [⟨#[97]⟩] xa [x]) vs (.ok [t]) = .ok (.mk 6 .no [⟨#[97]⟩] .no [t.erase]) ∨ ∃ e, restP (.mk 17 ⟨#[]⟩ Val.zero na [⟨#[97]⟩] xa [x]) vs (.ok [t]) = .error e := by
      rw [restP_ok, ho]
      simp only []
      split
      · exact .inl rfl
      · exact .inr ⟨_, rfl⟩
    rcases hr with hr | ⟨e, hr⟩
    · rw [hr] at h3
      simp only [] at h3
      have ho2 : ownP (.mk 18 ⟨#[97]⟩ Val.zero .no [] xb [.mk 17 ⟨#[]⟩ Val.zero na [⟨#[97]⟩] xa [x]]) [.mk 6 .no [⟨#[97]⟩] .no [t.erase]] vs = .ok t.erase.erase := by
        have hn : nameIdx [(⟨#[97]⟩ : ByteArray)] ⟨#[97]⟩ = 0 := nameIdx_hit (i := 0) (by simp) rfl (fun j hj h => by omega)
        rw [ownP_field _ vs (show (Exp.mk 18 ⟨#[97]⟩ Val.zero .no [] xb [.mk 17 ⟨#[]⟩ Val.zero na [⟨#[97]⟩] xa [x]]).k = 18 from rfl)]
        rw [if_pos (show (nthT [Ty.mk 6 .no [⟨#[97]⟩] .no [t.erase]] 0).k = 6 from rfl)]
        have hn' : nameIdx (nthT [Ty.mk 6 .no [⟨#[97]⟩] .no [t.erase]] 0).ns (Exp.mk 18 ⟨#[97]⟩ Val.zero .no [] xb [.mk 17 ⟨#[]⟩ Val.zero na [⟨#[97]⟩] xa [x]]).s = 0 := hn
        rw [hn', if_neg (by omega)]
        rfl
      rw [restP_ok, ho2] at h3
      simp only [] at h3
      split at h3
      · injection h3 with h3
        rw [← h3, Ty.ee, Ty.ee]
      · cases h3
    · rw [hr] at h3
      cases h3
end Go.Proofs.YtjpdbhhjlnmacaaGreat

/- The document's parser: an expression of two kids (printed by wip/gen_par4.py). -/
namespace Go.Proofs.YtjpdbhhjlnmacaaGreat
set_option linter.unusedVariables false
open Go.RowKit

/-- An expression of two kids that lies in new memory. -/
abbrev Exp.two (k : Int) (xa : Sl) (a b : Exp) : Exp := .mk k ⟨#[]⟩ Val.zero .no [] xa [a, b]
/-- Where it begins. -/
structure T0 (w W : World) (a b : Exp) : Prop where
  below : Below w.heap.size w W
  ba : Blk W w.heap.size 29 a.cells.toArray
  bb : Blk W (w.heap.size + 1) 29 b.cells.toArray
  br : Blk W (w.heap.size + 1 + 1) 29 zero10
  size : W.heap.size = w.heap.size + 1 + 1 + 1
theorem t0_start (w : World) (a b : Exp) : T0 w (((w.alloc (.cells a.cells.toArray 29)).alloc (.cells b.cells.toArray 29)).alloc (.cells zero10 29)) a b := by
  have h1 := Blk.new w 29 a.cells.toArray
  have h2 := Blk.new (w.alloc (.cells a.cells.toArray 29)) 29 b.cells.toArray
  have h3 := Blk.new ((w.alloc (.cells a.cells.toArray 29)).alloc (.cells b.cells.toArray 29)) 29 zero10
  rw [show (w.alloc (.cells a.cells.toArray 29)).heap.size = w.heap.size + 1 from by simp] at h2
  rw [show ((w.alloc (.cells a.cells.toArray 29)).alloc (.cells b.cells.toArray 29)).heap.size = w.heap.size + 1 + 1 from by simp] at h3
  exact ⟨(((Below.refl _ w).alloc (Nat.le_refl _) _).alloc (by simp) _).alloc (by simp; omega) _, (h1.alloc _).alloc _, h2.alloc _, h3, by simp⟩
theorem two_in {w W : World} {k : Int} {a b : Exp} {g : Nat} (hk : i64r k) (ha : a.In W) (hb : b.In W) (hg : Blk W g 29 (a.cells ++ b.cells).toArray) : (Exp.two k (.at_ g 0 2) a b).In W := by
  rw [Exp.in_iff]
  refine ⟨⟨hk, by show (⟨#[]⟩ : ByteArray).size ≤ _; decide, by show 0 ≤ _; omega, by show 2 ≤ _; omega, fun s hs => by simp [Exp.ns] at hs⟩, ?_, rfl, ⟨Nat.le_refl _, by omega, fun i hi j hj => ⟨?_, hg.lt⟩⟩, fun x hx => ?_⟩
  · rw [show (Exp.two k (.at_ g 0 2) a b).v = Val.zero from rfl, Val.in_iff]
    exact ⟨⟨by unfold i64r; decide, by unfold i64r; decide, by decide, by unfold strok; decide, by decide, by decide, fun s h => by simp [Val.ns] at h⟩, rfl, rfl, fun x hx => by simp [Val.xs] at hx⟩
  · rw [hg.cell]
    have hi2 : i = 0 ∨ i = 1 := by have : i < 2 := hi; omega
    rcases hi2 with rfl | rfl
    · show (a.cells ++ b.cells).toArray[0 + (0 * 10 + j)]? = a.cells[j]?
      rw [List.getElem?_toArray, List.getElem?_append_left (by rw [xcells_len]; omega)]
      congr 1
      omega
    · show (a.cells ++ b.cells).toArray[0 + (1 * 10 + j)]? = b.cells[j]?
      rw [List.getElem?_toArray, List.getElem?_append_right (by rw [xcells_len]; omega), xcells_len]
      congr 1
      omega
  · have : x = a ∨ x = b := by simpa [Exp.xs] using hx
    rcases this with rfl | rfl
    · exact ha
    · exact hb

set_option maxHeartbeats 16000000 in
set_option maxRecDepth 100000 in
theorem two_any (k : Int) (a b : Exp) (w : World) (hk : i64r k) (ha : a.In w) (hb : b.In w) :
    Calls Tryz.prog 112 #[.int .i64 k, a.agg, b.agg] w fun e w' => ∃ g, w.heap.size ≤ g ∧ e = .returned (Exp.two k (.at_ g 0 2) a b).agg ∧ (Exp.two k (.at_ g 0 2) a b).In w' ∧ Below w.heap.size w w' := by
  obtain ⟨W, hW⟩ : ∃ W, W = ((w.alloc (.cells a.cells.toArray 29)).alloc (.cells b.cells.toArray 29)).alloc (.cells zero10 29) := ⟨_, rfl⟩
  have h0 : T0 w W a b := by rw [hW]; exact t0_start w a b
  obtain ⟨a8, am8, ea8⟩ := ha.nslice; obtain ⟨a9, am9, ea9⟩ := ha.xslice; obtain ⟨a6, am6, ea6⟩ := ha.val.nslice; obtain ⟨a7, am7, ea7⟩ := ha.val.xslice
  obtain ⟨b8, bm8, eb8⟩ := hb.nslice; obtain ⟨b9, bm9, eb9⟩ := hb.xslice; obtain ⟨b6, bm6, eb6⟩ := hb.val.nslice; obtain ⟨b7, bm7, eb7⟩ := hb.val.xslice
  have hca : a.cells.toArray = #[.int .i64 a.k, .string a.s, .int .i64 a.v.k, .int .i64 a.v.n, .float .f64 a.v.f, .string a.v.s, .slice a6 a.v.ns.length am6, .slice a7 a.v.xs.length am7, .slice a8 a.ns.length am8, .slice a9 a.xs.length am9] := by unfold Exp.cells; rw [ea6, ea7, ea8, ea9]
  have hcb : b.cells.toArray = #[.int .i64 b.k, .string b.s, .int .i64 b.v.k, .int .i64 b.v.n, .float .f64 b.v.f, .string b.v.s, .slice b6 b.v.ns.length bm6, .slice b7 b.v.xs.length bm7, .slice b8 b.ns.length bm8, .slice b9 b.xs.length bm9] := by unfold Exp.cells; rw [eb6, eb7, eb8, eb9]
  have haW := ha.below h0.below; have hbW := hb.below h0.below
  obtain ⟨A, hA⟩ : ∃ A, A = w.heap.size := ⟨_, rfl⟩
  have ba := h0.ba; have bb := h0.bb; have br := h0.br; have hz := h0.size
  rw [← hA] at ba bb br hz
  rw [hca] at ba
  rw [hcb] at bb
  have hab : (a.cells ++ b.cells).toArray = #[.int .i64 a.k, .string a.s, .int .i64 a.v.k, .int .i64 a.v.n, .float .f64 a.v.f, .string a.v.s, .slice a6 a.v.ns.length am6, .slice a7 a.v.xs.length am7, .slice a8 a.ns.length am8, .slice a9 a.xs.length am9, .int .i64 b.k, .string b.s, .int .i64 b.v.k, .int .i64 b.v.n, .float .f64 b.v.f, .string b.v.s, .slice b6 b.v.ns.length bm6, .slice b7 b.v.xs.length bm7, .slice b8 b.ns.length bm8, .slice b9 b.xs.length bm9] := by
    have : (a.cells ++ b.cells).toArray = a.cells.toArray ++ b.cells.toArray := by simp
    rw [this, hca, hcb]
    rfl
  obtain ⟨W2, hW2⟩ : ∃ W2, W2 = ((((((((((W.setCell ⟨A + 1 + 1, 0, none⟩ (.int .i64 k)).setCell ⟨A + 1 + 1, 1, none⟩ (.string ⟨#[]⟩)).setCell ⟨A + 1 + 1, 2, none⟩ (.int .i64 0)).setCell ⟨A + 1 + 1, 3, none⟩ (.int .i64 0)).setCell ⟨A + 1 + 1, 4, none⟩ (.float .f64 0)).setCell ⟨A + 1 + 1, 5, none⟩ (.string ⟨#[]⟩)).setCell ⟨A + 1 + 1, 6, none⟩ (.slice none 0 0)).setCell ⟨A + 1 + 1, 7, none⟩ (.slice none 0 0)).setCell ⟨A + 1 + 1, 8, none⟩ (.slice none 0 0)).setCell ⟨A + 1 + 1, 9, none⟩ (.slice (some ⟨W.heap.size, 0, none⟩) 2 2)) := ⟨_, rfl⟩
  have hb2 : Below w.heap.size w W2 := by rw [hW2]; exact below10_set h0.below (by omega) (.int .i64 k) (.string ⟨#[]⟩) (.int .i64 0) (.int .i64 0) (.float .f64 0) (.string ⟨#[]⟩) (.slice none 0 0) (.slice none 0 0) (.slice none 0 0) (.slice (some ⟨W.heap.size, 0, none⟩) 2 2)
  have br2 : Blk W2 (A + 1 + 1) 29 #[.int .i64 k, .string ⟨#[]⟩, .int .i64 0, .int .i64 0, .float .f64 0, .string ⟨#[]⟩, .slice none 0 0, .slice none 0 0, .slice none 0 0, .slice (some ⟨W.heap.size, 0, none⟩) 2 2] := by rw [hW2]; exact blk10_set br (.int .i64 k) (.string ⟨#[]⟩) (.int .i64 0) (.int .i64 0) (.float .f64 0) (.string ⟨#[]⟩) (.slice none 0 0) (.slice none 0 0) (.slice none 0 0) (.slice (some ⟨W.heap.size, 0, none⟩) 2 2)
  have hz2 : W2.heap.size = W.heap.size := by rw [hW2]; simp [World.setCell]
  obtain ⟨WF, hWF⟩ : ∃ WF, WF = W2.alloc (.cells #[.int .i64 a.k, .string a.s, .int .i64 a.v.k, .int .i64 a.v.n, .float .f64 a.v.f, .string a.v.s, .slice a6 a.v.ns.length am6, .slice a7 a.v.xs.length am7, .slice a8 a.ns.length am8, .slice a9 a.xs.length am9, .int .i64 b.k, .string b.s, .int .i64 b.v.k, .int .i64 b.v.n, .float .f64 b.v.f, .string b.v.s, .slice b6 b.v.ns.length bm6, .slice b7 b.v.xs.length bm7, .slice b8 b.ns.length bm8, .slice b9 b.xs.length bm9] 29) := ⟨_, rfl⟩
  have hbF : Below w.heap.size w WF := by rw [hWF]; exact hb2.alloc (by rw [hz2, hz, hA]; omega) _
  have hF : Blk WF (A + 1 + 1) 29 #[.int .i64 k, .string ⟨#[]⟩, .int .i64 0, .int .i64 0, .float .f64 0, .string ⟨#[]⟩, .slice none 0 0, .slice none 0 0, .slice none 0 0, .slice (some ⟨W.heap.size, 0, none⟩) 2 2] := by rw [hWF]; exact br2.alloc _
  have blF : Blk WF W.heap.size 29 (a.cells ++ b.cells).toArray := by rw [hab, hWF, ← hz2]; exact Blk.new W2 29 _
  have hin : (Exp.two k (.at_ W.heap.size 0 2) a b).In WF := two_in (w := w) hk (ha.below hbF) (hb.below hbF) blF
  have c0 := ba.cell 0; have c1 := ba.cell 1; have c2 := ba.cell 2; have c3 := ba.cell 3; have c4 := ba.cell 4; have c5 := ba.cell 5; have c6 := ba.cell 6; have c7 := ba.cell 7; have c8 := ba.cell 8; have c9 := ba.cell 9
  have d0 := bb.cell 0; have d1 := bb.cell 1; have d2 := bb.cell 2; have d3 := bb.cell 3; have d4 := bb.cell 4; have d5 := bb.cell 5; have d6 := bb.cell 6; have d7 := bb.cell 7; have d8 := bb.cell 8; have d9 := bb.cell 9
  have r0 := br.cell 0; have r1 := br.cell 1; have r2 := br.cell 2; have r3 := br.cell 3; have r4 := br.cell 4; have r5 := br.cell 5; have r6 := br.cell 6; have r7 := br.cell 7; have r8 := br.cell 8; have r9 := br.cell 9
  have s0 := br.frozen 0; have s1 := br.frozen 1; have s2 := br.frozen 2; have s3 := br.frozen 3; have s4 := br.frozen 4; have s5 := br.frozen 5; have s6 := br.frozen 6; have s7 := br.frozen 7; have s8 := br.frozen 8; have s9 := br.frozen 9
  have hlt2 : A + 1 + 1 < W.heap.size := by omega
  simp at c0 c1 c2 c3 c4 c5 c6 c7 c8 c9 d0 d1 d2 d3 d4 d5 d6 d7 d8 d9 r0 r1 r2 r3 r4 r5 r6 r7 r8 r9
  rw [hca, hcb] at hW
  unfold Exp.agg
  rw [ea6, ea7, ea8, ea9, eb6, eb7, eb8, eb9]
  have hsf := run_store_flt
  have HW := Lib.hid hW; have HA := Lib.hid hA; have HZ := Lib.hid hz; have HW2 := Lib.hid hW2; have HBF := Lib.hid hbF; have HF := Lib.hid hF; have HIN := Lib.hid hin; have HWF := Lib.hid hWF
  clear hW h0 ba bb br hz hW2 hab hb2 br2 hz2 hWF hbF hF blF hin ha hb haW hbW hca hcb ea6 ea7 ea8 ea9 eb6 eb7 eb8 eb9 hA
  go_enter Tryz.func112, Tryz.ntmps112
  go_upto_region 1 with fail
  unfold zero10 at HW
  rw [← HW.out, ← HA.out]
  go_wp2_with fail
  rw [← HW2.out, ← HWF.out]
  have f0 := HF.out.cell 0; have f1 := HF.out.cell 1; have f2 := HF.out.cell 2; have f3 := HF.out.cell 3; have f4 := HF.out.cell 4; have f5 := HF.out.cell 5; have f6 := HF.out.cell 6; have f7 := HF.out.cell 7; have f8 := HF.out.cell 8; have f9 := HF.out.cell 9
  simp at f0 f1 f2 f3 f4 f5 f6 f7 f8 f9
  refine bodyPost_ret (v := .agg #[.int .i64 k, .string ⟨#[]⟩, .int .i64 0, .int .i64 0, .float .f64 0, .string ⟨#[]⟩, .slice none 0 0, .slice none 0 0, .slice none 0 0, .slice (some ⟨W.heap.size, 0, none⟩) 2 2]) (by simp [results, Tryz.results112, go_sem, f0, f1, f2, f3, f4, f5, f6, f7, f8, f9]) rfl ?_
  exact ⟨W.heap.size, by rw [HZ.out, HA.out]; omega, rfl, HIN.out, HBF.out⟩
end Go.Proofs.YtjpdbhhjlnmacaaGreat
