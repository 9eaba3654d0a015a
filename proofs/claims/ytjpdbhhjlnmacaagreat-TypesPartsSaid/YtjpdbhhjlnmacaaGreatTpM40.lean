/- Joins of types: the same in either order, however three are put together, of one with itself. Plain lemmas. -/
import Derived.Test.YtjpdbhhjlnmacaaGreatTpM36
import Derived.Test.YtjpdbhhjlnmacaaGreatTpM37
namespace Go.Proofs.YtjpdbhhjlnmacaaGreat
set_option linter.unusedVariables false
open Go.RowKit

abbrev Ty.Rt (a : Ty) : Prop := ∃ n, a.rightB n = true
theorem rt7 {a : Ty} (h : a.Rt) (hk : a.k = 7) : a.erase = .mk 7 .no [] .no [] := by
  obtain ⟨n, h⟩ := h
  rw [Ty.rightB_eq] at h
  split at h
  · cases h
  rw [if_neg (by omega), if_neg (by omega), if_pos (by omega)] at h
  simp only [Bool.and_eq_true, decide_eq_true_eq] at h
  rw [Ty.erase_eq, hk, List.eq_nil_of_length_eq_zero h.1, List.eq_nil_of_length_eq_zero h.2]
  rfl
theorem Ty.Rt.item {a x : Ty} (h : a.Rt) (hx : x ∈ a.xs) : x.Rt := by
  obtain ⟨n, h⟩ := h
  exact right_items h x hx
theorem joinT_erased (d : Nat) : ∀ a b v : Ty, a.sz ≤ d → a.joinT b = some v → v.erase = v := by
  induction d with
  | zero => intro a b v hd; rw [Ty.sz_eq] at hd; omega
  | succ d ih =>
    intro a b v hd h
    rw [Ty.joinT_eq] at h
    split at h
    · injection h with h; rw [← h, Ty.ee]
    split at h
    · injection h with h; rw [← h, Ty.ee]
    split at h
    · rw [Option.map_eq_some_iff] at h
      obtain ⟨us, hus, rfl⟩ := h
      have hall := (joinAll_each (Q := fun u => u.erase = u) a.xs b.xs us hus (fun x hx y hy u hu => ih x y u (by have := Ty.size_mem hx; omega) hu)).2
      rw [Ty.erase_eq]
      show Ty.mk _ .no _ .no (us.map Ty.erase) = _
      have e : us.map Ty.erase = us := by
        have : ∀ l : List Ty, (∀ u, u ∈ l → u.erase = u) → l.map Ty.erase = l := fun l => by
          induction l with
          | nil => intro _; rfl
          | cons x l ihl => intro h; rw [List.map_cons, h x (by simp), ihl (fun z hz => h z (List.mem_cons_of_mem _ hz))]
        exact this us hall
      rw [e]
      rfl
    · cases h
theorem joinAll_comm : ∀ (xs ys : List Ty), xs.length = ys.length → (∀ x, x ∈ xs → ∀ y, y ∈ ys → x.joinT y = y.joinT x) → Ty.joinAll xs ys = Ty.joinAll ys xs
  | [], [], _, _ => rfl
  | [], y :: ys, h, _ => by simp at h
  | x :: xs, [], h, _ => by simp at h
  | x :: xs, y :: ys, h, hq => by
    simp only [Ty.joinAll]
    rw [hq x (by simp) y (by simp), joinAll_comm xs ys (by simpa using h) (fun a ha b hb => hq a (List.mem_cons_of_mem _ ha) b (List.mem_cons_of_mem _ hb))]
theorem joinT_commD (d : Nat) : ∀ a b : Ty, a.sz ≤ d → a.Rt → b.Rt → a.joinT b = b.joinT a := by
  induction d with
  | zero => intro a b hd; rw [Ty.sz_eq] at hd; omega
  | succ d ih =>
    intro a b hd ha hb
    rw [Ty.joinT_eq a b, Ty.joinT_eq b a]
    by_cases h1 : a.k = 7
    · by_cases h2 : b.k = 7
      · rw [if_pos h1, if_pos h2, rt7 ha h1, rt7 hb h2]
      · rw [if_pos h1, if_neg h2, if_pos h1]
    · by_cases h2 : b.k = 7
      · rw [if_neg h1, if_pos h2, if_pos h2]
      · rw [if_neg h1, if_neg h2, if_neg h2, if_neg h1]
        by_cases h3 : a.k = b.k ∧ a.ns = b.ns
        · obtain ⟨n, hn⟩ := ha
          obtain ⟨m, hm⟩ := hb
          rw [if_pos h3, if_pos ⟨h3.1.symm, h3.2.symm⟩, joinAll_comm a.xs b.xs (right_same_len hn hm h3.1 h3.2) (fun x hx y hy => ih x y (by have := Ty.size_mem hx; omega) (Ty.Rt.item ⟨n, hn⟩ hx) (Ty.Rt.item ⟨m, hm⟩ hy)), h3.1, h3.2]
        · rw [if_neg h3, if_neg (fun h => h3 ⟨h.1.symm, h.2.symm⟩)]
theorem joinT_comm {a b : Ty} (ha : a.Rt) (hb : b.Rt) : a.joinT b = b.joinT a := joinT_commD a.sz a b (Nat.le_refl _) ha hb
theorem joinAll_self : ∀ (xs : List Ty), (∀ x, x ∈ xs → x.joinT x = some x.erase) → Ty.joinAll xs xs = some (xs.map Ty.erase)
  | [], _ => rfl
  | x :: xs, h => by
    simp only [Ty.joinAll]
    rw [h x (by simp), joinAll_self xs (fun z hz => h z (List.mem_cons_of_mem _ hz))]
    rfl
theorem joinT_selfD (d : Nat) : ∀ a : Ty, a.sz ≤ d → a.joinT a = some a.erase := by
  induction d with
  | zero => intro a hd; rw [Ty.sz_eq] at hd; omega
  | succ d ih =>
    intro a hd
    rw [Ty.joinT_eq]
    by_cases h1 : a.k = 7
    · rw [if_pos h1]
    · rw [if_neg h1, if_neg h1, if_pos ⟨rfl, rfl⟩, joinAll_self a.xs (fun x hx => ih x (by have := Ty.size_mem hx; omega)), Ty.erase_eq a]
      rfl
theorem joinT_self (a : Ty) : a.joinT a = some a.erase := joinT_selfD a.sz a (Nat.le_refl _)
theorem joinAll_assoc : ∀ (xs ys zs : List Ty), xs.length = ys.length → ys.length = zs.length → (∀ x, x ∈ xs → ∀ y, y ∈ ys → ∀ z, z ∈ zs → (x.joinT y).bind (fun u => u.joinT z) = (y.joinT z).bind (fun p => x.joinT p)) →
    (Ty.joinAll xs ys).bind (fun us => Ty.joinAll us zs) = (Ty.joinAll ys zs).bind (fun ps => Ty.joinAll xs ps)
  | [], [], [], _, _, _ => rfl
  | [], y :: ys, _, h, _, _ => by simp at h
  | x :: xs, [], _, h, _, _ => by simp at h
  | [], [], z :: zs, _, h, _ => by simp at h
  | x :: xs, y :: ys, [], _, h, _ => by simp at h
  | x :: xs, y :: ys, z :: zs, h1, h2, hq => by
    have hh := hq x (by simp) y (by simp) z (by simp)
    have ht := joinAll_assoc xs ys zs (by simpa using h1) (by simpa using h2) (fun a ha b hb c hc => hq a (List.mem_cons_of_mem _ ha) b (List.mem_cons_of_mem _ hb) c (List.mem_cons_of_mem _ hc))
    simp only [Ty.joinAll]
    cases e1 : x.joinT y with
    | none =>
      rw [e1] at hh
      cases e3 : y.joinT z with
      | none => rfl
      | some p =>
        rw [e3] at hh
        have hh' : x.joinT p = none := hh.symm
        cases e4 : Ty.joinAll ys zs with
        | none => rfl
        | some ps => simp [Ty.joinAll, hh']
    | some u =>
      rw [e1] at hh
      cases e2 : Ty.joinAll xs ys with
      | none =>
        rw [e2] at ht
        cases e3 : y.joinT z with
        | none => rfl
        | some p =>
          cases e4 : Ty.joinAll ys zs with
          | none => rfl
          | some ps =>
            rw [e4] at ht
            have ht' : Ty.joinAll xs ps = none := ht.symm
            simp [Ty.joinAll, ht']
      | some us =>
        rw [e2] at ht
        cases e3 : y.joinT z with
        | none =>
          rw [e3] at hh
          have hh' : u.joinT z = none := hh
          simp [Ty.joinAll, hh']
        | some p =>
          rw [e3] at hh
          have hh' : u.joinT z = x.joinT p := hh
          cases e4 : Ty.joinAll ys zs with
          | none =>
            rw [e4] at ht
            have ht' : Ty.joinAll us zs = none := ht
            simp [Ty.joinAll, ht']
          | some ps =>
            rw [e4] at ht
            have ht' : Ty.joinAll us zs = Ty.joinAll xs ps := ht
            simp [Ty.joinAll, hh', ht']
theorem joinT_assocD (d : Nat) : ∀ a b c : Ty, a.sz ≤ d → a.Rt → b.Rt → c.Rt → (a.joinT b).bind (fun x => x.joinT c) = (b.joinT c).bind (fun q => a.joinT q) := by
  induction d with
  | zero => intro a b c hd; rw [Ty.sz_eq] at hd; omega
  | succ d ih =>
    intro a b c hd ha hb hc
    have hbc := fun v (h : b.joinT c = some v) => joinT_erased b.sz b c v (Nat.le_refl _) h
    have hab := fun v (h : a.joinT b = some v) => joinT_erased a.sz a b v (Nat.le_refl _) h
    by_cases h1 : a.k = 7
    · have e : a.joinT b = some b.erase := by rw [Ty.joinT_eq, if_pos h1]
      rw [e]
      show b.erase.joinT c = _
      rw [Ty.joinT_eraseL]
      cases h : b.joinT c with
      | none => rfl
      | some v =>
        show some v = a.joinT v
        rw [Ty.joinT_eq, if_pos h1, hbc v h]
    by_cases h2 : b.k = 7
    · have e : a.joinT b = some a.erase := by rw [Ty.joinT_eq, if_neg h1, if_pos h2]
      have e2 : b.joinT c = some c.erase := by rw [Ty.joinT_eq, if_pos h2]
      rw [e, e2]
      show a.erase.joinT c = a.joinT c.erase
      rw [Ty.joinT_eraseL, Ty.joinT_eraseR]
    by_cases h3 : c.k = 7
    · have e2 : b.joinT c = some b.erase := by rw [Ty.joinT_eq, if_neg h2, if_pos h3]
      rw [e2]
      show _ = a.joinT b.erase
      rw [Ty.joinT_eraseR]
      cases h : a.joinT b with
      | none => rfl
      | some v =>
        show v.joinT c = some v
        have hv := hab v h
        by_cases h4 : v.k = 7
        · rw [Ty.joinT_eq, if_pos h4, rt7 hc h3, ← hv]
          obtain ⟨n, hn⟩ := ha
          obtain ⟨m, hm⟩ := hb
          rw [Ty.joinT_eq, if_neg h1, if_neg h2] at h
          split at h
          · rw [Option.map_eq_some_iff] at h
            obtain ⟨us, hus, rfl⟩ := h
            exact absurd h4 h1
          · cases h
        · rw [Ty.joinT_eq, if_neg h4, if_pos h3, hv]
    by_cases hx : a.k = b.k ∧ a.ns = b.ns
    · have e : a.joinT b = (Ty.joinAll a.xs b.xs).map (fun us => .mk a.k .no a.ns .no us) := by rw [Ty.joinT_eq, if_neg h1, if_neg h2, if_pos hx]
      rw [e]
      by_cases hy : b.k = c.k ∧ b.ns = c.ns
      · have e2 : b.joinT c = (Ty.joinAll b.xs c.xs).map (fun us => .mk b.k .no b.ns .no us) := by rw [Ty.joinT_eq, if_neg h2, if_neg h3, if_pos hy]
        rw [e2]
        obtain ⟨n, hn⟩ := ha
        obtain ⟨m, hm⟩ := hb
        obtain ⟨l, hl⟩ := hc
        have hall := joinAll_assoc a.xs b.xs c.xs (right_same_len hn hm hx.1 hx.2) (right_same_len hm hl hy.1 hy.2) (fun x hx y hy z hz => ih x y z (by have := Ty.size_mem hx; omega) (Ty.Rt.item ⟨n, hn⟩ hx) (Ty.Rt.item ⟨m, hm⟩ hy) (Ty.Rt.item ⟨l, hl⟩ hz))
        have f1 : ∀ us, (Ty.mk a.k .no a.ns .no us).joinT c = (Ty.joinAll us c.xs).map (fun us => .mk a.k .no a.ns .no us) := fun us => by
          rw [Ty.joinT_eq, if_neg (show ¬ (Ty.mk a.k .no a.ns .no us).k = 7 from h1), if_neg h3, if_pos (show (Ty.mk a.k .no a.ns .no us).k = c.k ∧ (Ty.mk a.k .no a.ns .no us).ns = c.ns from ⟨hx.1.trans hy.1, hx.2.trans hy.2⟩)]
          rfl
        have f2 : ∀ us, a.joinT (Ty.mk b.k .no b.ns .no us) = (Ty.joinAll a.xs us).map (fun us => .mk a.k .no a.ns .no us) := fun us => by
          rw [Ty.joinT_eq, if_neg h1, if_neg (show ¬ (Ty.mk b.k .no b.ns .no us).k = 7 from h2), if_pos (show a.k = (Ty.mk b.k .no b.ns .no us).k ∧ a.ns = (Ty.mk b.k .no b.ns .no us).ns from hx)]
          rfl
        cases e3 : Ty.joinAll a.xs b.xs with
        | none =>
          rw [e3] at hall
          cases e4 : Ty.joinAll b.xs c.xs with
          | none => rfl
          | some ps =>
            rw [e4] at hall
            have hall' : Ty.joinAll a.xs ps = none := hall.symm
            show none = a.joinT _
            rw [f2, hall']
            rfl
        | some us =>
          rw [e3] at hall
          show (Ty.mk a.k .no a.ns .no us).joinT c = _
          rw [f1]
          cases e4 : Ty.joinAll b.xs c.xs with
          | none =>
            rw [e4] at hall
            have hall' : Ty.joinAll us c.xs = none := hall
            rw [hall']
            rfl
          | some ps =>
            rw [e4] at hall
            have hall' : Ty.joinAll us c.xs = Ty.joinAll a.xs ps := hall
            show _ = a.joinT _
            rw [f2, hall']
      · have e2 : b.joinT c = none := by rw [Ty.joinT_eq, if_neg h2, if_neg h3, if_neg hy]
        rw [e2]
        show _ = none
        cases e3 : Ty.joinAll a.xs b.xs with
        | none => rfl
        | some us =>
          show (Ty.mk a.k .no a.ns .no us).joinT c = none
          rw [Ty.joinT_eq, if_neg (show ¬ (Ty.mk a.k .no a.ns .no us).k = 7 from h1), if_neg h3, if_neg (show ¬ ((Ty.mk a.k .no a.ns .no us).k = c.k ∧ (Ty.mk a.k .no a.ns .no us).ns = c.ns) from fun h => hy ⟨hx.1.symm.trans h.1, hx.2.symm.trans h.2⟩)]
    · have e : a.joinT b = none := by rw [Ty.joinT_eq, if_neg h1, if_neg h2, if_neg hx]
      rw [e]
      show none = _
      by_cases hy : b.k = c.k ∧ b.ns = c.ns
      · have e2 : b.joinT c = (Ty.joinAll b.xs c.xs).map (fun us => .mk b.k .no b.ns .no us) := by rw [Ty.joinT_eq, if_neg h2, if_neg h3, if_pos hy]
        rw [e2]
        cases e4 : Ty.joinAll b.xs c.xs with
        | none => rfl
        | some ps =>
          show none = a.joinT (Ty.mk b.k .no b.ns .no ps)
          rw [Ty.joinT_eq, if_neg h1, if_neg (show ¬ (Ty.mk b.k .no b.ns .no ps).k = 7 from h2), if_neg (show ¬ (a.k = (Ty.mk b.k .no b.ns .no ps).k ∧ a.ns = (Ty.mk b.k .no b.ns .no ps).ns) from hx)]
      · have e2 : b.joinT c = none := by rw [Ty.joinT_eq, if_neg h2, if_neg h3, if_neg hy]
        rw [e2]
        rfl
theorem joinT_assoc {a b c : Ty} (ha : a.Rt) (hb : b.Rt) (hc : c.Rt) : (a.joinT b).bind (fun x => x.joinT c) = (b.joinT c).bind (fun q => a.joinT q) := joinT_assocD a.sz a b c (Nat.le_refl _) ha hb hc
/-- Each stands for what it joins to. -/
theorem joinT_up {a b v : Ty} (ha : a.Rt) (hb : b.Rt) (h : a.joinT b = some v) : a.joinT v = some v ∧ b.joinT v = some v := by
  have h1 := joinT_assoc ha ha hb
  rw [joinT_self, h] at h1
  have h1' : a.erase.joinT b = a.joinT v := h1
  rw [Ty.joinT_eraseL, h] at h1'
  have h2 := joinT_assoc hb hb ha
  rw [joinT_self, ← joinT_comm ha hb, h] at h2
  have h2' : b.erase.joinT a = b.joinT v := h2
  rw [Ty.joinT_eraseL, ← joinT_comm ha hb, h] at h2'
  exact ⟨h1'.symm, h2'.symm⟩
end Go.Proofs.YtjpdbhhjlnmacaaGreat

/- The document's parser: what a step answers; two kids (printed by wip/gen_par2.py). -/
namespace Go.Proofs.YtjpdbhhjlnmacaaGreat
set_option linter.unusedVariables false
open Go.RowKit

abbrev zero10 : Array Value := #[.int .i64 0, .string ⟨#[]⟩, .int .i64 0, .int .i64 0, .float .f64 0, .string ⟨#[]⟩, .slice none 0 0, .slice none 0 0, .slice none 0 0, .slice none 0 0]
set_option maxHeartbeats 4000000 in
theorem blk10_set {w : World} {g : Nat} {T : TypeId} {x0 x1 x2 x3 x4 x5 x6 x7 x8 x9 : Value} (hb : Blk w g T #[x0, x1, x2, x3, x4, x5, x6, x7, x8, x9]) (u0 u1 u2 u3 u4 u5 u6 u7 u8 u9 : Value) : Blk (((((((((((w.setCell ⟨g, 0, none⟩ u0).setCell ⟨g, 1, none⟩ u1).setCell ⟨g, 2, none⟩ u2).setCell ⟨g, 3, none⟩ u3).setCell ⟨g, 4, none⟩ u4).setCell ⟨g, 5, none⟩ u5).setCell ⟨g, 6, none⟩ u6).setCell ⟨g, 7, none⟩ u7).setCell ⟨g, 8, none⟩ u8).setCell ⟨g, 9, none⟩ u9)) g T #[u0, u1, u2, u3, u4, u5, u6, u7, u8, u9] := by
  have := ((((((((((hb.set_ 0 u0).set_ 1 u1).set_ 2 u2).set_ 3 u3).set_ 4 u4).set_ 5 u5).set_ 6 u6).set_ 7 u7).set_ 8 u8).set_ 9 u9)
  simpa using this
theorem below10_set {B g : Nat} {w W : World} (h : Below B w W) (hg : B ≤ g) (u0 u1 u2 u3 u4 u5 u6 u7 u8 u9 : Value) : Below B w (((((((((((W.setCell ⟨g, 0, none⟩ u0).setCell ⟨g, 1, none⟩ u1).setCell ⟨g, 2, none⟩ u2).setCell ⟨g, 3, none⟩ u3).setCell ⟨g, 4, none⟩ u4).setCell ⟨g, 5, none⟩ u5).setCell ⟨g, 6, none⟩ u6).setCell ⟨g, 7, none⟩ u7).setCell ⟨g, 8, none⟩ u8).setCell ⟨g, 9, none⟩ u9)) :=
  ((((((((((h.setCell (p := ⟨g, 0, none⟩) hg u0).setCell (p := ⟨g, 1, none⟩) hg u1).setCell (p := ⟨g, 2, none⟩) hg u2).setCell (p := ⟨g, 3, none⟩) hg u3).setCell (p := ⟨g, 4, none⟩) hg u4).setCell (p := ⟨g, 5, none⟩) hg u5).setCell (p := ⟨g, 6, none⟩) hg u6).setCell (p := ⟨g, 7, none⟩) hg u7).setCell (p := ⟨g, 8, none⟩) hg u8).setCell (p := ⟨g, 9, none⟩) hg u9)
theorem only10_set {p g : Nat} {w W : World} (h : Only w W p) (hg : w.heap.size ≤ g) (u0 u1 u2 u3 u4 u5 u6 u7 u8 u9 : Value) : Only w (((((((((((W.setCell ⟨g, 0, none⟩ u0).setCell ⟨g, 1, none⟩ u1).setCell ⟨g, 2, none⟩ u2).setCell ⟨g, 3, none⟩ u3).setCell ⟨g, 4, none⟩ u4).setCell ⟨g, 5, none⟩ u5).setCell ⟨g, 6, none⟩ u6).setCell ⟨g, 7, none⟩ u7).setCell ⟨g, 8, none⟩ u8).setCell ⟨g, 9, none⟩ u9)) p :=
  ((((((((((h.set_ (p := ⟨g, 0, none⟩) (.inr hg) u0).set_ (p := ⟨g, 1, none⟩) (.inr hg) u1).set_ (p := ⟨g, 2, none⟩) (.inr hg) u2).set_ (p := ⟨g, 3, none⟩) (.inr hg) u3).set_ (p := ⟨g, 4, none⟩) (.inr hg) u4).set_ (p := ⟨g, 5, none⟩) (.inr hg) u5).set_ (p := ⟨g, 6, none⟩) (.inr hg) u6).set_ (p := ⟨g, 7, none⟩) (.inr hg) u7).set_ (p := ⟨g, 8, none⟩) (.inr hg) u8).set_ (p := ⟨g, 9, none⟩) (.inr hg) u9)
/-- What a step of the parser answers. -/
def PX (Q : Exp → Prop) (p : Nat) (tp : Option Addr) (tc : Nat) (ts : List Tok) (en j d : Nat) (w : World) (e : Ending) (w' : World) : Prop :=
  ∃ x : Exp, e = .returned x.agg ∧ Q x ∧ x.In w' ∧ x.Sep (fun b => w.heap.size ≤ b) ∧ PS w' p tp tc ts en j d ∧ Only w w' p
/-- In the midst of one: room for the result at A, what was read last at B. -/
structure Mid (w W : World) (A B p : Nat) (tp : Option Addr) (tc : Nat) (ts : List Tok) (en i d : Nat) (x : Exp) : Prop where
  hA : A = w.heap.size
  hp : p < A
  hAB : A < B
  ps : PS W p tp tc ts en i d
  only : Only w W p
  bA : Blk W A 29 zero10
  bB : Blk W B 29 x.cells.toArray
  hin : x.In W
  sep : x.Sep (fun b => A + 1 ≤ b ∧ b ≠ B)
  toks : ∀ g o m, tp = some ⟨g, o, m⟩ → ts.length = 0 ∨ g < A
section
variable {w W W' : World} {A B p : Nat} {tp : Option Addr} {tc : Nat} {ts : List Tok} {en i d i' d' : Nat} {x : Exp} {Q : Exp → Prop}
theorem In.only {v : Exp} {S : Nat → Prop} (h : v.In w) (hs : v.Sep S) (hne : ∀ b, S b → b ≠ p) (ho : Only w W p) : v.In W :=
  h.carryS hs (fun b o hb hlt => World.cell?_of_block (a := ⟨b, o, none⟩) (ho.block b hlt (by simpa using hne b hb))) ho.size
theorem Mid.step (h : Mid w W A B p tp tc ts en i d x) (hps : PS W' p tp tc ts en i' d') (ho : Only W W' p) : Mid w W' A B p tp tc ts en i' d' x :=
  ⟨h.hA, h.hp, h.hAB, hps, h.only.trans ho, h.bA.grown ho (by have := h.hp; simp; omega), h.bB.grown ho (by have := h.hp; have := h.hAB; simp; omega), In.only h.hin h.sep (fun b hb => by have := h.hp; omega) ho, h.sep, h.toks⟩
theorem px_ps (h : PS w p tp tc ts en i d) : PS (w.alloc (.cells zero10 29)) p tp tc ts en i d := h.below ((Below.refl _ w).alloc (Nat.le_refl _) _)
theorem PS.toks_lt (h : PS w p tp tc ts en i d) : ∀ g o m, tp = some ⟨g, o, m⟩ → ts.length = 0 ∨ g < w.heap.size := fun g o m e => by
  rcases Nat.eq_zero_or_pos ts.length with h0 | h0
  · exact .inl h0
  · obtain ⟨g', a, b, _⟩ := h.toks.at_ 0 h0
    rw [a] at e
    injection e with e
    injection e with e
    exact .inr (by omega)
theorem PS.keep2 (h : PS w p tp tc ts en i d) (hb : Blk W p 97 #[.slice tp ts.length tc, .int .i64 (i' : Int), .int .i64 (en : Int), .int .i64 0, .int .i64 0, .int .i64 (d' : Int)]) (hz : w.heap.size ≤ W.heap.size) (hk : ∀ g, tp = some ⟨g, 0, none⟩ → 0 < ts.length → W.heap[g]? = w.heap[g]?) : PS W p tp tc ts en i' d' :=
  ⟨hb, ⟨h.toks.cap, fun k hk' => by
    obtain ⟨g, a, b, c⟩ := h.toks.at_ k hk'
    refine ⟨g, a, Nat.lt_of_lt_of_le b hz, fun j hj => ?_⟩
    rw [← c j hj]
    exact World.cell?_of_block (a := ⟨g, k * 6 + j, none⟩) (hk g a (by omega))⟩, h.apart⟩
theorem PS.drew (h : PS w p tp tc ts en i d) : PS w.drew p tp tc ts en i d := h.keep h.blk ((Only.refl w p).drew)
theorem Mid.drew (h : Mid w W A B p tp tc ts en i d x) : Mid w W.drew A B p tp tc ts en i d x := h.step h.ps.drew ((Only.refl W p).drew)
theorem mid_start {i0 d0 : Nat} {w1 : World} {v6 v7 v8 v9 : Value} (h0 : PS w p tp tc ts en i0 d0) (hq : x.In w1) (hs : x.Sep (fun b => (w.alloc (.cells zero10 29)).heap.size ≤ b)) (hps : PS w1 p tp tc ts en i d) (ho : Only (w.alloc (.cells zero10 29)) w1 p)
    (e6 : x.v.na.val x.v.ns.length = v6) (e7 : x.v.xa.val x.v.xs.length = v7) (e8 : x.na.val x.ns.length = v8) (e9 : x.xa.val x.xs.length = v9) :
    Mid w (w1.alloc (.cells #[.int .i64 x.k, .string x.s, .int .i64 x.v.k, .int .i64 x.v.n, .float .f64 x.v.f, .string x.v.s, v6, v7, v8, v9] 29)) w.heap.size w1.heap.size p tp tc ts en i d x := by
  have hb : Below w1.heap.size w1 (w1.alloc (.cells #[.int .i64 x.k, .string x.s, .int .i64 x.v.k, .int .i64 x.v.n, .float .f64 x.v.f, .string x.v.s, v6, v7, v8, v9] 29)) := (Below.refl _ w1).alloc (Nat.le_refl _) _
  have hp := h0.blk.lt
  have hz := ho.size
  simp at hz hs
  have h1 : Blk w1 w.heap.size 29 zero10 := (Blk.new w 29 zero10).grown ho (by simp; omega)
  refine ⟨rfl, hp, by omega, hps.below hb, ((Only.of_below ((Below.refl _ w).alloc (Nat.le_refl _) _) p).trans ho).trans (Only.of_below hb p), h1.alloc _, ?_, hq.below hb, (hs.and hq.sep).mono (fun b hb => by omega), h0.toks_lt⟩
  have := Blk.new w1 29 #[.int .i64 x.k, .string x.s, .int .i64 x.v.k, .int .i64 x.v.n, .float .f64 x.v.f, .string x.v.s, v6, v7, v8, v9]
  unfold Exp.cells
  rw [e6, e7, e8, e9]
  exact this
theorem mid_end {WF : World} {v6 v7 v8 v9 : Value} (h : Mid w W A B p tp tc ts en i d x) (hq : Q x) (e6 : x.v.na.val x.v.ns.length = v6) (e7 : x.v.xa.val x.v.xs.length = v7) (e8 : x.na.val x.ns.length = v8) (e9 : x.xa.val x.xs.length = v9)
    (hWF : WF = ((((((((((W.setCell ⟨A, 0, none⟩ (.int .i64 x.k)).setCell ⟨A, 1, none⟩ (.string x.s)).setCell ⟨A, 2, none⟩ (.int .i64 x.v.k)).setCell ⟨A, 3, none⟩ (.int .i64 x.v.n)).setCell ⟨A, 4, none⟩ (.float .f64 x.v.f)).setCell ⟨A, 5, none⟩ (.string x.v.s)).setCell ⟨A, 6, none⟩ v6).setCell ⟨A, 7, none⟩ v7).setCell ⟨A, 8, none⟩ v8).setCell ⟨A, 9, none⟩ v9)) :
    Blk WF A 29 #[.int .i64 x.k, .string x.s, .int .i64 x.v.k, .int .i64 x.v.n, .float .f64 x.v.f, .string x.v.s, v6, v7, v8, v9] ∧ PX Q p tp tc ts en i d w (.returned (.agg #[.int .i64 x.k, .string x.s, .int .i64 x.v.k, .int .i64 x.v.n, .float .f64 x.v.f, .string x.v.s, v6, v7, v8, v9])) WF := by
  have ho : Only W WF A := by
    rw [hWF]
    exact (((((((((((Only.refl W A).set_ (p := ⟨A, 0, none⟩) (.inl rfl) _).set_ (p := ⟨A, 1, none⟩) (.inl rfl) _).set_ (p := ⟨A, 2, none⟩) (.inl rfl) _).set_ (p := ⟨A, 3, none⟩) (.inl rfl) _).set_ (p := ⟨A, 4, none⟩) (.inl rfl) _).set_ (p := ⟨A, 5, none⟩) (.inl rfl) _).set_ (p := ⟨A, 6, none⟩) (.inl rfl) _).set_ (p := ⟨A, 7, none⟩) (.inl rfl) _).set_ (p := ⟨A, 8, none⟩) (.inl rfl) _).set_ (p := ⟨A, 9, none⟩) (.inl rfl) _)
  have hb : Blk WF A 29 #[.int .i64 x.k, .string x.s, .int .i64 x.v.k, .int .i64 x.v.n, .float .f64 x.v.f, .string x.v.s, v6, v7, v8, v9] := by rw [hWF]; exact blk10_set h.bA (.int .i64 x.k) (.string x.s) (.int .i64 x.v.k) (.int .i64 x.v.n) (.float .f64 x.v.f) (.string x.v.s) (v6) (v7) (v8) (v9)
  have how : Only w WF p := by rw [hWF]; exact only10_set h.only (by rw [h.hA]; exact Nat.le_refl _) (.int .i64 x.k) (.string x.s) (.int .i64 x.v.k) (.int .i64 x.v.n) (.float .f64 x.v.f) (.string x.v.s) (v6) (v7) (v8) (v9)
  refine ⟨hb, x, by unfold Exp.agg; rw [e6, e7, e8, e9], hq, In.only h.hin h.sep (fun b hb => by omega) ho, h.sep.mono (fun b hb => by have := h.hA; omega), ?_, how⟩
  have hpA := h.hp
  refine h.ps.keep2 (h.ps.blk.grown ho (by simp; omega)) ho.size (fun g hg hl => ?_)
  have hgA := h.toks g 0 none hg
  exact ho.block g (by have := h.bA.lt; omega) (by simp; omega)
theorem mid_again {z : Exp} {w4 w5 WZ : World} {j2 d2 : Nat} {v6 v7 v8 v9 : Value} (h : Mid w W A B p tp tc ts en i d x) (hps : PS w4 p tp tc ts en j2 d2) (ho : Only W w4 p) (hb5 : Below w4.heap.size w4 w5) (hz : z.In w5) (hzs : z.Sep (fun b => A + 1 ≤ b ∧ b ≠ B))
    (e6 : z.v.na.val z.v.ns.length = v6) (e7 : z.v.xa.val z.v.xs.length = v7) (e8 : z.na.val z.ns.length = v8) (e9 : z.xa.val z.xs.length = v9)
    (hWZ : WZ = ((((((((((w5.setCell ⟨B, 0, none⟩ (.int .i64 z.k)).setCell ⟨B, 1, none⟩ (.string z.s)).setCell ⟨B, 2, none⟩ (.int .i64 z.v.k)).setCell ⟨B, 3, none⟩ (.int .i64 z.v.n)).setCell ⟨B, 4, none⟩ (.float .f64 z.v.f)).setCell ⟨B, 5, none⟩ (.string z.v.s)).setCell ⟨B, 6, none⟩ v6).setCell ⟨B, 7, none⟩ v7).setCell ⟨B, 8, none⟩ v8).setCell ⟨B, 9, none⟩ v9)) : Mid w WZ A B p tp tc ts en j2 d2 z := by
  have h4 := h.step hps ho
  have hps5 := hps.below hb5
  have bA5 := h4.bA.below hb5 h4.bA.lt
  have bB5 := h4.bB.below hb5 h4.bB.lt
  have ho5 : Only w w5 p := h4.only.trans (Only.of_below hb5 p)
  have hp := h.hp; have hAB := h.hAB; have hA := h.hA
  have hoZ : Only w5 WZ B := by
    rw [hWZ]
    exact (((((((((((Only.refl w5 B).set_ (p := ⟨B, 0, none⟩) (.inl rfl) _).set_ (p := ⟨B, 1, none⟩) (.inl rfl) _).set_ (p := ⟨B, 2, none⟩) (.inl rfl) _).set_ (p := ⟨B, 3, none⟩) (.inl rfl) _).set_ (p := ⟨B, 4, none⟩) (.inl rfl) _).set_ (p := ⟨B, 5, none⟩) (.inl rfl) _).set_ (p := ⟨B, 6, none⟩) (.inl rfl) _).set_ (p := ⟨B, 7, none⟩) (.inl rfl) _).set_ (p := ⟨B, 8, none⟩) (.inl rfl) _).set_ (p := ⟨B, 9, none⟩) (.inl rfl) _)
  have hb : Blk WZ B 29 #[.int .i64 z.k, .string z.s, .int .i64 z.v.k, .int .i64 z.v.n, .float .f64 z.v.f, .string z.v.s, v6, v7, v8, v9] := by
    rw [hWZ]
    unfold Exp.cells at bB5
    exact blk10_set bB5 (.int .i64 z.k) (.string z.s) (.int .i64 z.v.k) (.int .i64 z.v.n) (.float .f64 z.v.f) (.string z.v.s) (v6) (v7) (v8) (v9)
  have how : Only w WZ p := by rw [hWZ]; exact only10_set ho5 (by omega) (.int .i64 z.k) (.string z.s) (.int .i64 z.v.k) (.int .i64 z.v.n) (.float .f64 z.v.f) (.string z.v.s) (v6) (v7) (v8) (v9)
  refine ⟨hA, hp, hAB, ?_, how, bA5.grown hoZ (by simp; omega), ?_, In.only hz hzs (fun b hb => hb.2) hoZ, hzs, h.toks⟩
  · refine hps5.keep2 (hps5.blk.grown hoZ (by simp; omega)) hoZ.size (fun g hg hl => ?_)
    have hgA := h.toks g 0 none hg
    exact hoZ.block g (by have := bA5.lt; omega) (by simp; omega)
  · unfold Exp.cells
    rw [e6, e7, e8, e9]
    exact hb
end
end Go.Proofs.YtjpdbhhjlnmacaaGreat
