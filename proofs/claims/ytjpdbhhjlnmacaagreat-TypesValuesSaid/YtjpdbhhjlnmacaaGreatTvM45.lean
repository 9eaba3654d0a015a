/- Joins of types: the same in either order, however three are put together, of one with itself. Plain lemmas. -/
import Derived.Test.YtjpdbhhjlnmacaaGreatTvM43
import Derived.Test.YtjpdbhhjlnmacaaGreatTvM44
namespace Go.Proofs.YtjpdbhhjlnmacaaGreat
set_option linter.unusedVariables false
open Go.RowKit

abbrev Ty.Rt (a : Ty) : Prop := ∃ n, a.rightB n = true
theorem rt7 {a : Ty} (h : a.Rt) (hk : a.k = 7) : a.erase = .mk 7 .no [] .no [] := by
  obtain ⟨n, h⟩ := h
  rw [Ty.rightB_eq] at h
  split at h
  · cases h
  rw [if_neg (by omega), if_neg (by omega), if_pos (by omega)] at h
  simp only [Bool.and_eq_true, decide_eq_true_eq] at h
  rw [Ty.erase_eq, hk, List.eq_nil_of_length_eq_zero h.1, List.eq_nil_of_length_eq_zero h.2]
  rfl
theorem Ty.Rt.item {a x : Ty} (h : a.Rt) (hx : x ∈ a.xs) : x.Rt := by
  obtain ⟨n, h⟩ := h
  exact right_items h x hx
theorem joinT_erased (d : Nat) : ∀ a b v : Ty, a.sz ≤ d → a.joinT b = some v → v.erase = v := by
  induction d with
  | zero => intro a b v hd; rw [Ty.sz_eq] at hd; omega
  | succ d ih =>
    intro a b v hd h
    rw [Ty.joinT_eq] at h
    split at h
    · injection h with h; rw [← h, Ty.ee]
    split at h
    · injection h with h; rw [← h, Ty.ee]
    split at h
    · rw [Option.map_eq_some_iff] at h
      obtain ⟨us, hus, rfl⟩ := h
      have hall := (joinAll_each (Q := fun u => u.erase = u) a.xs b.xs us hus (fun x hx y hy u hu => ih x y u (by have := Ty.size_mem hx; omega) hu)).2
      rw [Ty.erase_eq]
      show Ty.mk _ .no _ .no (us.map Ty.erase) = _
      have e : us.map Ty.erase = us := by
        have : ∀ l : List Ty, (∀ u, u ∈ l → u.erase = u) → l.map Ty.erase = l := fun l => by
          induction l with
          | nil => intro _; rfl
          | cons x l ihl => intro h; rw [List.map_cons, h x (by simp), ihl (fun z hz => h z (List.mem_cons_of_mem _ hz))]
        exact this us hall
      rw [e]
      rfl
    · cases h
theorem joinAll_comm : ∀ (xs ys : List Ty), xs.length = ys.length → (∀ x, x ∈ xs → ∀ y, y ∈ ys → x.joinT y = y.joinT x) → Ty.joinAll xs ys = Ty.joinAll ys xs
  | [], [], _, _ => rfl
  | [], y :: ys, h, _ => by simp at h
  | x :: xs, [], h, _ => by simp at h
  | x :: xs, y :: ys, h, hq => by
    simp only [Ty.joinAll]
    rw [hq x (by simp) y (by simp), joinAll_comm xs ys (by simpa using h) (fun a ha b hb => hq a (List.mem_cons_of_mem _ ha) b (List.mem_cons_of_mem _ hb))]
theorem joinT_commD (d : Nat) : ∀ a b : Ty, a.sz ≤ d → a.Rt → b.Rt → a.joinT b = b.joinT a := by
  induction d with
  | zero => intro a b hd; rw [Ty.sz_eq] at hd; omega
  | succ d ih =>
    intro a b hd ha hb
    rw [Ty.joinT_eq a b, Ty.joinT_eq b a]
    by_cases h1 : a.k = 7
    · by_cases h2 : b.k = 7
      · rw [if_pos h1, if_pos h2, rt7 ha h1, rt7 hb h2]
      · rw [if_pos h1, if_neg h2, if_pos h1]
    · by_cases h2 : b.k = 7
      · rw [if_neg h1, if_pos h2, if_pos h2]
      · rw [if_neg h1, if_neg h2, if_neg h2, if_neg h1]
        by_cases h3 : a.k = b.k ∧ a.ns = b.ns
        · obtain ⟨n, hn⟩ := ha
          obtain ⟨m, hm⟩ := hb
          rw [if_pos h3, if_pos ⟨h3.1.symm, h3.2.symm⟩, joinAll_comm a.xs b.xs (right_same_len hn hm h3.1 h3.2) (fun x hx y hy => ih x y (by have := Ty.size_mem hx; omega) (Ty.Rt.item ⟨n, hn⟩ hx) (Ty.Rt.item ⟨m, hm⟩ hy)), h3.1, h3.2]
        · rw [if_neg h3, if_neg (fun h => h3 ⟨h.1.symm, h.2.symm⟩)]
theorem joinT_comm {a b : Ty} (ha : a.Rt) (hb : b.Rt) : a.joinT b = b.joinT a := joinT_commD a.sz a b (Nat.le_refl _) ha hb
theorem joinAll_self : ∀ (xs : List Ty), (∀ x, x ∈ xs → x.joinT x = some x.erase) → Ty.joinAll xs xs = some (xs.map Ty.erase)
  | [], _ => rfl
  | x :: xs, h => by
    simp only [Ty.joinAll]
    rw [h x (by simp), joinAll_self xs (fun z hz => h z (List.mem_cons_of_mem _ hz))]
    rfl
theorem joinT_selfD (d : Nat) : ∀ a : Ty, a.sz ≤ d → a.joinT a = some a.erase := by
  induction d with
  | zero => intro a hd; rw [Ty.sz_eq] at hd; omega
  | succ d ih =>
    intro a hd
    rw [Ty.joinT_eq]
    by_cases h1 : a.k = 7
    · rw [if_pos h1]
    · rw [if_neg h1, if_neg h1, if_pos ⟨rfl, rfl⟩, joinAll_self a.xs (fun x hx => ih x (by have := Ty.size_mem hx; omega)), Ty.erase_eq a]
      rfl
theorem joinT_self (a : Ty) : a.joinT a = some a.erase := joinT_selfD a.sz a (Nat.le_refl _)
theorem joinAll_assoc : ∀ (xs ys zs : List Ty), xs.length = ys.length → ys.length = zs.length → (∀ x, x ∈ xs → ∀ y, y ∈ ys → ∀ z, z ∈ zs → (x.joinT y).bind (fun u => u.joinT z) = (y.joinT z).bind (fun p => x.joinT p)) →
    (Ty.joinAll xs ys).bind (fun us => Ty.joinAll us zs) = (Ty.joinAll ys zs).bind (fun ps => Ty.joinAll xs ps)
  | [], [], [], _, _, _ => rfl
  | [], y :: ys, _, h, _, _ => by simp at h
  | x :: xs, [], _, h, _, _ => by simp at h
  | [], [], z :: zs, _, h, _ => by simp at h
  | x :: xs, y :: ys, [], _, h, _ => by simp at h
  | x :: xs, y :: ys, z :: zs, h1, h2, hq => by
    have hh := hq x (by simp) y (by simp) z (by simp)
    have ht := joinAll_assoc xs ys zs (by simpa using h1) (by simpa using h2) (fun a ha b hb c hc => hq a (List.mem_cons_of_mem _ ha) b (List.mem_cons_of_mem _ hb) c (List.mem_cons_of_mem _ hc))
    simp only [Ty.joinAll]
    cases e1 : x.joinT y with
    | none =>
      rw [e1] at hh
      cases e3 : y.joinT z with
      | none => rfl
      | some p =>
        rw [e3] at hh
        have hh' : x.joinT p = none := hh.symm
        cases e4 : Ty.joinAll ys zs with
        | none => rfl
        | some ps => simp [Ty.joinAll, hh']
    | some u =>
      rw [e1] at hh
      cases e2 : Ty.joinAll xs ys with
      | none =>
        rw [e2] at ht
        cases e3 : y.joinT z with
        | none => rfl
        | some p =>
          cases e4 : Ty.joinAll ys zs with
          | none => rfl
          | some ps =>
            rw [e4] at ht
            have ht' : Ty.joinAll xs ps = none := ht.symm
            simp [Ty.joinAll, ht']
      | some us =>
        rw [e2] at ht
        cases e3 : y.joinT z with
        | none =>
          rw [e3] at hh
          have hh' : u.joinT z = none := hh
          simp [Ty.joinAll, hh']
        | some p =>
          rw [e3] at hh
          have hh' : u.joinT z = x.joinT p := hh
          cases e4 : Ty.joinAll ys zs with
          | none =>
            rw [e4] at ht
            have ht' : Ty.joinAll us zs = none := ht
            simp [Ty.joinAll, ht']
          | some ps =>
            rw [e4] at ht
            have ht' : Ty.joinAll us zs = Ty.joinAll xs ps := ht
            simp [Ty.joinAll, hh', ht']
theorem joinT_assocD (d : Nat) : ∀ a b c : Ty, a.sz ≤ d → a.Rt → b.Rt → c.Rt → (a.joinT b).bind (fun x => x.joinT c) = (b.joinT c).bind (fun q => a.joinT q) := by
  induction d with
  | zero => intro a b c hd; rw [Ty.sz_eq] at hd; omega
  | succ d ih =>
    intro a b c hd ha hb hc
    have hbc := fun v (h : b.joinT c = some v) => joinT_erased b.sz b c v (Nat.le_refl _) h
    have hab := fun v (h : a.joinT b = some v) => joinT_erased a.sz a b v (Nat.le_refl _) h
    by_cases h1 : a.k = 7
    · have e : a.joinT b = some b.erase := by rw [Ty.joinT_eq, if_pos h1]
      rw [e]
      show b.erase.joinT c = _
      rw [Ty.joinT_eraseL]
      cases h : b.joinT c with
      | none => rfl
      | some v =>
        show some v = a.joinT v
        rw [Ty.joinT_eq, if_pos h1, hbc v h]
    by_cases h2 : b.k = 7
    · have e : a.joinT b = some a.erase := by rw [Ty.joinT_eq, if_neg h1, if_pos h2]
      have e2 : b.joinT c = some c.erase := by rw [Ty.joinT_eq, if_pos h2]
      rw [e, e2]
      show a.erase.joinT c = a.joinT c.erase
      rw [Ty.joinT_eraseL, Ty.joinT_eraseR]
    by_cases h3 : c.k = 7
    · have e2 : b.joinT c = some b.erase := by rw [Ty.joinT_eq, if_neg h2, if_pos h3]
      rw [e2]
      show _ = a.joinT b.erase
      rw [Ty.joinT_eraseR]
      cases h : a.joinT b with
      | none => rfl
      | some v =>
        show v.joinT c = some v
        have hv := hab v h
        by_cases h4 : v.k = 7
        · rw [Ty.joinT_eq, if_pos h4, rt7 hc h3, ← hv]
          obtain ⟨n, hn⟩ := ha
          obtain ⟨m, hm⟩ := hb
          rw [Ty.joinT_eq, if_neg h1, if_neg h2] at h
          split at h
          · rw [Option.map_eq_some_iff] at h
            obtain ⟨us, hus, rfl⟩ := h
            exact absurd h4 h1
          · cases h
        · rw [Ty.joinT_eq, if_neg h4, if_pos h3, hv]
    by_cases hx : a.k = b.k ∧ a.ns = b.ns
    · have e : a.joinT b = (Ty.joinAll a.xs b.xs).map (fun us => .mk a.k .no a.ns .no us) := by rw [Ty.joinT_eq, if_neg h1, if_neg h2, if_pos hx]
      rw [e]
      by_cases hy : b.k = c.k ∧ b.ns = c.ns
      · have e2 : b.joinT c = (Ty.joinAll b.xs c.xs).map (fun us => .mk b.k .no b.ns .no us) := by rw [Ty.joinT_eq, if_neg h2, if_neg h3, if_pos hy]
        rw [e2]
        obtain ⟨n, hn⟩ := ha
        obtain ⟨m, hm⟩ := hb
        obtain ⟨l, hl⟩ := hc
        have hall := joinAll_assoc a.xs b.xs c.xs (right_same_len hn hm hx.1 hx.2) (right_same_len hm hl hy.1 hy.2) (fun x hx y hy z hz => ih x y z (by have := Ty.size_mem hx; omega) (Ty.Rt.item ⟨n, hn⟩ hx) (Ty.Rt.item ⟨m, hm⟩ hy) (Ty.Rt.item ⟨l, hl⟩ hz))
        have f1 : ∀ us, (Ty.mk a.k .no a.ns .no us).joinT c = (Ty.joinAll us c.xs).map (fun us => .mk a.k .no a.ns .no us) := fun us => by
          rw [Ty.joinT_eq, if_neg (show ¬ (Ty.mk a.k .no a.ns .no us).k = 7 from h1), if_neg h3, if_pos (show (Ty.mk a.k .no a.ns .no us).k = c.k ∧ (Ty.mk a.k .no a.ns .no us).ns = c.ns from ⟨hx.1.trans hy.1, hx.2.trans hy.2⟩)]
          rfl
        have f2 : ∀ us, a.joinT (Ty.mk b.k .no b.ns .no us) = (Ty.joinAll a.xs us).map (fun us => .mk a.k .no a.ns .no us) := fun us => by
          rw [Ty.joinT_eq, if_neg h1, if_neg (show ¬ (Ty.mk b.k .no b.ns .no us).k = 7 from h2), if_pos (show a.k = (Ty.mk b.k .no b.ns .no us).k ∧ a.ns = (Ty.mk b.k .no b.ns .no us).ns from hx)]
          rfl
        cases e3 : Ty.joinAll a.xs b.xs with
        | none =>
          rw [e3] at hall
          cases e4 : Ty.joinAll b.xs c.xs with
          | none => rfl
          | some ps =>
            rw [e4] at hall
            have hall' : Ty.joinAll a.xs ps = none := hall.symm
            show none = a.joinT _
            rw [f2, hall']
            rfl
        | some us =>
          rw [e3] at hall
          show (Ty.mk a.k .no a.ns .no us).joinT c = _
          rw [f1]
          cases e4 : Ty.joinAll b.xs c.xs with
          | none =>
            rw [e4] at hall
            have hall' : Ty.joinAll us c.xs = none := hall
            rw [hall']
            rfl
          | some ps =>
            rw [e4] at hall
            have hall' : Ty.joinAll us c.xs = Ty.joinAll a.xs ps := hall
            show _ = a.joinT _
            rw [f2, hall']
      · have e2 : b.joinT c = none := by rw [Ty.joinT_eq, if_neg h2, if_neg h3, if_neg hy]
        rw [e2]
        show _ = none
        cases e3 : Ty.joinAll a.xs b.xs with
        | none => rfl
        | some us =>
          show (Ty.mk a.k .no a.ns .no us).joinT c = none
          rw [Ty.joinT_eq, if_neg (show ¬ (Ty.mk a.k .no a.ns .no us).k = 7 from h1), if_neg h3, if_neg (show ¬ ((Ty.mk a.k .no a.ns .no us).k = c.k ∧ (Ty.mk a.k .no a.ns .no us).ns = c.ns) from fun h => hy ⟨hx.1.symm.trans h.1, hx.2.symm.trans h.2⟩)]
    · have e : a.joinT b = none := by rw [Ty.joinT_eq, if_neg h1, if_neg h2, if_neg hx]
      rw [e]
      show none = _
      by_cases hy : b.k = c.k ∧ b.ns = c.ns
      · have e2 : b.joinT c = (Ty.joinAll b.xs c.xs).map (fun us => .mk b.k .no b.ns .no us) := by rw [Ty.joinT_eq, if_neg h2, if_neg h3, if_pos hy]
        rw [e2]
        cases e4 : Ty.joinAll b.xs c.xs with
        | none => rfl
        | some ps =>
          show none = a.joinT (Ty.mk b.k .no b.ns .no ps)
          rw [Ty.joinT_eq, if_neg h1, if_neg (show ¬ (Ty.mk b.k .no b.ns .no ps).k = 7 from h2), if_neg (show ¬ (a.k = (Ty.mk b.k .no b.ns .no ps).k ∧ a.ns = (Ty.mk b.k .no b.ns .no ps).ns) from hx)]
      · have e2 : b.joinT c = none := by rw [Ty.joinT_eq, if_neg h2, if_neg h3, if_neg hy]
        rw [e2]
        rfl
theorem joinT_assoc {a b c : Ty} (ha : a.Rt) (hb : b.Rt) (hc : c.Rt) : (a.joinT b).bind (fun x => x.joinT c) = (b.joinT c).bind (fun q => a.joinT q) := joinT_assocD a.sz a b c (Nat.le_refl _) ha hb hc
/-- Each stands for what it joins to. -/
theorem joinT_up {a b v : Ty} (ha : a.Rt) (hb : b.Rt) (h : a.joinT b = some v) : a.joinT v = some v ∧ b.joinT v = some v := by
  have h1 := joinT_assoc ha ha hb
  rw [joinT_self, h] at h1
  have h1' : a.erase.joinT b = a.joinT v := h1
  rw [Ty.joinT_eraseL, h] at h1'
  have h2 := joinT_assoc hb hb ha
  rw [joinT_self, ← joinT_comm ha hb, h] at h2
  have h2' : b.erase.joinT a = b.joinT v := h2
  rw [Ty.joinT_eraseL, ← joinT_comm ha hb, h] at h2'
  exact ⟨h1'.symm, h2'.symm⟩
end Go.Proofs.YtjpdbhhjlnmacaaGreat

/- The document's parser: the five texts of basculelaw09.awake. -/
namespace Go.Proofs.YtjpdbhhjlnmacaaGreat
set_option linter.unusedVariables false
open Go.RowKit

section
variable {p : Nat} {tp : Option Addr} {tc : Nat} {ts : List Tok} {en i j l d : Nat} {Q P : Exp → Prop}
/-- No sign of these is next. -/
def noSign (ts : List Tok) (i : Nat) (l : List (List UInt8)) : Bool := l.all fun s => !tokIs ts i ⟨s.toArray⟩
theorem noSign_at {l : List (List UInt8)} (h : noSign ts i l = true) (s : List UInt8) (hs : s ∈ l) : tokIs ts i ⟨s.toArray⟩ = false := by
  have := List.all_eq_true.1 h s hs
  simpa using this
theorem prod_of (hin : ∀ w, PS w p tp tc ts en i (d + 1) → Calls Tryz.prog 138 #[.pointer (some ⟨p, 0, none⟩)] w fun e w' => PX Q p tp tc ts en j (d + 1) w e w') (hi : i < 1000000) (hj : j < 1000000) (hd : d < 100) (n0 : noSign ts i [[45], [33]] = true) (n1 : noSign ts j [[46], [91], [42], [47], [37]] = true) (w : World) (h : PS w p tp tc ts en i d) :
    Calls Tryz.prog 134 #[.pointer (some ⟨p, 0, none⟩)] w fun e w' => PX Q p tp tc ts en j d w e w' :=
  prod_pass (fun w h => unary_pass (fun w h => post_pass hin (by omega) (noSign_at n1 [46] (by simp)) (noSign_at n1 [91] (by simp)) w h) (by omega) hd (noSign_at n0 [45] (by simp)) (noSign_at n0 [33] (by simp)) w h) (by omega) (noSign_at n1 [42] (by simp)) (noSign_at n1 [47] (by simp)) (noSign_at n1 [37] (by simp)) w h
theorem sum_of (hin : ∀ w, PS w p tp tc ts en i (d + 1) → Calls Tryz.prog 138 #[.pointer (some ⟨p, 0, none⟩)] w fun e w' => PX Q p tp tc ts en j (d + 1) w e w') (hi : i < 1000000) (hj : j < 1000000) (hd : d < 100) (n0 : noSign ts i [[45], [33]] = true) (n1 : noSign ts j [[46], [91], [42], [47], [37]] = true) (n2 : noSign ts j [[43], [45]] = true) (w : World) (h : PS w p tp tc ts en i d) :
    Calls Tryz.prog 133 #[.pointer (some ⟨p, 0, none⟩)] w fun e w' => PX Q p tp tc ts en j d w e w' :=
  sum_pass (fun w h => prod_of hin hi hj hd n0 n1 w h) (by omega) (noSign_at n2 [43] (by simp)) (noSign_at n2 [45] (by simp)) w h
theorem expr_of_sum (hin : ∀ w, PS w p tp tc ts en i (d + 1) → Calls Tryz.prog 133 #[.pointer (some ⟨p, 0, none⟩)] w fun e w' => PX Q p tp tc ts en j (d + 1) w e w') (hj : j < 1000000) (hd : d < 100) (n1 : noSign ts j [[61, 61], [60, 61], [60], [38, 38], [124, 124], [63]] = true) (w : World) (h : PS w p tp tc ts en i d) :
    Calls Tryz.prog 64 #[.pointer (some ⟨p, 0, none⟩)] w fun e w' => PX Q p tp tc ts en j d w e w' :=
  expr_pass (fun w h => or_pass (fun w h => and_pass (fun w h => cmp_pass hin (by omega) (noSign_at n1 [61, 61] (by simp)) (noSign_at n1 [60, 61] (by simp)) (noSign_at n1 [60] (by simp)) w h) (by omega) (noSign_at n1 [38, 38] (by simp)) w h) (by omega) (noSign_at n1 [124, 124] (by simp)) w h) (by omega) hd (noSign_at n1 [63] (by simp)) w h
/-- A name, a number, a float. -/
theorem nameP_at (s : ByteArray) (a n : Int) (ht : ts[i]? = some (Tok.mk 5 a n 0 0 s)) (hs : strok s) (m : (s.toList.length == 1) = true) (hi : i < 1000000) (n0 : noSign ts i [[40], [91], [123]] = true) (w : World) (h : PS w p tp tc ts en i d) :
    Calls Tryz.prog 138 #[.pointer (some ⟨p, 0, none⟩)] w fun e w' => PX (fun x => x = leafX 2 s 0 0 0 ⟨#[]⟩) p tp tc ts en (i + 1) d w e w' := by
  have hm : s.toList.length = 1 := by simpa using m
  exact prim_name _ ht rfl hs (list_ne_len (by simp [hm])) (list_ne_len (by simp [hm])) (list_ne_len (by simp [hm])) (list_ne_len (by simp [hm])) (list_ne_len (by simp [hm])) (list_ne_len (by simp [hm])) (by omega) (noSign_at n0 [40] (by simp)) (noSign_at n0 [91] (by simp)) (noSign_at n0 [123] (by simp)) w h
theorem numP_at (v a n : Int) (ht : ts[i]? = some (Tok.mk 2 a n v 0 ⟨#[]⟩)) (hv : i64r v) (hi : i < 1000000) (n0 : noSign ts i [[40], [91], [123]] = true) (w : World) (h : PS w p tp tc ts en i d) :
    Calls Tryz.prog 138 #[.pointer (some ⟨p, 0, none⟩)] w fun e w' => PX (fun x => x = leafX 1 ⟨#[]⟩ 2 v 0 ⟨#[]⟩) p tp tc ts en (i + 1) d w e w' :=
  prim_num _ ht rfl hv (by omega) (noSign_at n0 [40] (by simp)) (noSign_at n0 [91] (by simp)) (noSign_at n0 [123] (by simp)) w h
theorem fltP_at (f : Nat) (a n : Int) (ht : ts[i]? = some (Tok.mk 3 a n 0 f ⟨#[]⟩)) (hf : f < 18446744073709551616) (hi : i < 1000000) (n0 : noSign ts i [[40], [91], [123]] = true) (w : World) (h : PS w p tp tc ts en i d) :
    Calls Tryz.prog 138 #[.pointer (some ⟨p, 0, none⟩)] w fun e w' => PX (fun x => x = leafX 1 ⟨#[]⟩ 3 0 f ⟨#[]⟩) p tp tc ts en (i + 1) d w e w' :=
  prim_flt _ ht rfl hf (by omega) (noSign_at n0 [40] (by simp)) (noSign_at n0 [91] (by simp)) (noSign_at n0 [123] (by simp)) w h
end

abbrev xX : Exp := leafX 2 ⟨#[120]⟩ 0 0 0 ⟨#[]⟩
abbrev yX : Exp := leafX 2 ⟨#[121]⟩ 0 0 0 ⟨#[]⟩
abbrev nX (v : Int) : Exp := leafX 1 ⟨#[]⟩ 2 v 0 ⟨#[]⟩
abbrev fX : Exp := leafX 1 ⟨#[]⟩ 3 0 4607182418800017408 ⟨#[]⟩
def Q4 (x : Exp) : Prop := x = yX
def Q5 (x : Exp) : Prop := x = listX .no []
def Q3 (x : Exp) : Prop := SumQ (fun x => x = xX) (fun x => x = fX) x
def Q2 (x : Exp) : Prop := SumQ (fun x => x = listX .no []) (fun x => ∃ xa y, x = listX xa [y] ∧ y = nX 1) x
def Q1 (x : Exp) : Prop := ∃ g a b, x = Exp.two 11 (.at_ g 0 2) a b ∧ SumQ (fun x => x = xX) (fun x => x = nX 1) a ∧ b = nX 2
theorem strok1 (c : UInt8) : strok ⟨#[c]⟩ := by show (⟨#[c]⟩ : ByteArray).size ≤ _; show 1 ≤ _; omega

theorem parse_tx4 (w : World) : Calls Tryz.prog 45 #[.string tx4] w fun e w' => ∃ x : Exp, e = .returned (.tuple #[x.agg, .int .i64 0, .int .i64 0]) ∧ Q4 x ∧ x.In w' ∧ x.Sep (fun b => w.heap.size ≤ b) ∧ Below w.heap.size w w' :=
  parse_ok tx4 tx4T tx4P Q4 (by decide) tx4_lexed (by decide) (fun w p tp tc h => expr_of_sum (j := 1) (fun w h => sum_of (i := 0) (j := 1) (fun w h => nameP_at (i := 0) ⟨#[121]⟩ _ _ rfl (strok1 _) (by kernel_rfl) (by omega) (by kernel_rfl) w h) (by omega) (by omega) (by omega) (by kernel_rfl) (by kernel_rfl) (by kernel_rfl) w h) (by decide) (by omega) (by kernel_rfl) w h)
    (fun x hx => by rw [show x = yX from hx]; kernel_rfl) w
theorem parse_tx5 (w : World) : Calls Tryz.prog 45 #[.string tx5] w fun e w' => ∃ x : Exp, e = .returned (.tuple #[x.agg, .int .i64 0, .int .i64 0]) ∧ Q5 x ∧ x.In w' ∧ x.Sep (fun b => w.heap.size ≤ b) ∧ Below w.heap.size w w' :=
  parse_ok tx5 tx5T tx5P Q5 (by decide) tx5_lexed (by decide) (fun w p tp tc h => expr_of_sum (j := 2) (fun w h => sum_of (i := 0) (j := 2) (fun w h => prim_list (i := 0) (j := 2) (fun w h => list_nil (i := 1) (by omega) (by kernel_rfl) w h) (by omega) (by kernel_rfl) (by kernel_rfl) w h) (by omega) (by omega) (by omega) (by kernel_rfl) (by kernel_rfl) (by kernel_rfl) w h) (by decide) (by omega) (by kernel_rfl) w h)
    (fun x hx => by rw [show x = listX .no [] from hx]; kernel_rfl) w
theorem parse_tx3 (w : World) : Calls Tryz.prog 45 #[.string tx3] w fun e w' => ∃ x : Exp, e = .returned (.tuple #[x.agg, .int .i64 0, .int .i64 0]) ∧ Q3 x ∧ x.In w' ∧ x.Sep (fun b => w.heap.size ≤ b) ∧ Below w.heap.size w w' :=
  parse_ok tx3 tx3T tx3P Q3 (by decide) tx3_lexed (by decide) (fun w p tp tc h => expr_of_sum (fun w h => sum_plus (j := 1)
      (fun w h => prod_of (fun w h => nameP_at ⟨#[120]⟩ _ _ rfl (strok1 _) (by kernel_rfl) (by omega) (by kernel_rfl) w h) (by omega) (by omega) (by omega) (by kernel_rfl) (by kernel_rfl) w h)
      (fun w h => prod_of (fun w h => fltP_at 4607182418800017408 _ _ rfl (by decide) (by omega) (by kernel_rfl) w h) (by omega) (by omega) (by omega) (by kernel_rfl) (by kernel_rfl) w h)
      (by decide) (by decide) (by kernel_rfl) (by kernel_rfl) (by kernel_rfl) w h) (by decide) (by omega) (by kernel_rfl) w h)
    (fun x hx => by obtain ⟨g, a, b, rfl, rfl, rfl⟩ := hx; kernel_rfl) w
theorem parse_tx2 (w : World) : Calls Tryz.prog 45 #[.string tx2] w fun e w' => ∃ x : Exp, e = .returned (.tuple #[x.agg, .int .i64 0, .int .i64 0]) ∧ Q2 x ∧ x.In w' ∧ x.Sep (fun b => w.heap.size ≤ b) ∧ Below w.heap.size w w' :=
  parse_ok tx2 tx2T tx2P Q2 (by decide) tx2_lexed (by decide) (fun w p tp tc h => expr_of_sum (fun w h => sum_plus (j := 2)
      (fun w h => prod_of (fun w h => prim_list (fun w h => list_nil (by omega) (by kernel_rfl) w h) (by omega) (by kernel_rfl) (by kernel_rfl) w h) (by omega) (by omega) (by omega) (by kernel_rfl) (by kernel_rfl) w h)
      (fun w h => prod_of (fun w h => prim_list (fun w h => list_one (j := 5) (fun w h => expr_of_sum (fun w h => sum_of (fun w h => numP_at 1 _ _ rfl (by unfold i64r; decide) (by omega) (by kernel_rfl) w h) (by omega) (by omega) (by omega) (by kernel_rfl) (by kernel_rfl) (by kernel_rfl) w h) (by decide) (by omega) (by kernel_rfl) w h) (by omega) (by omega) (by kernel_rfl) (by kernel_rfl) (by kernel_rfl) w h) (by omega) (by kernel_rfl) (by kernel_rfl) w h) (by omega) (by omega) (by omega) (by kernel_rfl) (by kernel_rfl) w h)
      (by decide) (by decide) (by kernel_rfl) (by kernel_rfl) (by kernel_rfl) w h) (by decide) (by omega) (by kernel_rfl) w h)
    (fun x hx => by obtain ⟨g, a, b, rfl, rfl, xa, y, rfl, rfl⟩ := hx; kernel_rfl) w
theorem parse_tx1 (w : World) : Calls Tryz.prog 45 #[.string tx1] w fun e w' => ∃ x : Exp, e = .returned (.tuple #[x.agg, .int .i64 0, .int .i64 0]) ∧ Q1 x ∧ x.In w' ∧ x.Sep (fun b => w.heap.size ≤ b) ∧ Below w.heap.size w w' :=
  parse_ok tx1 tx1T tx1P Q1 (by decide) tx1_lexed (by decide) (fun w p tp tc h => expr_pass (fun w h => or_pass (fun w h => and_pass (fun w h => cmp_less (j := 3)
      (fun w h => sum_plus (j := 1)
        (fun w h => prod_of (fun w h => nameP_at ⟨#[120]⟩ _ _ rfl (strok1 _) (by kernel_rfl) (by omega) (by kernel_rfl) w h) (by omega) (by omega) (by omega) (by kernel_rfl) (by kernel_rfl) w h)
        (fun w h => prod_of (fun w h => numP_at 1 _ _ rfl (by unfold i64r; decide) (by omega) (by kernel_rfl) w h) (by omega) (by omega) (by omega) (by kernel_rfl) (by kernel_rfl) w h)
        (by decide) (by decide) (by kernel_rfl) (by kernel_rfl) (by kernel_rfl) w h)
      (fun w h => sum_of (fun w h => numP_at 2 _ _ rfl (by unfold i64r; decide) (by omega) (by kernel_rfl) w h) (by omega) (by omega) (by omega) (by kernel_rfl) (by kernel_rfl) (by kernel_rfl) w h)
      (by decide) (by kernel_rfl) (by kernel_rfl) (by kernel_rfl) w h) (by decide) (by kernel_rfl) w h) (by decide) (by kernel_rfl) w h) (by decide) (by omega) (by kernel_rfl) w h)
    (fun x hx => by obtain ⟨g, a, b, rfl, ⟨g', a', b', rfl, rfl, rfl⟩, rfl⟩ := hx; kernel_rfl) w
end Go.Proofs.YtjpdbhhjlnmacaaGreat
