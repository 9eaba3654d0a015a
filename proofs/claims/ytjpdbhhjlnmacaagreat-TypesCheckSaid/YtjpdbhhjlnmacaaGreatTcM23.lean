/- types.of, types.one and slices.Contains of numbers. -/
import Derived.Test.YtjpdbhhjlnmacaaGreatTcM7
import Derived.Test.YtjpdbhhjlnmacaaGreatTcM21
namespace Go.Proofs.YtjpdbhhjlnmacaaGreat
set_option linter.unusedVariables false
open Go.RowKit

/-- A type of a kind, with nothing in it. -/
abbrev Ty.of (k : Int) : Ty := .mk k .no [] .no []
theorem of_in (k : Int) (hk : i64r k) (w : World) : (Ty.of k).In w := by
  rw [Ty.in_iff]
  exact ⟨⟨hk, by show 0 ≤ _; omega, by show 0 ≤ _; omega, fun s h => by simp [Ty.ns] at h⟩, rfl, rfl, fun x hx => by simp [Ty.xs] at hx⟩
theorem of_sep (k : Int) (S : Nat → Prop) : (Ty.of k).Sep S := by
  rw [Ty.sep_iff]
  exact ⟨trivial, trivial, fun x hx => by simp [Ty.xs] at hx⟩
def OfDone (k : Int) (w : World) (e : Ending) (w' : World) : Prop := e = .returned (.agg #[.int .i64 k, .slice none 0 0, .slice none 0 0]) ∧ Below w.heap.size w w'
set_option maxRecDepth 100000 in
theorem of_any (k : Int) (w : World) : Calls Tryz.prog 73 #[.int .i64 k] w fun e w' => OfDone k w e w' := by
  obtain ⟨W, hW⟩ : ∃ W, W = w.alloc (.cells #[.int .i64 k, .slice none 0 0, .slice none 0 0] 36) := ⟨_, rfl⟩
  have hb := Blk.new w 36 #[.int .i64 k, .slice none 0 0, .slice none 0 0]
  rw [← hW] at hb
  have f0 := hb.cell 0; have f1 := hb.cell 1; have f2 := hb.cell 2
  simp at f0 f1 f2
  have HW := Lib.hid hW
  have HB : Hid (Below w.heap.size w W) := Lib.hid (by rw [hW]; exact (Below.refl _ _).alloc (Nat.le_refl _) _)
  clear hW hb
  go_enter Tryz.func73, Tryz.ntmps73
  go_wp2_with fail
  rw [← HW.out]
  refine bodyPost_ret (v := .agg #[.int .i64 k, .slice none 0 0, .slice none 0 0]) (by simp [results, Tryz.results73, go_sem, f0, f1, f2]) rfl ?_
  exact ⟨rfl, HB.out⟩
/-- Numbers that lie in a row. -/
def IntsIn (w : World) (b : Nat) (l : List Int) : Prop := ∀ i, i < l.length → w.cell? ⟨b, i, none⟩ = some (.int .i64 (l.getD i 0))
/-- Where a number stands first, or -1. -/
def idxI (l : List Int) (x : Int) : Int := if x ∈ l then (l.idxOf x : Int) else -1
theorem idxI_hit {l : List Int} {x : Int} {i : Nat} (h : i < l.length) (hx : l.getD i 0 = x) (hn : ∀ j, j < i → l.getD j 0 ≠ x) : idxI l x = i := by
  have hi : l[i]'h = x := by rw [← hx]; simp [h]
  have hm : x ∈ l := by rw [← hi]; simp
  unfold idxI
  rw [if_pos hm]
  have hle : l.idxOf x = i := by
    rcases Nat.lt_trichotomy (l.idxOf x) i with h1 | h1 | h1
    · exact absurd (by have h2 : l.idxOf x < l.length := List.idxOf_lt_length_of_mem hm
                       have := List.getElem_idxOf h2
                       simp [List.getD, List.getElem?_eq_getElem h2, this]) (hn _ h1)
    · exact h1
    · exfalso
      have := List.not_of_lt_findIdx (p := fun y => y == x) (xs := l) (i := i) h1
      simp [hi] at this
  rw [hle]
theorem idxI_miss {l : List Int} {x : Int} (hn : ∀ j, j < l.length → l.getD j 0 ≠ x) : idxI l x = -1 := by
  unfold idxI
  rw [if_neg]
  intro h
  obtain ⟨j, hj, he⟩ := List.mem_iff_getElem.1 h
  exact hn j hj (by simp [hj, he])
set_option maxHeartbeats 1000000 in
set_option maxRecDepth 100000 in
theorem index_any (l : List Int) (b c : Nat) (x : Int) (w : World) (h : IntsIn w b l) (hl : l.length ≤ 100) (hc : l.length ≤ c) :
    Calls Tryz.prog 117 #[.slice (some ⟨b, 0, none⟩) l.length c, .int .i64 x] w fun e w' => e = .returned (.int .i64 (idxI l x)) ∧ w = w' := by
  obtain ⟨L, hL⟩ : ∃ L, L = l.length := ⟨_, rfl⟩
  rw [← hL] at hl hc ⊢
  obtain ⟨R, hR⟩ : ∃ R, R = idxI l x := ⟨_, rfl⟩
  rw [← hR]
  have HL := Lib.hid hL; have HH := Lib.hid h; have HR := Lib.hid hR
  clear hL h hR
  go_enter Tryz.func117, Tryz.ntmps117
  go_wp2_with fail
  go_loopw [8] (fun iv wr => ∃ i : Nat, iv = .int .i64 (i : Int) ∧ i ≤ L ∧ Hid (∀ j, j < i → l.getD j 0 ≠ x) ∧ wr = w) (fun iv _ => L - (intOf iv).toNat)
  case atStart => exact ⟨0, rfl, by omega, Lib.hid (fun j hj => absurd hj (by omega)), rfl⟩
  case round =>
    obtain ⟨i, rfl, hi, HN, rfl⟩ := hrel
    by_cases hlt : i < L
    · have hil : i < l.length := by rw [← HL.out]; exact hlt
      have hcell := HH.out i hil
      obtain ⟨y, hy⟩ : ∃ y, y = l.getD i 0 := ⟨_, rfl⟩
      rw [← hy] at hcell
      have hk0 : (0 : Int) ≤ (i : Int) := by omega
      have hk1 : (i : Int) < (L : Int) := by omega
      by_cases hxy : x = y
      · have HR2 : Hid (R = (i : Int)) := Lib.hid (by rw [HR.out]; exact idxI_hit hil (by rw [← hy, hxy]) HN.out)
        clear hy hil
        subst hxy
        go_wp2
        go_ret
        exact ⟨by rw [HR2.out]; rfl, rfl⟩
      · have j1 : (x == y) = false := by simpa using hxy
        have HN2 : Hid (∀ j, j < i + 1 → l.getD j 0 ≠ x) := Lib.hid (fun j hj => by
          by_cases e : j = i
          · rw [e, ← hy]; exact fun e => hxy e.symm
          · exact HN.out j (by omega))
        clear hy hil hxy
        go_wp2
        exact ⟨⟨i + 1, by go_num, by omega, HN2, trivial⟩, by simp [intOf]; omega⟩
    · have HR2 : Hid (R = -1) := Lib.hid (by rw [HR.out]; exact idxI_miss (fun j hj => HN.out j (by rw [← HL.out] at hj; omega)))
      go_wp2
      go_ret
      exact ⟨by rw [HR2.out]; rfl, rfl⟩
set_option maxRecDepth 100000 in
theorem contains_any (l : List Int) (b c : Nat) (x : Int) (w : World) (h : IntsIn w b l) (hl : l.length ≤ 100) (hc : l.length ≤ c) :
    Calls Tryz.prog 100 #[.slice (some ⟨b, 0, none⟩) l.length c, .int .i64 x] w fun e w' => e = .returned (.bool (decide (x ∈ l))) ∧ w = w' := by
  have HI := Lib.hid (index_any l b c x w h hl hc)
  by_cases hx : x ∈ l
  · have j1 : decide (0 ≤ idxI l x) = true := by unfold idxI; rw [if_pos hx]; simp
    rw [decide_eq_true hx]
    clear hx h hl hc
    go_enter Tryz.func100, Tryz.ntmps100
    go_wp2_with fail
    refine HI.out.mono ?_
    rintro e w' ⟨rfl, rfl⟩
    go_wp2
    go_ret
    exact ⟨rfl, rfl⟩
  · have j1 : idxI l x = -1 := by unfold idxI; rw [if_neg hx]
    rw [j1] at HI
    rw [decide_eq_false hx]
    clear hx h hl hc j1
    go_enter Tryz.func100, Tryz.ntmps100
    go_wp2_with fail
    refine HI.out.mono ?_
    rintro e w' ⟨rfl, rfl⟩
    go_wp2
    go_ret
    exact ⟨rfl, rfl⟩
set_option maxRecDepth 100000 in
theorem one_any (t : Ty) (l : List Int) (b c : Nat) (w : World) (ht : t.In w) (hbl : b < w.heap.size) (h : IntsIn w b l) (hl : l.length ≤ 100) (hc : l.length ≤ c) :
    Calls Tryz.prog 76 #[t.agg, .slice (some ⟨b, 0, none⟩) l.length c] w fun e w' => BoolBelow (decide (t.k ∈ l)) w e w' := by
  obtain ⟨W, hW⟩ : ∃ W, W = w.alloc (.cells #[.int .i64 t.k, t.na.val t.ns.length, t.xa.val t.xs.length] 36) := ⟨_, rfl⟩
  have hBW : Below w.heap.size w W := by rw [hW]; exact (Below.refl _ w).alloc (Nat.le_refl _) _
  have hb0 : Blk W w.heap.size 36 #[.int .i64 t.k, t.na.val t.ns.length, t.xa.val t.xs.length] := by rw [hW]; exact Blk.new w 36 _
  have hI : IntsIn W b l := fun i hi => (hBW.cell (p := ⟨b, i, none⟩) hbl).trans (h i hi)
  have hcn := contains_any l b c t.k W hI hl hc
  obtain ⟨p4, q4, e4⟩ := ht.nslice
  obtain ⟨p5, q5, e5⟩ := ht.xslice
  unfold Ty.agg
  rw [e4, e5] at hW hb0 ⊢
  have c0 := hb0.cell 0
  simp at c0
  have HW := Lib.hid hW; have HBW := Lib.hid hBW; have HC := Lib.hid hcn
  clear hW hBW hb0 hI hcn e4 e5 ht h hl hc
  go_enter Tryz.func76, Tryz.ntmps76
  go_wp2_with fail
  rw [← HW.out]
  refine HC.out.mono ?_
  rintro e w' ⟨rfl, rfl⟩
  go_wp2
  go_ret
  exact ⟨rfl, HBW.out⟩
end Go.Proofs.YtjpdbhhjlnmacaaGreat

/- Variables that lie in memory; where one of a name is. -/
namespace Go.Proofs.YtjpdbhhjlnmacaaGreat
set_option linter.unusedVariables false
open Go.RowKit

structure Var where
  n : ByteArray
  l : Int
  t : Ty
  v : Val
namespace Var
def cells (x : Var) : List Value := [.string x.n, .int .i64 x.l, .int .i64 x.t.k, x.t.na.val x.t.ns.length, x.t.xa.val x.t.xs.length, .int .i64 x.v.k, .int .i64 x.v.n, .float .f64 x.v.f, .string x.v.s, x.v.na.val x.v.ns.length, x.v.xa.val x.v.xs.length]
abbrev agg (x : Var) : Value := .agg #[.string x.n, .int .i64 x.l, .int .i64 x.t.k, x.t.na.val x.t.ns.length, x.t.xa.val x.t.xs.length, .int .i64 x.v.k, .int .i64 x.v.n, .float .f64 x.v.f, .string x.v.s, x.v.na.val x.v.ns.length, x.v.xa.val x.v.xs.length]
def In (w : World) (x : Var) : Prop := strok x.n ∧ i64r x.l ∧ x.t.In w ∧ x.v.In w
end Var
abbrev Var.zero : Var := ⟨ByteArray.empty, 0, Ty.zero, Val.zero⟩
/-- A variable's cells lie at a place. -/
def PVar (w : World) (b o : Nat) (x : Var) : Prop := (∀ j, j < 11 → w.cell? ⟨b, o + j, none⟩ = x.cells[j]?) ∧ b < w.heap.size ∧ x.In w
section
variable {w w' : World} {b o : Nat} {x : Var}
theorem Var.In.below (h : x.In w) (hb : Below w.heap.size w w') : x.In w' := ⟨h.1, h.2.1, h.2.2.1.below hb, h.2.2.2.below hb⟩
theorem PVar.below (h : PVar w b o x) (hb : Below w.heap.size w w') : PVar w' b o x :=
  ⟨fun j hj => (hb.cell (p := ⟨b, o + j, none⟩) h.2.1).trans (h.1 j hj), Nat.lt_of_lt_of_le h.2.1 hb.size, h.2.2.below hb⟩
theorem PVar.c0 (h : PVar w b o x) : w.cell? ⟨b, o, none⟩ = some (.string x.n) := h.1 0 (by omega)
theorem PVar.c1 (h : PVar w b o x) : w.cell? ⟨b, o + 1, none⟩ = some (.int .i64 x.l) := h.1 1 (by omega)
theorem PVar.c2 (h : PVar w b o x) : w.cell? ⟨b, o + 2, none⟩ = some (.int .i64 x.t.k) := h.1 2 (by omega)
theorem PVar.c3 (h : PVar w b o x) : w.cell? ⟨b, o + 3, none⟩ = some (x.t.na.val x.t.ns.length) := h.1 3 (by omega)
theorem PVar.c4 (h : PVar w b o x) : w.cell? ⟨b, o + 4, none⟩ = some (x.t.xa.val x.t.xs.length) := h.1 4 (by omega)
theorem PVar.c5 (h : PVar w b o x) : w.cell? ⟨b, o + 5, none⟩ = some (.int .i64 x.v.k) := h.1 5 (by omega)
theorem PVar.c6 (h : PVar w b o x) : w.cell? ⟨b, o + 6, none⟩ = some (.int .i64 x.v.n) := h.1 6 (by omega)
theorem PVar.c7 (h : PVar w b o x) : w.cell? ⟨b, o + 7, none⟩ = some (.float .f64 x.v.f) := h.1 7 (by omega)
theorem PVar.c8 (h : PVar w b o x) : w.cell? ⟨b, o + 8, none⟩ = some (.string x.v.s) := h.1 8 (by omega)
theorem PVar.c9 (h : PVar w b o x) : w.cell? ⟨b, o + 9, none⟩ = some (x.v.na.val x.v.ns.length) := h.1 9 (by omega)
theorem PVar.c10 (h : PVar w b o x) : w.cell? ⟨b, o + 10, none⟩ = some (x.v.xa.val x.v.xs.length) := h.1 10 (by omega)
theorem PVar.ty (h : PVar w b o x) : PTy w b (o + 2) x.t := by
  refine ⟨fun j hj => ?_, h.2.1, h.2.2.2.2.1⟩
  rw [Nat.add_assoc, h.1 (2 + j) (by omega)]
  have : j = 0 ∨ j = 1 ∨ j = 2 := by omega
  rcases this with rfl | rfl | rfl <;> rfl
theorem PVar.val (h : PVar w b o x) : PVal w b (o + 5) x.v := by
  refine ⟨fun j hj => ?_, h.2.1, h.2.2.2.2.2⟩
  rw [Nat.add_assoc, h.1 (5 + j) (by omega)]
  have : j = 0 ∨ j = 1 ∨ j = 2 ∨ j = 3 ∨ j = 4 ∨ j = 5 := by omega
  rcases this with rfl | rfl | rfl | rfl | rfl | rfl <;> rfl
end
/-- Variables at a slice. -/
structure VarsIn (w : World) (p : Option Addr) (c : Nat) (vs : List Var) : Prop where
  len : vs.length ≤ 879609302195
  cap : vs.length ≤ c
  at_ : ∀ i (h : i < vs.length), ∃ b o, p = some ⟨b, o, none⟩ ∧ PVar w b (o + i * 11) (vs[i]'h)
theorem VarsIn.below {w w' : World} {p : Option Addr} {c : Nat} {vs : List Var} (h : VarsIn w p c vs) (hb : Below w.heap.size w w') : VarsIn w' p c vs :=
  ⟨h.len, h.cap, fun i hi => by obtain ⟨b, o, e, hp⟩ := h.at_ i hi; exact ⟨b, o, e, hp.below hb⟩⟩
theorem VarsIn.each {w : World} {p : Option Addr} {c : Nat} {vs : List Var} (h : VarsIn w p c vs) {x : Var} (hx : x ∈ vs) : x.In w := by
  obtain ⟨i, hi, rfl⟩ := List.getElem_of_mem hx
  obtain ⟨b, o, _, hp⟩ := h.at_ i hi
  exact hp.2.2

/-- Where one of a name is, the first; -1: nowhere. -/
def nameIdx (l : List ByteArray) (s : ByteArray) : Int := if l.findIdx (fun y => decide (y = s)) < l.length then (l.findIdx (fun y => decide (y = s)) : Int) else -1
theorem nameIdx_hit {l : List ByteArray} {x : ByteArray} {i : Nat} (h : i < l.length) (hx : l[i] = x) (hn : ∀ j (hj : j < l.length), j < i → l[j] ≠ x) : nameIdx l x = i := by
  have hle : l.findIdx (fun y => decide (y = x)) = i := (List.findIdx_eq h).2 ⟨by simpa using hx, fun j hj => by simpa using hn j (by omega) hj⟩
  unfold nameIdx
  rw [hle, if_pos h]
theorem nameIdx_miss {l : List ByteArray} {x : ByteArray} (hn : ∀ j (hj : j < l.length), l[j] ≠ x) : nameIdx l x = -1 := by
  have hle : l.findIdx (fun y => decide (y = x)) = l.length := List.findIdx_eq_length.2 (fun y hy => by
    obtain ⟨j, hj, rfl⟩ := List.getElem_of_mem hy
    simpa using hn j hj)
  unfold nameIdx
  rw [hle, if_neg (by omega)]
theorem nameIdx_spec (l : List ByteArray) (x : ByteArray) : (∃ i : Nat, ∃ h : i < l.length, nameIdx l x = i ∧ l[i] = x) ∨ nameIdx l x = -1 := by
  by_cases h : l.findIdx (fun y => decide (y = x)) < l.length
  · refine .inl ⟨_, h, by unfold nameIdx; rw [if_pos h], ?_⟩
    have := List.findIdx_getElem (w := h)
    simpa using this
  · exact .inr (by unfold nameIdx; rw [if_neg h])

set_option maxRecDepth 100000 in
theorem clo_any (x : Var) (c xb xo : Nat) (s : ByteArray) (w : World) (hx : x.In w) (hc : Blk w c 66 #[.pointer (some ⟨xb, xo, none⟩)]) (hs : w.cell? ⟨xb, xo + 1, none⟩ = some (.string s)) (hl : xb < w.heap.size) :
    Calls Tryz.prog 75 #[x.agg, .pointer (some ⟨c, 0, none⟩)] w fun e w' => BoolBelow (x.n.toList == s.toList) w e w' := by
  obtain ⟨p4, q4, e4⟩ := hx.2.2.1.nslice
  obtain ⟨p5, q5, e5⟩ := hx.2.2.1.xslice
  obtain ⟨r4, t4, g4⟩ := hx.2.2.2.nslice
  obtain ⟨r5, t5, g5⟩ := hx.2.2.2.xslice
  unfold Var.agg
  rw [e4, e5, g4, g5]
  obtain ⟨W, hW⟩ : ∃ W, W = w.alloc (.cells #[.string x.n, .int .i64 x.l, .int .i64 x.t.k, .slice p4 x.t.ns.length q4, .slice p5 x.t.xs.length q5, .int .i64 x.v.k, .int .i64 x.v.n, .float .f64 x.v.f, .string x.v.s, .slice r4 x.v.ns.length t4, .slice r5 x.v.xs.length t5] 56) := ⟨_, rfl⟩
  have hBW : Below w.heap.size w W := by rw [hW]; exact (Below.refl _ w).alloc (Nat.le_refl _) _
  have hb : Blk W w.heap.size 56 #[.string x.n, .int .i64 x.l, .int .i64 x.t.k, .slice p4 x.t.ns.length q4, .slice p5 x.t.xs.length q5, .int .i64 x.v.k, .int .i64 x.v.n, .float .f64 x.v.f, .string x.v.s, .slice r4 x.v.ns.length t4, .slice r5 x.v.xs.length t5] := by rw [hW]; exact Blk.new w 56 _
  obtain ⟨A, hA⟩ : ∃ A, A = w.heap.size := ⟨_, rfl⟩
  rw [← hA] at hb
  have c0 := hb.cell 0
  have d0 := (hc.below hBW hc.lt).cell 0
  have s0 := (hBW.cell (p := ⟨xb, xo + 1, none⟩) hl).trans hs
  simp at c0 d0
  have HW := Lib.hid hW; have HB := Lib.hid hBW; have HA := Lib.hid hA
  clear hW hBW hb hA hc hs hx e4 e5 g4 g5
  go_enter Tryz.func75, Tryz.ntmps75
  go_wp2_with fail
  rw [← HW.out, ← HA.out]
  go_region
  all_goals (go_wp2; go_ret; exact ⟨rfl, HB.out.drew⟩)

set_option maxHeartbeats 1000000 in
set_option maxRecDepth 100000 in
theorem varidx_any (vs : List Var) (p : Option Addr) (cap c xb xo : Nat) (s : ByteArray) (w : World) (h : VarsIn w p cap vs) (hc : Blk w c 66 #[.pointer (some ⟨xb, xo, none⟩)]) (hs : w.cell? ⟨xb, xo + 1, none⟩ = some (.string s)) (hl : xb < w.heap.size) :
    Calls Tryz.prog 74 #[.slice p vs.length cap, .func (Fn.func 75) #[] #[.pointer (some ⟨c, 0, none⟩)]] w fun e w' => e = .returned (.int .i64 (nameIdx (vs.map Var.n) s)) ∧ Below w.heap.size w w' := by
  obtain ⟨n, hn⟩ : ∃ n, n = vs.length := ⟨_, rfl⟩
  obtain ⟨R, hR⟩ : ∃ R, R = nameIdx (vs.map Var.n) s := ⟨_, rfl⟩
  rw [← hn, ← hR]
  have hnl : n ≤ 879609302195 := by rw [hn]; exact h.len
  have hcl : n ≤ cap := by rw [hn]; exact h.cap
  have HN := Lib.hid hn; have HV := Lib.hid h; have HC := Lib.hid hc; have HS := Lib.hid hs; have HL := Lib.hid hl; have HR := Lib.hid hR
  clear hn h hc hs hl hR
  go_enter Tryz.func74, Tryz.ntmps74
  go_wp2
  go_loopw [8] (fun iv wr => ∃ k : Nat, k ≤ n ∧ iv = .int .i64 k ∧ Hid (∀ j (hj : j < vs.length), j < k → vs[j].n ≠ s) ∧ Below w.heap.size w wr) (fun iv _ => n - (intOf iv).toNat)
  case atStart => exact ⟨0, by omega, rfl, Lib.hid (fun j _ hj => absurd hj (by omega)), Below.refl _ _⟩
  case round =>
    obtain ⟨k, hk, rfl, HNO, hb⟩ := hrel
    by_cases hlt2 : k < n
    · have hkl : k < vs.length := by rw [← HN.out]; exact hlt2
      obtain ⟨b, o, rfl, hpv⟩ := (HV.out.below hb).at_ k hkl
      obtain ⟨x, hx⟩ : ∃ x, x = vs[k]'hkl := ⟨_, rfl⟩
      rw [← hx] at hpv
      have hk0 : (0 : Int) ≤ (k : Int) := by omega
      have hk1 : (k : Int) < (n : Int) := by omega
      have hp := clo_any x c xb xo s wr hpv.2.2 (HC.out.below hb HC.out.lt) ((hb.cell (p := ⟨xb, xo + 1, none⟩) HL.out).trans HS.out) (Nat.lt_of_lt_of_le HL.out hb.size)
      have c0 := hpv.c0; have c1 := hpv.c1; have c2 := hpv.c2; have c3 := hpv.c3; have c4 := hpv.c4; have c5 := hpv.c5; have c6 := hpv.c6; have c7 := hpv.c7; have c8 := hpv.c8; have c9 := hpv.c9; have c10 := hpv.c10
      obtain ⟨p4, q4, e4⟩ := hpv.2.2.2.2.1.nslice
      obtain ⟨p5, q5, e5⟩ := hpv.2.2.2.2.1.xslice
      obtain ⟨r4, t4, g4⟩ := hpv.2.2.2.2.2.nslice
      obtain ⟨r5, t5, g5⟩ := hpv.2.2.2.2.2.xslice
      unfold Var.agg at hp
      rw [e4, e5, g4, g5] at hp
      rw [e4] at c3; rw [e5] at c4; rw [g4] at c9; rw [g5] at c10
      have HB := Lib.hid hb
      clear hb hpv e4 e5 g4 g5
      by_cases he : x.n = s
      · have hR2 : Hid (R = (k : Int)) := Lib.hid (by
          rw [HR.out]
          exact nameIdx_hit (by simpa using hkl) (by simpa [← hx] using he) (fun j hj hjk => by simpa using HNO.out j (by simpa using hj) hjk))
        rw [show (x.n.toList == s.toList) = true from by rw [he]; simp] at hp
        have HP := Lib.hid hp
        clear hp he hx hkl
        go_wp2_with fail
        refine HP.out.mono ?_
        rintro e w1 ⟨rfl, hl1⟩
        have HB1 := Lib.hid (HB.out.trans (hl1.mono HB.out.size))
        clear hl1
        go_wp2
        go_ret
        exact ⟨by rw [hR2.out]; rfl, HB1.out⟩
      · have HNO2 : Hid (∀ j (hj : j < vs.length), j < k + 1 → vs[j].n ≠ s) := Lib.hid (fun j hj hjk => by
          by_cases e : j = k
          · subst e; rw [← hx]; exact he
          · exact HNO.out j hj (by omega))
        rw [str_ne he] at hp
        have HP := Lib.hid hp
        clear hp he hx hkl
        go_wp2_with fail
        refine HP.out.mono ?_
        rintro e w1 ⟨rfl, hl1⟩
        have HB1 := Lib.hid (HB.out.trans (hl1.mono HB.out.size))
        clear hl1 c0 c1 c2 c3 c4 c5 c6 c7 c8 c9 c10
        go_wp2
        go_roundw
        case rel => exact ⟨k + 1, by omega, by go_num, HNO2, HB1.out⟩
        case measure => simp [intOf]; omega
    · have hR2 : Hid (R = -1) := Lib.hid (by
        rw [HR.out]
        exact nameIdx_miss (fun j hj => by simpa using HNO.out j (by simpa using hj) (by have := HN.out; simp at hj; omega)))
      have HB := Lib.hid hb
      clear hb
      go_wp2
      go_ret
      exact ⟨by rw [hR2.out]; rfl, HB.out⟩

set_option maxHeartbeats 1000000 in
set_option maxRecDepth 100000 in
theorem stridx_any (l : List ByteArray) (v : Value) (s : ByteArray) (w : World) (h : NamesAt w v l) (hl : l.length ≤ 8796093021952) :
    Calls Tryz.prog 77 #[v, .string s] w fun e w' => e = .returned (.int .i64 (nameIdx l s)) ∧ w = w' := by
  have hat : ∃ p c, v = .slice p l.length c ∧ l.length ≤ c ∧ ∀ i (hi : i < l.length), ∃ b o, p = some ⟨b, o, none⟩ ∧ w.cell? ⟨b, o + i, none⟩ = some (.string (l[i]'hi)) := by
    rcases h with ⟨pz, h1, h2⟩ | ⟨b, o, cap, h1, h2, h3, h4, h5⟩
    · exact ⟨pz, 0, by rw [h1, h2]; rfl, by rw [h2]; simp, fun i hi => by rw [h2] at hi; simp at hi⟩
    · exact ⟨_, cap, h1, h2, fun i hi => ⟨b, o, rfl, by rw [h5 i hi]; simp [hi]⟩⟩
  obtain ⟨p, c, rfl, hcap, hat⟩ := hat
  clear h
  obtain ⟨n, hn⟩ : ∃ n, n = l.length := ⟨_, rfl⟩
  obtain ⟨R, hR⟩ : ∃ R, R = nameIdx l s := ⟨_, rfl⟩
  have HAT := Lib.hid hat
  rw [← hn] at hcap hl
  rw [← hn, ← hR]
  have HN := Lib.hid hn; have HR := Lib.hid hR
  clear hn hR hat
  go_enter Tryz.func77, Tryz.ntmps77
  go_wp2
  go_loopw [8] (fun iv wr => ∃ k : Nat, k ≤ n ∧ iv = .int .i64 k ∧ Hid (∀ j (hj : j < l.length), j < k → l[j] ≠ s) ∧ wr = w) (fun iv _ => n - (intOf iv).toNat)
  case atStart => exact ⟨0, by omega, rfl, Lib.hid (fun j _ hj => absurd hj (by omega)), rfl⟩
  case round =>
    obtain ⟨k, hk, rfl, HNO, rfl⟩ := hrel
    by_cases hlt2 : k < n
    · have hkl : k < l.length := by rw [← HN.out]; exact hlt2
      obtain ⟨b, o, rfl, hcell⟩ := HAT.out k hkl
      obtain ⟨x, hx⟩ : ∃ x, x = l[k]'hkl := ⟨_, rfl⟩
      rw [← hx] at hcell
      have hk0 : (0 : Int) ≤ (k : Int) := by omega
      have hk1 : (k : Int) < (n : Int) := by omega
      by_cases he : x = s
      · have hR2 : Hid (R = (k : Int)) := Lib.hid (by
          rw [HR.out]
          exact nameIdx_hit hkl (by rw [← hx]; exact he) HNO.out)
        clear HNO hkl hx
        subst he
        go_wp2
        go_ret
        exact ⟨by rw [hR2.out]; rfl, rfl⟩
      · have HNO2 : Hid (∀ j (hj : j < l.length), j < k + 1 → l[j] ≠ s) := Lib.hid (fun j hj hjk => by
          by_cases e : j = k
          · subst e; rw [← hx]; exact he
          · exact HNO.out j hj (by omega))
        have j1 := str_ne (fun e => he e.symm)
        have j2 := str_ne' (fun e => he e.symm)
        clear he hkl hx
        go_wp2
        go_roundw
        case rel => exact ⟨k + 1, by omega, by go_num, HNO2, trivial⟩
        case measure => simp [intOf]; omega
    · have hR2 : Hid (R = -1) := Lib.hid (by
        rw [HR.out]
        exact nameIdx_miss (fun j hj => HNO.out j hj (by have := HN.out; omega)))
      go_wp2
      go_ret
      exact ⟨by rw [hR2.out]; rfl, rfl⟩
end Go.Proofs.YtjpdbhhjlnmacaaGreat
