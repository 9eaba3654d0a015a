/- The document's lexer: all tokens of a text. -/
import Derived.Test.YtjpdbhhjlnmacaaGreatTcM7
import Derived.Test.YtjpdbhhjlnmacaaGreatTcM9
import Derived.Test.YtjpdbhhjlnmacaaGreatTcM10
import Derived.Test.YtjpdbhhjlnmacaaGreatTcM18
import Derived.Test.YtjpdbhhjlnmacaaGreatTcM23
import Derived.Test.YtjpdbhhjlnmacaaGreatTcM34
namespace Go.Proofs.YtjpdbhhjlnmacaaGreat
set_option linter.unusedVariables false
open Go.RowKit

theorem Elem.row_get {A : Type} (E : Elem A) : ∀ (us : List A) (i j : Nat) (hi : i < us.length) (hj : j < E.size), (E.row us)[i * E.size + j]? = (E.cells us[i])[j]?
  | [], i, j, hi, hj => by simp at hi
  | u :: us, 0, j, hi, hj => by
    show (E.cells u ++ E.row us)[0 * E.size + j]? = _
    rw [Nat.zero_mul, Nat.zero_add, List.getElem?_append_left (by rw [E.len]; exact hj)]
    rfl
  | u :: us, i + 1, j, hi, hj => by
    show (E.cells u ++ E.row us)[(i + 1) * E.size + j]? = _
    rw [List.getElem?_append_right (by rw [E.len, Nat.succ_mul]; omega), E.len, show (i + 1) * E.size + j - E.size = i * E.size + j by rw [Nat.succ_mul]; omega, Elem.row_get E us i j (by simpa using hi) hj]
    rfl
/-- The cells of a row of the call's own, each by its place. -/
theorem Elem.row_cells {A : Type} {E : Elem A} {w : World} {base : Nat} {T : TypeId} {v : Value} {us : List A} (h : w.ownsRow base T E.size v us.length (E.row us)) :
    ∃ p c, v = .slice p us.length c ∧ us.length ≤ c ∧ ∀ i (hi : i < us.length), ∃ g, p = some ⟨g, 0, none⟩ ∧ base ≤ g ∧ g < w.heap.size ∧ ∀ j, j < E.size → w.cell? ⟨g, i * E.size + j, none⟩ = (E.cells us[i])[j]? := by
  have hh := h.2
  rcases hh with ⟨rfl, h0⟩ | ⟨g, cap, cur, rfl, hb, hg, hnc, hcm, hcs, htake⟩
  · exact ⟨none, 0, by rw [h0], by omega, fun i hi => by omega⟩
  · refine ⟨_, cap, rfl, hnc, fun i hi => ⟨g, rfl, hb, ?_, fun j hj => ?_⟩⟩
    · rcases Nat.lt_or_ge g w.heap.size with h' | h'
      · exact h'
      · simp [Array.getElem?_eq_none h'] at hg
    · have hget := E.row_get us i j hi hj
      have hl : j < (E.cells (us[i]'hi)).length := by rw [E.len]; exact hj
      have hc := h.cells (g := g) rfl (i * E.size + j) ((E.cells (us[i]'hi))[j]'hl) (by rw [hget, List.getElem?_eq_getElem hl])
      rw [Addr.add_lit, Nat.zero_add] at hc
      rw [hc, List.getElem?_eq_getElem hl]
/-- Tokens as items of a row. -/
def tokE : Elem Tok where
  cells := Tok.cells
  size := 6
  In := fun _ _ => True
  Sep := fun _ _ => True
  pos := by decide
  len := fun _ => rfl
  one := fun a u hu => by
    simp only [Tok.cells, List.mem_cons, List.not_mem_nil, or_false] at hu
    rcases hu with rfl | rfl | rfl | rfl | rfl | rfl <;> rfl
  carry := fun _ _ _ _ => trivial
  mono := fun _ _ => trivial
  and := fun _ _ => trivial
  lt := fun _ => trivial
/-- Tokens at a slice. -/
structure Toks (w : World) (p : Option Addr) (c : Nat) (ts : List Tok) : Prop where
  cap : ts.length ≤ c
  at_ : ∀ i (h : i < ts.length), ∃ g, p = some ⟨g, 0, none⟩ ∧ g < w.heap.size ∧ ∀ j, j < 6 → w.cell? ⟨g, i * 6 + j, none⟩ = (ts[i]'h).cells[j]?
theorem Toks.of_own {w : World} {base : Nat} {T : TypeId} {v : Value} {ts : List Tok} (h : w.ownsRow base T 6 v ts.length (tokE.row ts)) :
    ∃ p c, v = .slice p ts.length c ∧ Toks w p c ts ∧ ∀ g o m, p = some ⟨g, o, m⟩ → ts.length = 0 ∨ base ≤ g := by
  obtain ⟨p, c, h1, h2, h3⟩ := Elem.row_cells (E := tokE) h
  refine ⟨p, c, h1, ⟨h2, fun i hi => ?_⟩, fun g o m hp => ?_⟩
  · obtain ⟨g, a, b, c, d⟩ := h3 i hi
    exact ⟨g, a, c, d⟩
  · rcases Nat.eq_zero_or_pos ts.length with h0 | h0
    · exact .inl h0
    · obtain ⟨g', a, b, _⟩ := h3 0 h0
      rw [a] at hp
      injection hp with hp
      injection hp with hp
      exact .inr (by omega)
theorem tok_facts : (Tryz.prog.info? 118).map (fun i => (i.zero, i.size, i.bytes)) = some (some (.agg #[.int .i64 0, .int .i64 0, .int .i64 0, .int .i64 0, .float .f64 0, .string ByteArray.empty]), 6, 56) := by kernel_rfl
/-- What all tokens are: each by the step from where the last one ended. -/
structure Lexed (s : ByteArray) (ts : List Tok) (P : Nat → Nat) : Prop where
  zero : P 0 = 0
  next : ∀ i (h : i < ts.length), (ts[i]'h).nx = P (i + 1) ∧ ((ts[i]'h).k == 1) = false ∧ ∃ a : Int, ∀ w, Calls Tryz.prog 90 #[.string s, .int .i64 (P i : Int)] w fun e w' => NextOut (ts[i]'h) a 0 w e w'
  end_ : ∀ w, Calls Tryz.prog 90 #[.string s, .int .i64 (P ts.length : Int)] w fun e w' => NextOut (Tok.mk 1 s.size s.size 0 0 ⟨#[]⟩) s.size 0 w e w'

set_option maxHeartbeats 8000000 in
set_option maxRecDepth 100000 in
theorem all_any (s : ByteArray) (ts : List Tok) (P : Nat → Nat) (w : World) (h : Lexed s ts P) (hn : ts.length ≤ 1000) :
    Calls Tryz.prog 63 #[.string s] w fun e w' => ∃ p c, e = .returned (.tuple #[.slice p ts.length c, .int .i64 0, .int .i64 0]) ∧ Toks w' p c ts ∧ (∀ g o m, p = some ⟨g, o, m⟩ → ts.length = 0 ∨ w.heap.size ≤ g) ∧ Below w.heap.size w w' := by
  obtain ⟨i0, hi0, hz0, hz1, hz2⟩ := info_parts tok_facts
  have H := Lib.hid h
  have H0 := h.zero
  have hsf := run_store_flt
  have e0 : ((0 : Nat) : Int) = 0 := rfl
  clear h
  go_enter Tryz.func63, Tryz.ntmps63
  go_wp2_with fail
  go_loopw [5, 6] (fun xv iv wr => ∃ (k : Nat) (us : List Tok) (ax : Option Addr) (cx : Nat), xv = .slice ax us.length cx ∧ iv = .int .i64 (P k : Int) ∧ k ≤ ts.length ∧ Hid (us = ts.take k) ∧ Hid (us.length = k) ∧ Hid (Rowed tokE (fun _ => False) w.heap.size 118 wr us (.slice ax us.length cx)) ∧ Hid (Below w.heap.size w wr)) (fun xv _ _ => match xv with | .slice _ n _ => ts.length - n | _ => 0)
  case atStart => exact ⟨0, [], none, 0, rfl, by rw [H0]; rfl, Nat.zero_le _, Lib.hid (by simp), Lib.hid rfl, Lib.hid (rowed_start w), Lib.hid (Below.refl _ w)⟩
  case round =>
    obtain ⟨k, us, ax, cx, rfl, rfl, hk, HU, HUL, HG, HBL⟩ := hrel
    by_cases hlt : k < ts.length
    · obtain ⟨t, ht⟩ : ∃ t, t = ts[k]'hlt := ⟨_, rfl⟩
      obtain ⟨q1, q2, aa, q3⟩ := H.out.next k hlt
      rw [← ht] at q1 q2 q3
      have HT := Lib.hid ht; have HQ := Lib.hid q3; have HQ1 := Lib.hid q1
      have HUS : Hid (us ++ [t] = ts.take (k + 1)) := Lib.hid (by rw [HU.out, List.take_succ_eq_append_getElem hlt, ht])
      have hul : us.length ≤ 1000 := by rw [HUL.out]; omega
      clear ht q3 q1
      go_wp2_with fail
      refine (HQ.out _).mono ?_
      rintro e w2 ⟨rfl, hb2⟩
      have hg2 := HG.out.below hb2
      have hb22 := HBL.out.trans (hb2.mono HBL.out.size)
      obtain ⟨W1, hW1⟩ : ∃ W1, W1 = w2.alloc (.cells #[.int .i64 t.k, .int .i64 t.at_, .int .i64 t.nx, .int .i64 t.n, .float .f64 t.f, .string t.s] 118) := ⟨_, rfl⟩
      have hg3 : Rowed tokE (fun _ => False) w.heap.size 118 W1 us (.slice ax us.length cx) := by rw [hW1]; exact hg2.below ((Below.refl _ w2).alloc (Nat.le_refl _) _)
      have hb3 : Below w.heap.size w W1 := by rw [hW1]; exact hb22.alloc hb22.size _
      have hbt : Blk W1 w2.heap.size 118 #[.int .i64 t.k, .int .i64 t.at_, .int .i64 t.nx, .int .i64 t.n, .float .f64 t.f, .string t.s] := by rw [hW1]; exact Blk.new w2 118 _
      obtain ⟨A, hA⟩ : ∃ A, A = w2.heap.size := ⟨_, rfl⟩
      rw [← hA] at hbt
      have HA := Lib.hid hA
      have HBO := Lib.hid (fun b (hb : (Value.slice ax us.length cx).ownBlock = some b) => (HG.out.items.lt b hb).2)
      have HZ1 := Lib.hid HBL.out.size
      have HZ2 : Hid (wr.heap.size ≤ A) := Lib.hid (by rw [hA]; exact hb2.size)
      have c0 := hbt.cell 0; have c1 := hbt.cell 1; have c2 := hbt.cell 2; have c3 := hbt.cell 3; have c4 := hbt.cell 4; have c5 := hbt.cell 5
      simp at c0 c1 c2 c3 c4 c5
      have HW1 := Lib.hid hW1; have HG3 := Lib.hid hg3; have HB3 := Lib.hid hb3; have HBT := Lib.hid hbt
      clear hW1 hg2 hb22 hg3 hb3 hbt hA hb2
      go_upto_region 4 with fail
      rw [← HW1.out, ← HA.out]
      go_upto_region 8 with fail
      have hred : Reads (W1.alloc (.cells #[.int .i64 t.k, .int .i64 t.at_, .int .i64 t.nx, .int .i64 t.n, .float .f64 t.f, .string t.s] 118)) (W1.heap.size + 1) 6 (some ⟨W1.heap.size, 0, none⟩) 1 t.cells := row_reads W1 _ 118
      have hown := HG3.out.items.alloc (.cells #[.int .i64 t.k, .int .i64 t.at_, .int .i64 t.nx, .int .i64 t.n, .float .f64 t.f, .string t.s] 118)
      have HRED := Lib.hid hred; have HOWN := Lib.hid hown
      clear hred hown
      go_wp2_with (at_builtin; refine wpList_append_any _ rfl _ _ 92 rfl w.heap.size 118 i0 (.agg #[.int .i64 0, .int .i64 0, .int .i64 0, .int .i64 0, .float .f64 0, .string ByteArray.empty]) 6 56 Tryz.underlying92 hi0 hz0 hz1 hz2 rfl (by decide) _ us.length (tokE.row us) rfl HOWN.out (W1.heap.size + 1) _ 1 _ t.cells rfl HRED.out (tokE.one t) ?c1 ?c2 ?c3 ?_)
      case c1 => unfold maxLen; omega
      case c2 => omega
      case c3 => have := HB3.out.size; simp; omega
      intro v' w8 hown' hgrow hor
      have hne : some A ≠ (Value.slice ax us.length cx).ownBlock := fun e => by
        have h2 := HBO.out A e.symm
        have := HZ2.out
        omega
      have hbt8 : Blk w8 A 118 #[.int .i64 t.k, .int .i64 t.at_, .int .i64 t.nx, .int .i64 t.n, .float .f64 t.f, .string t.s] := (HBT.out.alloc _).grown hgrow hne
      have hg8 := Rowed.item (Z := wr.heap.size) (x := t) (HG3.out.below ((Below.refl _ W1).alloc (Nat.le_refl _) (.cells #[.int .i64 t.k, .int .i64 t.at_, .int .i64 t.nx, .int .i64 t.n, .float .f64 t.f, .string t.s] 118))) (fun _ h => h.elim) (by have := HB3.out.size; simp; omega) trivial trivial HZ1.out HBO.out hown' hgrow (by simpa using hor)
      have hb8 := (HB3.out.alloc HB3.out.size (.cells #[.int .i64 t.k, .int .i64 t.at_, .int .i64 t.nx, .int .i64 t.n, .float .f64 t.f, .string t.s] 118)).grown hgrow (by have := HB3.out.size; simp; omega) (fun k hk => own_ge HG3.out.items hk)
      obtain ⟨ax', cx', rfl⟩ := row_form hown'
      have f2 := hbt8.cell 2
      simp at f2
      have HG8 := Lib.hid hg8; have HB8 := Lib.hid hb8
      clear hg8 hb8 hown' hgrow hor hbt8 hne c0 c1 c2 c3 c4 c5
      go_wp2
      go_roundw
      case rel => exact ⟨k + 1, us ++ [t], ax', cx', by simp, by rw [HQ1.out], by omega, HUS, Lib.hid (by simp [HUL.out]), by simpa using HG8, HB8⟩
      case measure => simp [HUL.out]; omega
    · obtain rfl : k = ts.length := by omega
      have HE := Lib.hid H.out.end_
      obtain ⟨p, c, e1, e2, e3⟩ := Toks.of_own HG.out.items
      have HUT : Hid (us = ts) := Lib.hid (by rw [HU.out, List.take_length])
      have E1 := Lib.hid e1; have E2 := Lib.hid e2; have E3 := Lib.hid e3
      clear e1 e2 e3
      go_wp2_with fail
      refine (HE.out _).mono ?_
      rintro e w2 ⟨rfl, hb2⟩
      obtain ⟨W1, hW1⟩ : ∃ W1, W1 = w2.alloc (.cells #[.int .i64 1, .int .i64 (s.size : Int), .int .i64 (s.size : Int), .int .i64 0, .float .f64 0, .string ⟨#[]⟩] 118) := ⟨_, rfl⟩
      have hbW : Below wr.heap.size wr W1 := by rw [hW1]; exact hb2.alloc hb2.size _
      have hbt : Blk W1 w2.heap.size 118 #[.int .i64 1, .int .i64 (s.size : Int), .int .i64 (s.size : Int), .int .i64 0, .float .f64 0, .string ⟨#[]⟩] := by rw [hW1]; exact Blk.new w2 118 _
      obtain ⟨A, hA⟩ : ∃ A, A = w2.heap.size := ⟨_, rfl⟩
      rw [← hA] at hbt
      have HA := Lib.hid hA
      have c0 := hbt.cell 0; have c1 := hbt.cell 1; have c2 := hbt.cell 2; have c3 := hbt.cell 3; have c4 := hbt.cell 4; have c5 := hbt.cell 5
      simp at c0 c1 c2 c3 c4 c5
      have HW1 := Lib.hid hW1; have HBW := Lib.hid hbW
      clear hW1 hbt hA hb2 hbW
      go_upto_region 4 with fail
      rw [← HW1.out, ← HA.out]
      go_wp2_with fail
      refine bodyPost_ret (v := .tuple #[.slice ax us.length cx, .int .i64 0, .int .i64 0]) (by simp [results, Tryz.results63, go_sem]) rfl ?_
      refine ⟨p, c, by rw [E1.out, HUT.out], ?_, by rw [← HUT.out]; exact E3.out, HBL.out.trans (HBW.out.mono HBL.out.size)⟩
      rw [← HUT.out]
      exact ⟨E2.out.cap, fun i hi => by
        obtain ⟨g, a, b, c⟩ := E2.out.at_ i hi
        exact ⟨g, a, Nat.lt_of_lt_of_le b HBW.out.size, fun j hj => (HBW.out.cell (p := ⟨g, i * 6 + j, none⟩) b).trans (c j hj)⟩⟩
end Go.Proofs.YtjpdbhhjlnmacaaGreat

/- Where an expression's parts lie (printed by wip/gen_expsep.py from XTySep). Plain lemmas. -/
namespace Go.Proofs.YtjpdbhhjlnmacaaGreat
set_option linter.unusedVariables false
open Go.RowKit

mutual
/-- Each block that it leads to is such a one. -/
def Exp.Sep (S : Nat → Prop) : Exp → Prop
  | .mk _ _ v na ns xa xs => v.Sep S ∧ na.sep S ns.length ∧ xa.sep S xs.length ∧ Exp.SepAll S xs
def Exp.SepAll (S : Nat → Prop) : List Exp → Prop
  | [] => True
  | x :: xs => x.Sep S ∧ Exp.SepAll S xs
end
theorem Exp.sepAll_iff (S : Nat → Prop) : ∀ xs : List Exp, Exp.SepAll S xs ↔ ∀ x, x ∈ xs → x.Sep S
  | [] => by simp [Exp.SepAll]
  | x :: xs => by simp [Exp.SepAll, Exp.sepAll_iff S xs]
theorem Exp.sep_iff (S : Nat → Prop) (v : Exp) : v.Sep S ↔ v.v.Sep S ∧ v.na.sep S v.ns.length ∧ v.xa.sep S v.xs.length ∧ ∀ x, x ∈ v.xs → x.Sep S := by
  cases v
  simp only [Exp.Sep, Exp.sepAll_iff, Exp.v, Exp.na, Exp.ns, Exp.xa, Exp.xs]
theorem Exp.sep_mono {S T : Nat → Prop} (hst : ∀ b, S b → T b) : ∀ (d : Nat) (v : Exp), v.sz ≤ d → v.Sep S → v.Sep T
  | 0, v, hd, _ => by rw [Exp.sz_eq] at hd; omega
  | d + 1, v, hd, h => by
    rw [Exp.sep_iff] at h ⊢
    exact ⟨h.1.mono hst, h.2.1.mono hst, h.2.2.1.mono hst, fun x hx => Exp.sep_mono hst d x (by have := Exp.size_mem hx; omega) (h.2.2.2 x hx)⟩
theorem Exp.Sep.mono {S T : Nat → Prop} {v : Exp} (h : v.Sep S) (hst : ∀ b, S b → T b) : v.Sep T := Exp.sep_mono hst v.sz v (Nat.le_refl _) h
theorem Exp.sep_and {S T : Nat → Prop} : ∀ (d : Nat) (v : Exp), v.sz ≤ d → v.Sep S → v.Sep T → v.Sep (fun b => S b ∧ T b)
  | 0, v, hd, _, _ => by rw [Exp.sz_eq] at hd; omega
  | d + 1, v, hd, h, k => by
    rw [Exp.sep_iff] at h k ⊢
    exact ⟨h.1.and k.1, h.2.1.and k.2.1, h.2.2.1.and k.2.2.1, fun x hx => Exp.sep_and d x (by have := Exp.size_mem hx; omega) (h.2.2.2 x hx) (k.2.2.2 x hx)⟩
theorem Exp.Sep.and {S T : Nat → Prop} {v : Exp} (h : v.Sep S) (k : v.Sep T) : v.Sep (fun b => S b ∧ T b) := Exp.sep_and v.sz v (Nat.le_refl _) h k
theorem Exp.in_sep {w : World} : ∀ (d : Nat) (v : Exp), v.sz ≤ d → v.In w → v.Sep (fun b => b < w.heap.size)
  | 0, v, hd, _ => by rw [Exp.sz_eq] at hd; omega
  | d + 1, v, hd, h => by
    rw [Exp.in_iff] at h
    rw [Exp.sep_iff]
    exact ⟨h.2.1.sep, h.2.2.1.sep (by omega), h.2.2.2.1.sep (by omega), fun x hx => Exp.in_sep d x (by have := Exp.size_mem hx; omega) (h.2.2.2.2 x hx)⟩
theorem Exp.In.sep {w : World} {v : Exp} (h : v.In w) : v.Sep (fun b => b < w.heap.size) := Exp.in_sep v.sz v (Nat.le_refl _) h

theorem Exp.in_carryS {S : Nat → Prop} {w w' : World} (hb : ∀ b o, S b → b < w.heap.size → w'.cell? ⟨b, o, none⟩ = w.cell? ⟨b, o, none⟩) (hz : w.heap.size ≤ w'.heap.size) :
    ∀ (d : Nat) (v : Exp), v.sz ≤ d → v.In w → v.Sep S → v.In w'
  | 0, v, hd, _, _ => by rw [Exp.sz_eq] at hd; omega
  | d + 1, v, hd, h, hs => by
    rw [Exp.in_iff] at h ⊢
    rw [Exp.sep_iff] at hs
    exact ⟨h.1, h.2.1.carryS hs.1 hb hz, h.2.2.1.carryS hs.2.1 hb hz, h.2.2.2.1.carryS hs.2.2.1 hb hz, fun x hx => Exp.in_carryS hb hz d x (by have := Exp.size_mem hx; omega) (h.2.2.2.2 x hx) (hs.2.2.2 x hx)⟩
theorem Exp.In.carryS {S : Nat → Prop} {w w' : World} {v : Exp} (h : v.In w) (hs : v.Sep S) (hb : ∀ b o, S b → b < w.heap.size → w'.cell? ⟨b, o, none⟩ = w.cell? ⟨b, o, none⟩) (hz : w.heap.size ≤ w'.heap.size) : v.In w' :=
  Exp.in_carryS hb hz v.sz v (Nat.le_refl _) h hs

theorem xcells_len (v : Exp) : v.cells.length = 10 := rfl
theorem xcells_one (v : Exp) : ∀ u ∈ v.cells, u.oneCell' = true := by
  intro u hu
  simp only [Exp.cells, List.mem_cons, List.not_mem_nil, or_false] at hu
  rcases hu with rfl | rfl | rfl | rfl | rfl | rfl | rfl | rfl | rfl | rfl
  all_goals first | rfl | (cases v.v.na <;> rfl) | (cases v.v.xa <;> rfl) | (cases v.na <;> rfl) | (cases v.xa <;> rfl)
def expE : Elem Exp where
  cells := Exp.cells
  size := 10
  In := fun w v => v.In w
  Sep := fun S v => v.Sep S
  pos := by decide
  len := xcells_len
  one := xcells_one
  carry := fun h hs hb hz => h.carryS hs hb hz
  mono := fun h hst => h.mono hst
  and := fun h k => h.and k
  lt := fun h => h.sep
/-- Expressions in a row of their own: where it lies. -/
theorem xrowLies_of_own {w : World} {base : Nat} {e : TypeId} {v : Value} {us : List Exp} (h : w.ownsRow base e 10 v us.length (expE.row us)) :
    ∃ s : Sl, v = s.val us.length ∧ s.lies w 10 us.length (fun i => (us.getD i Exp.zero).cells) ∧ s.sep (fun b => base ≤ b) us.length := by
  have hh := h.2
  rcases hh with ⟨rfl, h0⟩ | ⟨g, cap, cur, rfl, hb, hg, hnc, hcm, hcs, htake⟩
  · exact ⟨.no, by simp [Sl.val], h0, trivial⟩
  · refine ⟨.at_ g 0 cap, rfl, ⟨hnc, by unfold maxLen at hcm; exact hcm, fun i hi j hj => ⟨?_, ?_⟩⟩, .inr hb⟩
    · have hget := expE.row_get us i j hi hj
      have hl : j < (us[i]'hi).cells.length := by rw [xcells_len]; exact hj
      have hc := h.cells (g := g) rfl (i * 10 + j) ((us[i]'hi).cells[j]'hl) (by
        have : (expE.row us)[i * 10 + j]? = (us[i]'hi).cells[j]? := hget
        rw [this, List.getElem?_eq_getElem hl])
      rw [Addr.add_lit] at hc
      have e : us.getD i Exp.zero = us[i]'hi := by simp [hi]
      show _ = (us.getD i Exp.zero).cells[j]?
      rw [e, List.getElem?_eq_getElem hl]
      simpa using hc
    · rcases Nat.lt_or_ge g w.heap.size with h' | h'
      · exact h'
      · simp [Array.getElem?_eq_none h'] at hg
end Go.Proofs.YtjpdbhhjlnmacaaGreat

/- basculeref09.Small of any variables. -/
namespace Go.Proofs.YtjpdbhhjlnmacaaGreat
set_option linter.unusedVariables false
open Go.RowKit

def Var.smallB (v : Var) : Bool := v.t.smallB && v.v.smallB && decide (v.n.size ≤ 300)
def varsSmallB (vs : List Var) : Bool := vs.all Var.smallB && decide (vs.length ≤ 40)
set_option maxHeartbeats 4000000 in
set_option maxRecDepth 100000 in
theorem vsmall_any (vs : List Var) (vp : Option Addr) (vc : Nat) (w : World) (hv : VarsIn w vp vc vs) :
    Calls Tryz.prog 10 #[.slice vp vs.length vc] w fun e w' => BoolBelow (varsSmallB vs) w e w' := by
  obtain ⟨R, hR⟩ : ∃ R, R = varsSmallB vs := ⟨_, rfl⟩
  rw [← hR]
  obtain ⟨N, hN⟩ : ∃ N, N = vs.length := ⟨_, rfl⟩
  rw [← hN]
  have hNb : N ≤ 879609302195 := by rw [hN]; exact hv.len
  have hNc : N ≤ vc := by rw [hN]; exact hv.cap
  have HR := Lib.hid hR; have HN := Lib.hid hN; have HV := Lib.hid hv
  clear hR hN hv
  go_enter Tryz.func10, Tryz.ntmps10
  go_wp2_with fail
  go_loopw [3] (fun iv wr => ∃ i : Nat, iv = .int .i64 (i : Int) ∧ i ≤ N ∧ Hid ((vs.take i).all Var.smallB = true) ∧ Hid (Below w.heap.size w wr)) (fun iv _ => N - (intOf iv).toNat)
  case atStart => exact ⟨0, rfl, by omega, Lib.hid rfl, Lib.hid (Below.refl _ _)⟩
  case round =>
    obtain ⟨i, rfl, hi, HAL, HBL⟩ := hrel
    by_cases hlt : i < N
    · have hil : i < vs.length := by rw [← HN.out]; exact hlt
      obtain ⟨vb, vo, rfl, hpv0⟩ := HV.out.at_ i hil
      obtain ⟨v, hvd⟩ : ∃ v, v = vs[i]'hil := ⟨_, rfl⟩
      rw [← hvd] at hpv0
      have hpv := hpv0.below HBL.out
      have htr := tsmall_any v.t wr hpv.ty.in
      have hvr := fun (W' : World) (h : Below wr.heap.size wr W') => small_any v.v W' (hpv.below h).val.2.2
      have hcs := fun (W' : World) (h : Below wr.heap.size wr W') => hpv.below h
      have g2 := hpv.c2; have g3 := hpv.c3; have g4 := hpv.c4
      obtain ⟨k4, l4, f4⟩ := hpv.ty.in.nslice
      obtain ⟨k5, l5, f5⟩ := hpv.ty.in.xslice
      obtain ⟨m4, n4, h4⟩ := hpv.val.2.2.nslice
      obtain ⟨m5, n5, h5⟩ := hpv.val.2.2.xslice
      rw [f4] at g3
      rw [f5] at g4
      unfold Ty.agg at htr
      rw [f4, f5] at htr
      unfold Val.agg at hvr
      rw [h4, h5] at hvr
      have hk0 : (0 : Int) ≤ (i : Int) := by omega
      have hk1 : (i : Int) < (N : Int) := by omega
      have HC := Lib.hid htr; have HVR := Lib.hid hvr; have HCS := Lib.hid hcs; have H4 := Lib.hid h4; have H5 := Lib.hid h5
      have HVD := Lib.hid hvd
      have HS : Hid (v.smallB = (v.t.smallB && v.v.smallB && decide (v.n.size ≤ 300))) := Lib.hid rfl
      have HRF : Hid (v.smallB = false → R = false) := Lib.hid (fun h => by
        rw [HR.out]
        unfold varsSmallB
        have : vs.all Var.smallB = false := by
          rw [Bool.eq_false_iff]
          intro hall
          have := List.all_eq_true.1 hall v (by rw [HVD.out]; simp)
          rw [this] at h
          cases h
        rw [this]
        rfl)
      clear htr hpv hpv0 f4 f5 hvd hvr hcs h4 h5
      go_wp2_with fail
      refine HC.out.mono ?_
      rintro e w3 ⟨rfl, hb3⟩
      have B3 := Lib.hid (HBL.out.trans (hb3.mono HBL.out.size)); have C3 := Lib.hid hb3
      clear hb3 g2 g3 g4
      cases hs1 : v.t.smallB with
      | false =>
        have HRN : Hid (R = false) := Lib.hid (HRF.out (by rw [HS.out, hs1]; rfl))
        clear hs1
        go_wp2_with fail
        go_ret
        exact ⟨by rw [HRN.out]; rfl, B3.out⟩
      | true =>
      have HS1 := Lib.hid hs1
      clear hs1
      have hpv3 := HCS.out w3 C3.out
      have g5 := hpv3.c5; have g6 := hpv3.c6; have g7 := hpv3.c7; have g8 := hpv3.c8; have g9 := hpv3.c9; have g10 := hpv3.c10
      rw [H4.out] at g9
      rw [H5.out] at g10
      clear hpv3
      go_wp2_with fail
      refine (HVR.out _ C3.out).mono ?_
      rintro e w4 ⟨rfl, hb4⟩
      have B4 := Lib.hid (B3.out.trans (hb4.mono B3.out.size)); have C4 := Lib.hid (C3.out.trans (hb4.mono C3.out.size))
      clear hb4 g5 g6 g7 g8 g9 g10
      cases hs2 : v.v.smallB with
      | false =>
        have HRN : Hid (R = false) := Lib.hid (HRF.out (by rw [HS.out, hs2, Bool.and_false, Bool.false_and]))
        clear hs2
        go_wp2_with fail
        go_ret
        exact ⟨by rw [HRN.out]; rfl, B4.out⟩
      | true =>
      have HS2 := Lib.hid hs2
      clear hs2
      have g0 := (HCS.out w4 C4.out).c0
      by_cases hn : v.n.size ≤ 300
      · have t0 : decide ((300 : Int) < (v.n.size : Int)) = false := by simp; omega
        have t1 : ¬ (300 < v.n.size) := by omega
        have HAL2 : Hid ((vs.take (i + 1)).all Var.smallB = true) := Lib.hid (by
          rw [List.take_succ_eq_append_getElem hil, List.all_append, HAL.out, ← HVD.out]
          simp [HS.out, HS1.out, HS2.out, hn])
        clear hn
        go_wp2_with fail
        go_roundw
        case rel => exact ⟨i + 1, by go_num, by omega, HAL2, B4⟩
        case measure => simp [intOf]; omega
      · have t0 : decide ((300 : Int) < (v.n.size : Int)) = true := by simp; omega
        have t1 : 300 < v.n.size := by omega
        have HRN : Hid (R = false) := Lib.hid (HRF.out (by rw [HS.out]; simp [hn]))
        clear hn
        go_wp2_with fail
        go_ret
        exact ⟨by rw [HRN.out]; rfl, B4.out⟩
    · obtain rfl : i = N := by omega
      have t1 : decide ((i : Int) < (i : Int)) = false := by simp
      have HRE : Hid (R = decide (i ≤ 40)) := Lib.hid (by
        have := HAL.out
        rw [HN.out, List.take_length] at this
        rw [HR.out]
        unfold varsSmallB
        rw [this, HN.out]
        rfl)
      clear hlt
      by_cases h40 : i ≤ 40
      · have t2 : decide ((i : Int) ≤ 40) = true := by simp; omega
        have HRN : Hid (R = true) := Lib.hid (by rw [HRE.out]; simp [h40])
        clear h40
        go_wp2_with fail
        go_ret
        exact ⟨by rw [HRN.out]; rfl, HBL.out⟩
      · have t2 : decide ((i : Int) ≤ 40) = false := by simp; omega
        have HRN : Hid (R = false) := Lib.hid (by rw [HRE.out]; simp [h40])
        clear h40
        go_wp2_with fail
        go_ret
        exact ⟨by rw [HRN.out]; rfl, HBL.out⟩
end Go.Proofs.YtjpdbhhjlnmacaaGreat
