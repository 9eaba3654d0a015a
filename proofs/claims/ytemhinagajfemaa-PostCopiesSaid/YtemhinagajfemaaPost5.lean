/- A message is taken out of a box: the walk. -/
import Derived.Test.YtemhinagajfemaaPost4
import Derived.BigRegion
namespace Go.Proofs.Ytemhinagajfemaa
set_option linter.unusedVariables false
open Go.RowKit

theorem six {W : World} {g : Nat} {T : TypeId} {l : List Value} (hb : Blk W g T l.toArray) (hl : 6 ≤ l.length) (u0 u1 u2 u3 u4 u5 : Value) :
    (∃ x, W.cell? ⟨g, 0, none⟩ = some x) ∧ W.frozen? ⟨g, 0, none⟩ = false ∧
    (∃ x, (W.setCell ⟨g, 0, none⟩ u0).cell? ⟨g, 1, none⟩ = some x) ∧ (W.setCell ⟨g, 0, none⟩ u0).frozen? ⟨g, 1, none⟩ = false ∧
    (∃ x, ((W.setCell ⟨g, 0, none⟩ u0).setCell ⟨g, 1, none⟩ u1).cell? ⟨g, 2, none⟩ = some x) ∧ ((W.setCell ⟨g, 0, none⟩ u0).setCell ⟨g, 1, none⟩ u1).frozen? ⟨g, 2, none⟩ = false ∧
    (∃ x, (((W.setCell ⟨g, 0, none⟩ u0).setCell ⟨g, 1, none⟩ u1).setCell ⟨g, 2, none⟩ u2).cell? ⟨g, 3, none⟩ = some x) ∧ (((W.setCell ⟨g, 0, none⟩ u0).setCell ⟨g, 1, none⟩ u1).setCell ⟨g, 2, none⟩ u2).frozen? ⟨g, 3, none⟩ = false ∧
    (∃ x, ((((W.setCell ⟨g, 0, none⟩ u0).setCell ⟨g, 1, none⟩ u1).setCell ⟨g, 2, none⟩ u2).setCell ⟨g, 3, none⟩ u3).cell? ⟨g, 4, none⟩ = some x) ∧ ((((W.setCell ⟨g, 0, none⟩ u0).setCell ⟨g, 1, none⟩ u1).setCell ⟨g, 2, none⟩ u2).setCell ⟨g, 3, none⟩ u3).frozen? ⟨g, 4, none⟩ = false ∧
    (∃ x, (((((W.setCell ⟨g, 0, none⟩ u0).setCell ⟨g, 1, none⟩ u1).setCell ⟨g, 2, none⟩ u2).setCell ⟨g, 3, none⟩ u3).setCell ⟨g, 4, none⟩ u4).cell? ⟨g, 5, none⟩ = some x) ∧ (((((W.setCell ⟨g, 0, none⟩ u0).setCell ⟨g, 1, none⟩ u1).setCell ⟨g, 2, none⟩ u2).setCell ⟨g, 3, none⟩ u3).setCell ⟨g, 4, none⟩ u4).frozen? ⟨g, 5, none⟩ = false := by
  have k0 := hb
  have k1 := k0.setl (i := 0) u0
  have k2 := k1.setl (i := 1) u1
  have k3 := k2.setl (i := 2) u2
  have k4 := k3.setl (i := 3) u3
  have k5 := k4.setl (i := 4) u4
  exact ⟨⟨_, (k0.cell 0).trans (Array.getElem?_eq_getElem (by simp; omega))⟩, k0.frozen 0, ⟨_, (k1.cell 1).trans (Array.getElem?_eq_getElem (by simp; omega))⟩, k1.frozen 1, ⟨_, (k2.cell 2).trans (Array.getElem?_eq_getElem (by simp; omega))⟩, k2.frozen 2, ⟨_, (k3.cell 3).trans (Array.getElem?_eq_getElem (by simp; omega))⟩, k3.frozen 3, ⟨_, (k4.cell 4).trans (Array.getElem?_eq_getElem (by simp; omega))⟩, k4.frozen 4, ⟨_, (k5.cell 5).trans (Array.getElem?_eq_getElem (by simp; omega))⟩, k5.frozen 5⟩
theorem stored6 {w5 : World} {g : Nat} {T : TypeId} {x0 x1 x2 x3 x4 x5 : Value} (hb : Blk w5 g T [x0, x1, x2, x3, x4, x5].toArray) (u0 u1 u2 u3 u4 u5 : Value) :
    Blk ((((((w5.setCell ⟨g, 0, none⟩ u0).setCell ⟨g, 1, none⟩ u1).setCell ⟨g, 2, none⟩ u2).setCell ⟨g, 3, none⟩ u3).setCell ⟨g, 4, none⟩ u4).setCell ⟨g, 5, none⟩ u5) g T [u0, u1, u2, u3, u4, u5].toArray ∧ Only w5 ((((((w5.setCell ⟨g, 0, none⟩ u0).setCell ⟨g, 1, none⟩ u1).setCell ⟨g, 2, none⟩ u2).setCell ⟨g, 3, none⟩ u3).setCell ⟨g, 4, none⟩ u4).setCell ⟨g, 5, none⟩ u5) g :=
  ⟨(((((hb.setl (i := 0) u0).setl (i := 1) u1).setl (i := 2) u2).setl (i := 3) u3).setl (i := 4) u4).setl (i := 5) u5,
    ((((((Only.refl w5 g).set_ (.inl rfl) _).set_ (.inl rfl) _).set_ (.inl rfl) _).set_ (.inl rfl) _).set_ (.inl rfl) _).set_ (.inl rfl) _⟩
theorem base12 {W : World} {g o : Nat} {T : TypeId} {l : List Value} (hb : Blk W g T l.toArray) (hl : o + 12 ≤ l.length) :
    (∃ x, W.cell? ⟨g, o, none⟩ = some x) ∧ W.frozen? ⟨g, o, none⟩ = false ∧
    (∃ x, W.cell? ⟨g, o + 1, none⟩ = some x) ∧ W.frozen? ⟨g, o + 1, none⟩ = false ∧
    (∃ x, W.cell? ⟨g, o + 2, none⟩ = some x) ∧ W.frozen? ⟨g, o + 2, none⟩ = false ∧
    (∃ x, W.cell? ⟨g, o + 3, none⟩ = some x) ∧ W.frozen? ⟨g, o + 3, none⟩ = false ∧
    (∃ x, W.cell? ⟨g, o + 4, none⟩ = some x) ∧ W.frozen? ⟨g, o + 4, none⟩ = false ∧
    (∃ x, W.cell? ⟨g, o + 5, none⟩ = some x) ∧ W.frozen? ⟨g, o + 5, none⟩ = false ∧
    (∃ x, W.cell? ⟨g, o + 6, none⟩ = some x) ∧ W.frozen? ⟨g, o + 6, none⟩ = false ∧
    (∃ x, W.cell? ⟨g, o + 7, none⟩ = some x) ∧ W.frozen? ⟨g, o + 7, none⟩ = false ∧
    (∃ x, W.cell? ⟨g, o + 8, none⟩ = some x) ∧ W.frozen? ⟨g, o + 8, none⟩ = false ∧
    (∃ x, W.cell? ⟨g, o + 9, none⟩ = some x) ∧ W.frozen? ⟨g, o + 9, none⟩ = false ∧
    (∃ x, W.cell? ⟨g, o + 10, none⟩ = some x) ∧ W.frozen? ⟨g, o + 10, none⟩ = false ∧
    (∃ x, W.cell? ⟨g, o + 11, none⟩ = some x) ∧ W.frozen? ⟨g, o + 11, none⟩ = false := by
  have key : ∀ i, i < 12 → ∃ x, W.cell? ⟨g, o + i, none⟩ = some x := fun i hi => ⟨_, (hb.cell (o + i)).trans (Array.getElem?_eq_getElem (by simp; omega))⟩
  exact ⟨key 0 (by omega), hb.frozen _, key 1 (by omega), hb.frozen _, key 2 (by omega), hb.frozen _, key 3 (by omega), hb.frozen _, key 4 (by omega), hb.frozen _, key 5 (by omega), hb.frozen _, key 6 (by omega), hb.frozen _, key 7 (by omega), hb.frozen _, key 8 (by omega), hb.frozen _, key 9 (by omega), hb.frozen _, key 10 (by omega), hb.frozen _, key 11 (by omega), hb.frozen _⟩
theorem let_cells {w : World} {g k : Nat} {n : Int} {arr : List (Val × Val)} {a b : Val} (hb : Blk w g 107 (boxC arr n).toArray) (h : arr[k]? = some (a, b)) :
    w.cell? ⟨g, k * 12, none⟩ = some (.int .i64 a.k) ∧ w.cell? ⟨g, k * 12 + 1, none⟩ = some (.int .i64 a.n) ∧ w.cell? ⟨g, k * 12 + 2, none⟩ = some (.float .f64 a.f) ∧ w.cell? ⟨g, k * 12 + 3, none⟩ = some (.string a.s) ∧ w.cell? ⟨g, k * 12 + 4, none⟩ = some (a.na.val a.ns.length) ∧ w.cell? ⟨g, k * 12 + 5, none⟩ = some (a.xa.val a.xs.length) ∧ w.cell? ⟨g, k * 12 + 6, none⟩ = some (.int .i64 b.k) ∧ w.cell? ⟨g, k * 12 + 7, none⟩ = some (.int .i64 b.n) ∧ w.cell? ⟨g, k * 12 + 8, none⟩ = some (.float .f64 b.f) ∧ w.cell? ⟨g, k * 12 + 9, none⟩ = some (.string b.s) ∧ w.cell? ⟨g, k * 12 + 10, none⟩ = some (b.na.val b.ns.length) ∧ w.cell? ⟨g, k * 12 + 11, none⟩ = some (b.xa.val b.xs.length) := by
  have hk : k < arr.length := by
    rcases Nat.lt_or_ge k arr.length with h' | h'
    · exact h'
    · rw [List.getElem?_eq_none h'] at h; cases h
  have he : arr[k] = (a, b) := by rw [List.getElem?_eq_getElem hk] at h; injection h
  have key : ∀ j (hj : j < 12) (x : Value), (letC (a, b))[j]? = some x → w.cell? ⟨g, k * 12 + j, none⟩ = some x := fun j hj x hx => by
    rw [hb.cell, List.getElem?_toArray, boxC_get hk hj, he, hx]
  exact ⟨key 0 (by omega) _ rfl, key 1 (by omega) _ rfl, key 2 (by omega) _ rfl, key 3 (by omega) _ rfl, key 4 (by omega) _ rfl, key 5 (by omega) _ rfl, key 6 (by omega) _ rfl, key 7 (by omega) _ rfl, key 8 (by omega) _ rfl, key 9 (by omega) _ rfl, key 10 (by omega) _ rfl, key 11 (by omega) _ rfl⟩
def TakeNo (g : Nat) (w : World) (e : Ending) (w' : World) : Prop := NoneTaken w e w'
def TakeYes (g : Nat) (ms : List (Val × Val)) (i : Nat) (b : Val) (w : World) (e : Ending) (w' : World) : Prop := e = .returned (.tuple #[b.agg, .bool true]) ∧ BoxAt w' g (ms.eraseIdx i) ∧ Only w w' g
def TakeDone (g : Nat) (ms : List (Val × Val)) (u : Val) (w : World) (e : Ending) (w' : World) : Prop :=
  ((∀ m, m ∈ ms → m.1.same u = false) ∧ NoneTaken w e w') ∨
  (∃ i a b, ms[i]? = some (a, b) ∧ (∀ j m, j < i → ms[j]? = some m → m.1.same u = false) ∧ a.same u = true ∧ TakeYes g ms i b w e w')
/-- None of the first k has that key. -/
def NoneTo (ms : List (Val × Val)) (u : Val) (k : Nat) : Prop := ∀ j m, j < k → ms[j]? = some m → m.1.same u = false
theorem NoneTo.next {ms : List (Val × Val)} {u a b : Val} {k : Nat} (h : NoneTo ms u k) (hm : ms[k]? = some (a, b)) (hs : a.same u = false) : NoneTo ms u (k + 1) := fun j m hj hm' => by
  rcases Nat.lt_or_ge j k with h' | h'
  · exact h j m h' hm'
  · obtain rfl : j = k := by omega
    rw [hm] at hm'
    injection hm' with hm'
    subst hm'
    exact hs

def SlOk (v : Val) : Prop := (∃ p q, v.na.val v.ns.length = .slice p v.ns.length q) ∧ (∃ p q, v.xa.val v.xs.length = .slice p v.xs.length q)
theorem slok_zero : SlOk Val.zero := ⟨⟨none, 0, rfl⟩, ⟨none, 0, rfl⟩⟩
theorem arr_slok {w : World} {g : Nat} {ms : List (Val × Val)} (h : BoxAt w g ms) {i k t : Nat} {a b : Val} (hm : (shifted (arrOf ms) i k)[t]? = some (a, b)) : SlOk a ∧ SlOk b := by
  have key : ∀ s, SlOk ((arrOf ms).getD s zLet).1 ∧ SlOk ((arrOf ms).getD s zLet).2 := fun s => by
    rw [List.getD_eq_getElem?_getD]
    cases hs : (arrOf ms)[s]? with
    | none => exact ⟨slok_zero, slok_zero⟩
    | some m =>
      have hmem := List.mem_of_getElem? hs
      rcases List.mem_append.1 hmem with h' | h'
      · obtain ⟨⟨h1, _⟩, h2, _⟩ := h.2.2 m h'
        exact ⟨⟨h1.nslice, h1.xslice⟩, h2.nslice, h2.xslice⟩
      · obtain ⟨_, rfl⟩ := List.mem_replicate.1 h'
        exact ⟨slok_zero, slok_zero⟩
  rcases Nat.lt_or_ge t 6 with ht | ht
  · rw [shifted_at _ _ _ _ ht] at hm
    injection hm with hm
    split at hm
    · have := key (t + 1); rw [hm] at this; exact this
    · have := key t; rw [hm] at this; exact this
  · rw [shifted_no _ _ _ _ ht] at hm; cases hm
theorem take_end {ms : List (Val × Val)} {u a b : Val} {w W : World} {g i n : Nat} (hbx : BoxAt w g ms) (hm : ms[i]? = some (a, b)) (hno : NoneTo ms u i) (hs : a.same u = true) (hn : n + 1 = ms.length)
    (hb : Blk W g 107 (boxC ((shifted (arrOf ms) i n).set n zLet) n).toArray) (o : Only w W g) : TakeDone g ms u w (.returned (.tuple #[b.agg, .bool true])) W := by
  have hi : i < ms.length := by
    rcases Nat.lt_or_ge i ms.length with h' | h'
    · exact h'
    · rw [List.getElem?_eq_none h'] at hm; cases hm
  have hle := hbx.2.1
  have hl : (ms.eraseIdx i).length = n := by rw [List.length_eraseIdx, if_pos hi]; omega
  rw [shifted_end hle hi hn] at hb
  refine .inr ⟨i, a, b, hm, hno, hs, rfl, ⟨?_, by omega, fun m hm => ?_⟩, o⟩
  · rw [boxCells_arr (by omega), hl]; exact hb
  · obtain ⟨⟨h1, h2⟩, h3, h4⟩ := hbx.2.2 m (List.mem_of_mem_eraseIdx hm)
    exact ⟨⟨h1.carryS h2 o.cellN o.size, h2⟩, h3.carryS h4 o.cellN o.size, h4⟩
theorem NoneTo.all {ms : List (Val × Val)} {u : Val} (h : NoneTo ms u ms.length) : ∀ m, m ∈ ms → m.1.same u = false := fun m hm => by
  obtain ⟨j, hj, rfl⟩ := List.getElem_of_mem hm
  exact h j _ hj (List.getElem?_eq_getElem hj)

set_option maxHeartbeats 4000000 in
set_option maxRecDepth 100000 in
theorem take_ok (u : Val) (g : Nat) (ms : List (Val × Val)) (w : World) (hu : u.In w) (hbx : BoxAt w g ms) (hkk : ∀ m, m ∈ ms → m.1.Kinds) :
    Calls Try.prog 27 #[.pointer (some ⟨g, 0, none⟩), u.agg] w fun e w' => TakeDone g ms u w e w' := by
  obtain ⟨W, hW⟩ : ∃ W, W = (w.alloc (.cells #[.int .i64 u.k, .int .i64 u.n, .float .f64 u.f, .string u.s, u.na.val u.ns.length, u.xa.val u.xs.length] 46)).alloc (.cells #[.int .i64 0, .int .i64 0, .float .f64 0, .string ⟨#[]⟩, .slice none 0 0, .slice none 0 0] 46) := ⟨_, rfl⟩
  obtain ⟨B, hB⟩ : ∃ B, B = w.heap.size := ⟨_, rfl⟩
  have hbW : Below w.heap.size w W := by rw [hW]; exact ((Below.refl _ _).alloc (Nat.le_refl _) _).alloc (by simp) _
  have hpu : PVal W B 0 u := by
    rw [hW, hB]
    exact (PVal.new w u 46 hu).below ((Below.refl _ _).alloc (Nat.le_refl _) _)
  have hres : Blk W (B + 1) 46 #[.int .i64 0, .int .i64 0, .float .f64 0, .string ⟨#[]⟩, .slice none 0 0, .slice none 0 0] := by
    rw [hW, hB]
    have := Blk.new (w.alloc (.cells #[.int .i64 u.k, .int .i64 u.n, .float .f64 u.f, .string u.s, u.na.val u.ns.length, u.xa.val u.xs.length] 46)) 46 #[.int .i64 0, .int .i64 0, .float .f64 0, .string ⟨#[]⟩, .slice none 0 0, .slice none 0 0]
    simpa using this
  have hnp : ∀ (W : World) (a : Addr), (binOp .eql 49 (.pointer (some a)) (.pointer none)).run Try.prog W = .ok (.bool false) W := fun _ _ => rfl
  have hglt := hbx.1.lt
  have hgB : g < B := by omega
  have hbk : Blk W g 107 (boxC (arrOf ms) ms.length).toArray := by
    have := hbx.1.below hbW hglt
    rwa [boxCells_arr hbx.2.1] at this
  have hn : W.cell? ⟨g, 72, none⟩ = some (.int .i64 ms.length) := by rw [hbk.cell 72]; simpa using boxC_last (n := (ms.length : Int)) (arrOf_len hbx.2.1)
  have hle := hbx.2.1
  obtain ⟨N, hN⟩ : ∃ N, N = ms.length := ⟨_, rfl⟩
  rw [← hN] at hn hle
  rw [hW] at hn
  have HN := Lib.hid hN; have HK := Lib.hid hkk
  have HU := Lib.hid hpu; have HR := Lib.hid hres; have HBX := Lib.hid hbx; have HBK := Lib.hid hbk
  have HW := Lib.hid hW; have HB := Lib.hid hbW; have HBB := Lib.hid hB
  have hsf := run_store_flt
  have hBlt : B + 1 < W.heap.size := hres.lt
  clear hW hbW hpu hres hu hbx hbk hN hkk hB hglt
  unfold Val.agg
  go_enter Try.func27, Try.ntmps27
  go_wp2_with fail
  rw [← HBB.out, ← HW.out]
  clear hn
  go_loopw [15] (fun iv wr => ∃ k : Nat, k ≤ N ∧ iv = .int .i64 k ∧ Below W.heap.size W wr ∧ NoneTo ms u k) (fun iv _ => N - (intOf iv).toNat)
  case atStart => exact ⟨0, Nat.zero_le _, rfl, Below.refl _ _, fun j m hj => absurd hj (by omega)⟩
  case round =>
    obtain ⟨k, hk, rfl, hbr, hno⟩ := hrel
    have hbk := HBK.out.below hbr (by omega)
    have hrs := HR.out.below hbr (by omega)
    have HBR := Lib.hid hbr; have HNO := Lib.hid hno
    clear hbr hno
    by_cases hlt : k < N
    · have hlti : (k : Int) < (N : Int) := by omega
      have hk6 : (k : Int) < 6 := by omega
      have hk0 : (0 : Int) ≤ (k : Int) := by omega
      obtain ⟨⟨a, b⟩, hm⟩ : ∃ m, ms[k]? = some m := ⟨ms[k]'(by rw [← HN.out]; exact hlt), List.getElem?_eq_getElem _⟩
      have hma : (arrOf ms)[k]? = some (a, b) := by rw [arrOf_in (by rw [← HN.out]; exact hlt)]; exact hm
      obtain ⟨a0, a1, a2, a3, a4, a5, b0, b1, b2, b3, b4, b5⟩ := let_cells hbk hma
      have hu' := HU.out.below HBR.out
      have u0 := hu'.c0; have u1 := hu'.c1; have u2 := hu'.c2; have u3 := hu'.c3; have u4 := hu'.c4; have u5 := hu'.c5
      simp only [Nat.zero_add] at u1 u2 u3 u4 u5
      have hmem : (a, b) ∈ ms := List.mem_of_getElem? hm
      have hain : a.In wr := by
        have := (HBX.out.2.2 _ hmem).1.1
        exact (this.below HB.out).below HBR.out
      have hbin : b.In wr := by
        have := (HBX.out.2.2 _ hmem).2.1
        exact (this.below HB.out).below HBR.out
      have HS := Lib.hid (same_any a u wr.drew hain.drew hu'.in.drew (HK.out _ hmem))
      unfold Val.agg at HS
      have hs0 : wr.drew.cell? ⟨g, k * 12, none⟩ = some (.int .i64 a.k) ∧ wr.drew.cell? ⟨g, k * 12 + 1, none⟩ = some (.int .i64 a.n) ∧ wr.drew.cell? ⟨g, k * 12 + 2, none⟩ = some (.float .f64 a.f) ∧ wr.drew.cell? ⟨g, k * 12 + 3, none⟩ = some (.string a.s) ∧ wr.drew.cell? ⟨g, k * 12 + 4, none⟩ = some (a.na.val a.ns.length) ∧ wr.drew.cell? ⟨g, k * 12 + 5, none⟩ = some (a.xa.val a.xs.length) ∧ wr.drew.cell? ⟨B, 0, none⟩ = some (.int .i64 u.k) ∧ wr.drew.cell? ⟨B, 1, none⟩ = some (.int .i64 u.n) ∧ wr.drew.cell? ⟨B, 2, none⟩ = some (.float .f64 u.f) ∧ wr.drew.cell? ⟨B, 3, none⟩ = some (.string u.s) ∧ wr.drew.cell? ⟨B, 4, none⟩ = some (u.na.val u.ns.length) ∧ wr.drew.cell? ⟨B, 5, none⟩ = some (u.xa.val u.xs.length) := ⟨a0, a1, a2, a3, a4, a5, u0, u1, u2, u3, u4, u5⟩
      have HS0 := Lib.hid hs0
      have HBI := Lib.hid hbin; have HM := Lib.hid hm; have HMA := Lib.hid hma
      have HB6 := Lib.hid (And.intro b0 (And.intro b1 (And.intro b2 (And.intro b3 (And.intro b4 b5)))))
      have HU' := Lib.hid hu'; have HBKR := Lib.hid hbk; have HRS := Lib.hid hrs
      clear a0 a1 a2 a3 a4 a5 b0 b1 b2 b3 b4 b5 u0 u1 u2 u3 u4 u5 hs0 hain hbin hm hma hmem hu' hbk hrs
      cases hsm : a.same u
      all_goals
        rw [hsm] at HS
        have HSM := Lib.hid hsm
        clear hsm
        go_wp2_with fail
        go_region_held3 (fun W => W.cell? ⟨g, k * 12, none⟩ = some (.int .i64 a.k) ∧ W.cell? ⟨g, k * 12 + 1, none⟩ = some (.int .i64 a.n) ∧ W.cell? ⟨g, k * 12 + 2, none⟩ = some (.float .f64 a.f) ∧ W.cell? ⟨g, k * 12 + 3, none⟩ = some (.string a.s) ∧ W.cell? ⟨g, k * 12 + 4, none⟩ = some (a.na.val a.ns.length) ∧ W.cell? ⟨g, k * 12 + 5, none⟩ = some (a.xa.val a.xs.length) ∧ W.cell? ⟨B, 0, none⟩ = some (.int .i64 u.k) ∧ W.cell? ⟨B, 1, none⟩ = some (.int .i64 u.n) ∧ W.cell? ⟨B, 2, none⟩ = some (.float .f64 u.f) ∧ W.cell? ⟨B, 3, none⟩ = some (.string u.s) ∧ W.cell? ⟨B, 4, none⟩ = some (u.na.val u.ns.length) ∧ W.cell? ⟨B, 5, none⟩ = some (u.xa.val u.xs.length)) (first | with_reducible exact HS0.out | with_reducible exact HS1.out | fail)
          (first
            | (go_at_call 67; refine HS.out.mono ?_; rintro e w1 ⟨rfl, hl⟩;
               have HL := Lib.hid ((Below.refl wr.heap.size wr).drew.trans hl);
               have HS1 : Hid (w1.cell? ⟨g, k * 12, none⟩ = some (.int .i64 a.k) ∧ w1.cell? ⟨g, k * 12 + 1, none⟩ = some (.int .i64 a.n) ∧ w1.cell? ⟨g, k * 12 + 2, none⟩ = some (.float .f64 a.f) ∧ w1.cell? ⟨g, k * 12 + 3, none⟩ = some (.string a.s) ∧ w1.cell? ⟨g, k * 12 + 4, none⟩ = some (a.na.val a.ns.length) ∧ w1.cell? ⟨g, k * 12 + 5, none⟩ = some (a.xa.val a.xs.length) ∧ w1.cell? ⟨B, 0, none⟩ = some (.int .i64 u.k) ∧ w1.cell? ⟨B, 1, none⟩ = some (.int .i64 u.n) ∧ w1.cell? ⟨B, 2, none⟩ = some (.float .f64 u.f) ∧ w1.cell? ⟨B, 3, none⟩ = some (.string u.s) ∧ w1.cell? ⟨B, 4, none⟩ = some (u.na.val u.ns.length) ∧ w1.cell? ⟨B, 5, none⟩ = some (u.xa.val u.xs.length)) := Lib.hid (by obtain ⟨c0, c1, c2, c3, c4, c5, d0, d1, d2, d3, d4, d5⟩ := HS0.out; have hgr : g < wr.drew.heap.size := Nat.lt_of_lt_of_le (by omega) HBR.out.size; have hBr : B < wr.drew.heap.size := Nat.lt_of_lt_of_le (by omega) HBR.out.size; exact ⟨(hl.cell (p := ⟨g, _, none⟩) hgr).trans c0, (hl.cell (p := ⟨g, _, none⟩) hgr).trans c1, (hl.cell (p := ⟨g, _, none⟩) hgr).trans c2, (hl.cell (p := ⟨g, _, none⟩) hgr).trans c3, (hl.cell (p := ⟨g, _, none⟩) hgr).trans c4, (hl.cell (p := ⟨g, _, none⟩) hgr).trans c5, (hl.cell (p := ⟨B, _, none⟩) hBr).trans d0, (hl.cell (p := ⟨B, _, none⟩) hBr).trans d1, (hl.cell (p := ⟨B, _, none⟩) hBr).trans d2, (hl.cell (p := ⟨B, _, none⟩) hBr).trans d3, (hl.cell (p := ⟨B, _, none⟩) hBr).trans d4, (hl.cell (p := ⟨B, _, none⟩) hBr).trans d5⟩);
               clear hl))
      · clear HS HS0 HS1
        go_wp2
        go_roundw
        case rel => exact ⟨k + 1, by omega, by go_num, HBR.out.trans (HL.out.mono HBR.out.size), HNO.out.next HM.out HSM.out⟩
        case measure => simp [intOf]; omega
      · clear HS HS0 HS1
        obtain ⟨pc, qc, kc⟩ := HBI.out.nslice; obtain ⟨pd, qd, kd⟩ := HBI.out.xslice
        have hbo := HB.out; have hbro := HBR.out
        have hgr : g < wr.heap.size := Nat.lt_of_lt_of_le (by omega) HBR.out.size
        have hBr : B + 1 < wr.heap.size := Nat.lt_of_lt_of_le (by omega) HBR.out.size
        obtain ⟨b0, b1, b2, b3, b4, b5⟩ := HB6.out
        rw [← HL.out.cell (p := ⟨g, _, none⟩) hgr] at b0 b1 b2 b3 b4 b5
        rw [kc] at b4; rw [kd] at b5
        have hrs1 := HRS.out.below HL.out hBr
        have hbk1 := HBKR.out.below HL.out hgr
        obtain ⟨⟨x0, hx0⟩, f0, ⟨x1, hx1⟩, f1, ⟨x2, hx2⟩, f2, ⟨x3, hx3⟩, f3, ⟨x4, hx4⟩, f4, ⟨x5, hx5⟩, f5⟩ := six (g := B + 1) hrs1 (by simp) (.int .i64 b.k) (.int .i64 b.n) (.float .f64 b.f) (.string b.s) (.slice pc b.ns.length qc) (.slice pd b.xs.length qd)
        obtain ⟨hr6, ho6⟩ := stored6 hrs1 (.int .i64 b.k) (.int .i64 b.n) (.float .f64 b.f) (.string b.s) (.slice pc b.ns.length qc) (.slice pd b.xs.length qd)
        have hbk6 := Blk.grown hbk1 ho6 (by intro e; injection e with e; omega)
        have c72 : ((((((w1.setCell ⟨B + 1, 0, none⟩ (.int .i64 b.k)).setCell ⟨B + 1, 1, none⟩ (.int .i64 b.n)).setCell ⟨B + 1, 2, none⟩ (.float .f64 b.f)).setCell ⟨B + 1, 3, none⟩ (.string b.s)).setCell ⟨B + 1, 4, none⟩ (.slice pc b.ns.length qc)).setCell ⟨B + 1, 5, none⟩ (.slice pd b.xs.length qd)).cell? ⟨g, 72, none⟩ = some (.int .i64 N) := by rw [hbk6.cell 72, HN.out]; simpa using boxC_last (n := (ms.length : Int)) (arrOf_len HBX.out.2.1)
        have f72 := hbk6.frozen 72
        obtain ⟨n, hn⟩ : ∃ n, N = n + 1 := ⟨N - 1, by omega⟩
        have en : (N : Int) - 1 = (n : Int) := by omega
        have hX : Blk (((((((w1.setCell ⟨B + 1, 0, none⟩ (.int .i64 b.k)).setCell ⟨B + 1, 1, none⟩ (.int .i64 b.n)).setCell ⟨B + 1, 2, none⟩ (.float .f64 b.f)).setCell ⟨B + 1, 3, none⟩ (.string b.s)).setCell ⟨B + 1, 4, none⟩ (.slice pc b.ns.length qc)).setCell ⟨B + 1, 5, none⟩ (.slice pd b.xs.length qd)).setCell ⟨g, 72, none⟩ (.int .i64 n)) g 107 (boxC (arrOf ms) n).toArray ∧ Blk (((((((w1.setCell ⟨B + 1, 0, none⟩ (.int .i64 b.k)).setCell ⟨B + 1, 1, none⟩ (.int .i64 b.n)).setCell ⟨B + 1, 2, none⟩ (.float .f64 b.f)).setCell ⟨B + 1, 3, none⟩ (.string b.s)).setCell ⟨B + 1, 4, none⟩ (.slice pc b.ns.length qc)).setCell ⟨B + 1, 5, none⟩ (.slice pd b.xs.length qd)).setCell ⟨g, 72, none⟩ (.int .i64 n)) (B + 1) 46 [.int .i64 b.k, .int .i64 b.n, .float .f64 b.f, .string b.s, .slice pc b.ns.length qc, .slice pd b.xs.length qd].toArray ∧ Only w (((((((w1.setCell ⟨B + 1, 0, none⟩ (.int .i64 b.k)).setCell ⟨B + 1, 1, none⟩ (.int .i64 b.n)).setCell ⟨B + 1, 2, none⟩ (.float .f64 b.f)).setCell ⟨B + 1, 3, none⟩ (.string b.s)).setCell ⟨B + 1, 4, none⟩ (.slice pc b.ns.length qc)).setCell ⟨B + 1, 5, none⟩ (.slice pd b.xs.length qd)).setCell ⟨g, 72, none⟩ (.int .i64 n)) g := by
          refine ⟨?_, hr6.far (p := ⟨g, 72, none⟩) (by simp; omega) _, ?_⟩
          · have := hbk6.setl (i := 72) (.int .i64 n)
            rwa [boxC_n (arrOf_len HBX.out.2.1)] at this
          · have o1 : Only w w1 g := Only.of_below (HB.out.trans ((HBR.out.trans (HL.out.mono HBR.out.size)).mono HB.out.size)) g
            have hz : w.heap.size ≤ B + 1 := by rw [HBB.out]; omega
            exact ((((((o1.set_ (.inr hz) _).set_ (.inr hz) _).set_ (.inr hz) _).set_ (.inr hz) _).set_ (.inr hz) _).set_ (.inr hz) _).set_ (.inl rfl) _
        have HX := Lib.hid hX; have HN1 := Lib.hid hn; have EN := Lib.hid en
        have KC := Lib.hid kc; have KD := Lib.hid kd
        have hNn : (n : Int) < (N : Int) := by omega
        have hn6 : (n : Int) < 6 := by omega
        have hn0 : (0 : Int) ≤ (n : Int) := by omega
        have hNle : (N : Int) ≤ 6 := by omega
        clear hX hn en kc kd hrs1 hbk1 hbk6 hr6 ho6 hbo hbro HL
        go_wp2_with fail
        rw [EN.out]
        clear hx0 f0 hx1 f1 hx2 f2 hx3 f3 hx4 f4 hx5 f5 c72 f72 b0 b1 b2 b3 b4 b5
        have hX := HX.out
        clear HX
        generalize (((((((w1.setCell ⟨B + 1, 0, none⟩ (.int .i64 b.k)).setCell ⟨B + 1, 1, none⟩ (.int .i64 b.n)).setCell ⟨B + 1, 2, none⟩ (.float .f64 b.f)).setCell ⟨B + 1, 3, none⟩ (.string b.s)).setCell ⟨B + 1, 4, none⟩ (.slice pc b.ns.length qc)).setCell ⟨B + 1, 5, none⟩ (.slice pd b.xs.length qd)).setCell ⟨g, 72, none⟩ (.int .i64 n)) = w8 at hX ⊢
        obtain ⟨hbk8, hrs8, ho8⟩ := hX
        have HG8 := Lib.hid hbk8; have HR8 := Lib.hid hrs8; have HO8 := Lib.hid ho8
        clear hbk8 hrs8 ho8 HBK HR HBKR HRS HB6 HBR
        have hkn : k ≤ n := by have := HN1.out; omega
        go_loopw [7] (fun jv wr => ∃ j : Nat, k ≤ j ∧ j ≤ n ∧ jv = .int .i64 j ∧ Blk wr g 107 (boxC (shifted (arrOf ms) k j) n).toArray ∧ Blk wr (B + 1) 46 [.int .i64 b.k, .int .i64 b.n, .float .f64 b.f, .string b.s, .slice pc b.ns.length qc, .slice pd b.xs.length qd].toArray ∧ Only w wr g) (fun jv _ => n - (intOf jv).toNat)
        case atStart => exact ⟨k, by omega, by omega, rfl, by rw [shifted_start (arrOf_len HBX.out.2.1)]; exact HG8.out, HR8.out, HO8.out⟩
        case round =>
          clear HG8 HR8 HO8
          obtain ⟨j, hkj, hjn, rfl, hbj, hrj, hoj⟩ := hrel
          have hlj := boxC_len (n := (n : Int)) (shifted_len (arrOf ms) k j)
          have c72 : wr.cell? ⟨g, 72, none⟩ = some (.int .i64 n) := by rw [hbj.cell 72]; simpa using boxC_last (n := (n : Int)) (shifted_len (arrOf ms) k j)
          have hj0 : (0 : Int) ≤ (j : Int) := by omega
          have HOJ := Lib.hid hoj
          clear hoj
          by_cases hjl : j < n
          · have hjl' : (j : Int) < (n : Int) := by omega
            have hj6 : (j : Int) + 1 < 6 := by omega
            have e1 : IntKind.i64.wrap ((j : Int) + 1) = (j : Int) + 1 := IntWalk.i64_in _ (by omega)
            have e2 : ((j : Int) + 1).toNat = j + 1 := by omega
            have e3 : (0 : Int) ≤ (j : Int) + 1 := by omega
            have hn6' : n < 6 := by omega
            obtain ⟨⟨c, d⟩, hcd⟩ : ∃ m, (shifted (arrOf ms) k j)[j + 1]? = some m := ⟨_, List.getElem?_eq_getElem (by rw [shifted_len]; omega)⟩
            obtain ⟨⟨⟨pe, qe, ke⟩, pf, qf, kf⟩, ⟨pg, qg, kg⟩, ph, qh, kh⟩ := arr_slok HBX.out hcd
            obtain ⟨a0, a1, a2, a3, a4, a5, b0, b1, b2, b3, b4, b5⟩ := let_cells hbj hcd
            rw [ke] at a4; rw [kf] at a5; rw [kg] at b4; rw [kh] at b5
            obtain ⟨⟨x0, hx0⟩, f0, ⟨x1, hx1⟩, f1, ⟨x2, hx2⟩, f2, ⟨x3, hx3⟩, f3, ⟨x4, hx4⟩, f4, ⟨x5, hx5⟩, f5, ⟨x6, hx6⟩, f6, ⟨x7, hx7⟩, f7, ⟨x8, hx8⟩, f8, ⟨x9, hx9⟩, f9, ⟨x10, hx10⟩, f10, ⟨x11, hx11⟩, f11⟩ := base12 hbj (o := j * 12) (by omega)
            have hX := stored12 (o := j * 12) hbj (.int .i64 c.k) (.int .i64 c.n) (.float .f64 c.f) (.string c.s) (.slice pe c.ns.length qe) (.slice pf c.xs.length qf) (.int .i64 d.k) (.int .i64 d.n) (.float .f64 d.f) (.string d.s) (.slice pg d.ns.length qg) (.slice ph d.xs.length qh)
            have ec : [.int .i64 c.k, .int .i64 c.n, .float .f64 c.f, .string c.s, .slice pe c.ns.length qe, .slice pf c.xs.length qf, .int .i64 d.k, .int .i64 d.n, .float .f64 d.f, .string d.s, .slice pg d.ns.length qg, .slice ph d.xs.length qh] = letC (c, d) := by
              unfold letC Val.cells; rw [ke, kf, kg, kh]; rfl
            have hm1 : setFrom (boxC (shifted (arrOf ms) k j) n) (j * 12) (letC (c, d)) = boxC (shifted (arrOf ms) k (j + 1)) n := by
              rw [boxC_set (shifted_len _ _ _) (by omega), shifted_step hkj (by omega) hcd]
            rw [ec, hm1] at hX
            have hR' := Blk.grown hrj hX.2 (by intro e; injection e with e; omega)
            have HX := Lib.hid (And.intro hX.1.drew (And.intro hR'.drew (HOJ.out.trans hX.2).drew))
            clear hX ec hm1 hR' ke kf kg kh hcd hbj hrj HOJ hlj
            go_wp2_with fail
            go_region
            clear hx0 f0 hx1 f1 hx2 f2 hx3 f3 hx4 f4 hx5 f5 hx6 f6 hx7 f7 hx8 f8 hx9 f9 hx10 f10 hx11 f11 a0 a1 a2 a3 a4 a5 b0 b1 b2 b3 b4 b5 c72 e1 e2 e3
            have hX := HX.out
            clear HX
            generalize (((((((((((((wr.setCell ⟨g, j * 12, none⟩ (.int .i64 c.k)).setCell ⟨g, j * 12 + 1, none⟩ (.int .i64 c.n)).setCell ⟨g, j * 12 + 2, none⟩ (.float .f64 c.f)).setCell ⟨g, j * 12 + 3, none⟩ (.string c.s)).setCell ⟨g, j * 12 + 4, none⟩ (.slice pe c.ns.length qe)).setCell ⟨g, j * 12 + 5, none⟩ (.slice pf c.xs.length qf)).setCell ⟨g, j * 12 + 6, none⟩ (.int .i64 d.k)).setCell ⟨g, j * 12 + 7, none⟩ (.int .i64 d.n)).setCell ⟨g, j * 12 + 8, none⟩ (.float .f64 d.f)).setCell ⟨g, j * 12 + 9, none⟩ (.string d.s)).setCell ⟨g, j * 12 + 10, none⟩ (.slice pg d.ns.length qg)).setCell ⟨g, j * 12 + 11, none⟩ (.slice ph d.xs.length qh)).drew) = w12 at hX ⊢
            have HX := Lib.hid hX
            clear hX
            go_wp2
            go_roundw
            case rel => exact ⟨j + 1, by omega, by omega, by go_num, HX.out⟩
            case measure => simp [intOf]; omega
          · obtain rfl : j = n := by omega
            have hjl' : decide ((j : Int) < (j : Int)) = false := by simp
            obtain ⟨⟨x0, hx0⟩, f0, ⟨x1, hx1⟩, f1, ⟨x2, hx2⟩, f2, ⟨x3, hx3⟩, f3, ⟨x4, hx4⟩, f4, ⟨x5, hx5⟩, f5, ⟨x6, hx6⟩, f6, ⟨x7, hx7⟩, f7, ⟨x8, hx8⟩, f8, ⟨x9, hx9⟩, f9, ⟨x10, hx10⟩, f10, ⟨x11, hx11⟩, f11⟩ := base12 hbj (o := j * 12) (by omega)
            have hX := stored12 (o := j * 12) hbj (.int .i64 0) (.int .i64 0) (.float .f64 0) (.string ⟨#[]⟩) (.slice none 0 0) (.slice none 0 0) (.int .i64 0) (.int .i64 0) (.float .f64 0) (.string ⟨#[]⟩) (.slice none 0 0) (.slice none 0 0)
            have hm1 : setFrom (boxC (shifted (arrOf ms) k j) j) (j * 12) (letC zLet) = boxC ((shifted (arrOf ms) k j).set j zLet) j := boxC_set (shifted_len _ _ _) (by omega) zLet
            have hm2 : [.int .i64 0, .int .i64 0, .float .f64 0, .string ⟨#[]⟩, .slice none 0 0, .slice none 0 0, .int .i64 0, .int .i64 0, .float .f64 0, .string ⟨#[]⟩, .slice none 0 0, .slice none 0 0] = letC zLet := rfl
            rw [hm2, hm1] at hX
            have hR' := Blk.grown hrj hX.2 (by intro e; injection e with e; omega)
            have HX := Lib.hid (And.intro hX.1.drew (And.intro hR'.drew (HOJ.out.trans hX.2).drew))
            clear hX hm1 hm2 hR' hbj hrj HOJ hlj
            go_wp2_with fail
            go_region
            clear hx0 f0 hx1 f1 hx2 f2 hx3 f3 hx4 f4 hx5 f5 hx6 f6 hx7 f7 hx8 f8 hx9 f9 hx10 f10 hx11 f11 c72 hjl'
            have hX := HX.out
            clear HX
            generalize (((((((((((((wr.setCell ⟨g, j * 12, none⟩ (.int .i64 0)).setCell ⟨g, j * 12 + 1, none⟩ (.int .i64 0)).setCell ⟨g, j * 12 + 2, none⟩ (.float .f64 0)).setCell ⟨g, j * 12 + 3, none⟩ (.string ⟨#[]⟩)).setCell ⟨g, j * 12 + 4, none⟩ (.slice none 0 0)).setCell ⟨g, j * 12 + 5, none⟩ (.slice none 0 0)).setCell ⟨g, j * 12 + 6, none⟩ (.int .i64 0)).setCell ⟨g, j * 12 + 7, none⟩ (.int .i64 0)).setCell ⟨g, j * 12 + 8, none⟩ (.float .f64 0)).setCell ⟨g, j * 12 + 9, none⟩ (.string ⟨#[]⟩)).setCell ⟨g, j * 12 + 10, none⟩ (.slice none 0 0)).setCell ⟨g, j * 12 + 11, none⟩ (.slice none 0 0)).drew) = w13 at hX ⊢
            obtain ⟨hb13, hr13, ho13⟩ := hX
            have d0 := hr13.cell 0; have d1 := hr13.cell 1; have d2 := hr13.cell 2; have d3 := hr13.cell 3; have d4 := hr13.cell 4; have d5 := hr13.cell 5
            simp at d0 d1 d2 d3 d4 d5
            obtain ⟨⟨x0, hx0⟩, f0, ⟨x1, hx1⟩, f1, ⟨x2, hx2⟩, f2, ⟨x3, hx3⟩, f3, ⟨x4, hx4⟩, f4, ⟨x5, hx5⟩, f5⟩ := six (g := B + 1) hr13 (by simp) (.int .i64 b.k) (.int .i64 b.n) (.float .f64 b.f) (.string b.s) (.slice pc b.ns.length qc) (.slice pd b.xs.length qd)
            obtain ⟨hr14, ho14⟩ := stored6 hr13 (.int .i64 b.k) (.int .i64 b.n) (.float .f64 b.f) (.string b.s) (.slice pc b.ns.length qc) (.slice pd b.xs.length qd)
            have hb14 := Blk.grown hb13 ho14 (by intro e; injection e with e; omega)
            have HX := Lib.hid (And.intro hb14 (And.intro hr14 (show Only w ((((((w13.setCell ⟨B + 1, 0, none⟩ (.int .i64 b.k)).setCell ⟨B + 1, 1, none⟩ (.int .i64 b.n)).setCell ⟨B + 1, 2, none⟩ (.float .f64 b.f)).setCell ⟨B + 1, 3, none⟩ (.string b.s)).setCell ⟨B + 1, 4, none⟩ (.slice pc b.ns.length qc)).setCell ⟨B + 1, 5, none⟩ (.slice pd b.xs.length qd)) g from ((((((ho13.set_ (.inr (by rw [HBB.out]; simp)) _).set_ (.inr (by rw [HBB.out]; simp)) _).set_ (.inr (by rw [HBB.out]; simp)) _).set_ (.inr (by rw [HBB.out]; simp)) _).set_ (.inr (by rw [HBB.out]; simp)) _).set_ (.inr (by rw [HBB.out]; simp)) _))))
            clear hb13 hr13 ho13 hr14 ho14 hb14
            go_wp2_with fail
            have hX := HX.out
            have r0 := hX.2.1.cell 0; have r1 := hX.2.1.cell 1; have r2 := hX.2.1.cell 2; have r3 := hX.2.1.cell 3; have r4 := hX.2.1.cell 4; have r5 := hX.2.1.cell 5
            simp only [List.getElem?_toArray, List.getElem?_cons_zero, List.getElem?_cons_succ] at r0 r1 r2 r3 r4 r5
            clear hx0 f0 hx1 f1 hx2 f2 hx3 f3 hx4 f4 hx5 f5 d0 d1 d2 d3 d4 d5 HX
            generalize ((((((w13.setCell ⟨B + 1, 0, none⟩ (.int .i64 b.k)).setCell ⟨B + 1, 1, none⟩ (.int .i64 b.n)).setCell ⟨B + 1, 2, none⟩ (.float .f64 b.f)).setCell ⟨B + 1, 3, none⟩ (.string b.s)).setCell ⟨B + 1, 4, none⟩ (.slice pc b.ns.length qc)).setCell ⟨B + 1, 5, none⟩ (.slice pd b.xs.length qd)) = w14 at hX r0 r1 r2 r3 r4 r5 ⊢
            refine bodyPost_ret (v := .tuple #[.agg #[.int .i64 b.k, .int .i64 b.n, .float .f64 b.f, .string b.s, .slice pc b.ns.length qc, .slice pd b.xs.length qd], .bool true]) (by simp [results, Try.results27, go_sem, r0, r1, r2, r3, r4, r5]) rfl ?_
            have he := take_end HBX.out HM.out HNO.out HSM.out (by rw [← HN.out, HN1.out]) hX.1 hX.2.2
            unfold Val.agg at he
            rw [KC.out, KD.out] at he
            exact he
    · obtain rfl : k = N := by omega
      have hX := stored6 hrs (.int .i64 0) (.int .i64 0) (.float .f64 0) (.string ⟨#[]⟩) (.slice none 0 0) (.slice none 0 0)
      obtain ⟨⟨x0, hx0⟩, f0, ⟨x1, hx1⟩, f1, ⟨x2, hx2⟩, f2, ⟨x3, hx3⟩, f3, ⟨x4, hx4⟩, f4, ⟨x5, hx5⟩, f5⟩ := six (g := B + 1) hrs (by simp) (.int .i64 0) (.int .i64 0) (.float .f64 0) (.string ⟨#[]⟩) (.slice none 0 0) (.slice none 0 0)
      have HX := Lib.hid hX
      clear hX hrs hbk
      go_wp2_with fail
      have hX := HX.out
      have r0 := hX.1.cell 0; have r1 := hX.1.cell 1; have r2 := hX.1.cell 2; have r3 := hX.1.cell 3; have r4 := hX.1.cell 4; have r5 := hX.1.cell 5
      simp only [List.getElem?_toArray, List.getElem?_cons_zero, List.getElem?_cons_succ] at r0 r1 r2 r3 r4 r5
      clear hx0 f0 hx1 f1 hx2 f2 hx3 f3 hx4 f4 hx5 f5 HX
      generalize ((((((wr.setCell ⟨B + 1, 0, none⟩ (.int .i64 0)).setCell ⟨B + 1, 1, none⟩ (.int .i64 0)).setCell ⟨B + 1, 2, none⟩ (.float .f64 0)).setCell ⟨B + 1, 3, none⟩ (.string ⟨#[]⟩)).setCell ⟨B + 1, 4, none⟩ (.slice none 0 0)).setCell ⟨B + 1, 5, none⟩ (.slice none 0 0)) = w14 at hX r0 r1 r2 r3 r4 r5 ⊢
      refine bodyPost_ret (v := .tuple #[.agg #[.int .i64 0, .int .i64 0, .float .f64 0, .string ⟨#[]⟩, .slice none 0 0, .slice none 0 0], .bool false]) (by simp [results, Try.results27, go_sem, r0, r1, r2, r3, r4, r5]) rfl ?_
      have hno := HNO.out
      rw [HN.out] at hno
      have hbw := HB.out.trans (HBR.out.mono HB.out.size)
      exact .inl ⟨hno.all, rfl, hbw.trans (hX.2.below (by rw [HBB.out]; omega) hbw.size)⟩
end Go.Proofs.Ytemhinagajfemaa
