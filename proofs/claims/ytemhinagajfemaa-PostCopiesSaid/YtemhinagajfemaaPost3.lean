/- A message is put into a box: the walk. -/
import Derived.Test.YtemhinagajfemaaPost2b
namespace Go.Proofs.Ytemhinagajfemaa
set_option linter.unusedVariables false
open Go.RowKit

set_option maxHeartbeats 4000000 in
set_option maxRecDepth 100000 in
theorem put_arg (v u : Val) (g : Nat) (w : World) (hv : v.In w) (hu : u.In w) (hr : v.RightB = false ∨ u.RightB = false) :
    Calls Try.prog 26 #[.pointer (some ⟨g, 0, none⟩), v.agg, u.agg] w fun e w' => IntBelow 2 w e w' := by
  obtain ⟨W, hW⟩ : ∃ W, W = (w.alloc (.cells #[.int .i64 v.k, .int .i64 v.n, .float .f64 v.f, .string v.s, v.na.val v.ns.length, v.xa.val v.xs.length] 46)).alloc (.cells #[.int .i64 u.k, .int .i64 u.n, .float .f64 u.f, .string u.s, u.na.val u.ns.length, u.xa.val u.xs.length] 46) := ⟨_, rfl⟩
  have hbW : Below w.heap.size w W := by rw [hW]; exact ((Below.refl _ _).alloc (Nat.le_refl _) _).alloc (by simp) _
  have hpu : PVal W (w.heap.size + 1) 0 u := by
    rw [hW]
    have := PVal.new (w.alloc (.cells #[.int .i64 v.k, .int .i64 v.n, .float .f64 v.f, .string v.s, v.na.val v.ns.length, v.xa.val v.xs.length] 46)) u 46 (hu.below ((Below.refl _ _).alloc (Nat.le_refl _) _))
    rw [show (w.alloc (.cells #[.int .i64 v.k, .int .i64 v.n, .float .f64 v.f, .string v.s, v.na.val v.ns.length, v.xa.val v.xs.length] 46)).heap.size = w.heap.size + 1 from by simp] at this
    exact this
  have h1 := rightf_any v W (hv.below hbW)
  have HU := Lib.hid hpu
  have hnp : ∀ (W : World) (a : Addr), (binOp .eql 49 (.pointer (some a)) (.pointer none)).run Try.prog W = .ok (.bool false) W := fun _ _ => rfl
  have HW := Lib.hid hW; have HB := Lib.hid hbW
  clear hW hbW hpu
  cases hrv : v.RightB with
  | false =>
    rw [hrv] at h1
    have H1 := Lib.hid h1
    clear h1 hrv hr hv hu
    unfold Val.agg
    go_enter Try.func26, Try.ntmps26
    go_wp2_with fail
    rw [← HW.out]
    refine H1.out.mono ?_
    rintro e w2 ⟨rfl, hl⟩
    have HL := Lib.hid (HB.out.trans (hl.mono HB.out.size))
    clear hl
    go_wp2
    go_ret
    exact ⟨rfl, HL.out⟩
  | true =>
    have hru : u.RightB = false := by rcases hr with h | h; rw [h] at hrv; cases hrv; exact h
    rw [hrv] at h1
    have H1 := Lib.hid h1; have HRU := Lib.hid hru
    clear h1 hrv hr hv hu hru
    unfold Val.agg
    go_enter Try.func26, Try.ntmps26
    go_wp2_with fail
    rw [← HW.out]
    refine H1.out.mono ?_
    rintro e w2 ⟨rfl, hl⟩
    have hp2 := HU.out.below (hl.mono (Nat.le_refl _))
    have h2 := rightf_any u w2 hp2.in
    rw [HRU.out] at h2
    have d0 := hp2.c0; have d1 := hp2.c1; have d2 := hp2.c2; have d3 := hp2.c3; have d4 := hp2.c4; have d5 := hp2.c5
    simp only [Nat.zero_add] at d1 d2 d3 d4 d5
    have H2 := Lib.hid h2
    have HL := Lib.hid (HB.out.trans (hl.mono HB.out.size))
    clear hl h2 hp2
    go_wp2_with fail
    refine H2.out.mono ?_
    rintro e w3 ⟨rfl, hl⟩
    have HL3 := Lib.hid (HL.out.trans (hl.mono HL.out.size))
    clear hl
    go_wp2
    go_ret
    exact ⟨rfl, HL3.out⟩

theorem box_any {w : World} {g j : Nat} {ms : List (Val × Val)} (h : Blk w g 107 (boxCells ms).toArray) (hl : ms.length ≤ 6) (hj : j < 73) : ∃ x, w.cell? ⟨g, j, none⟩ = some x := by
  rw [h.cell j]
  have hz := boxCells_length hl
  exact ⟨(boxCells ms)[j]'(by omega), by simp [hz, hj]⟩
theorem take_set {l us vs : List Value} {o : Nat} (h : o + 12 ≤ l.length) (hu : us = vs ∧ vs.length = 12) : l.toArray.toList.take o ++ us ++ l.toArray.toList.drop (o + 12) = setFrom l o vs := by
  obtain ⟨rfl, hv⟩ := hu
  apply List.ext_getElem?
  intro t
  rw [setFrom_get _ _ _ _ (by omega), hv]
  show ((l.take o ++ us) ++ l.drop (o + 12))[t]? = _
  by_cases h1 : t < o
  · rw [if_neg (by omega), List.append_assoc, List.getElem?_append_left (by simp; omega), List.getElem?_take, if_pos h1]
  · by_cases h2 : t < o + 12
    · rw [if_pos (by omega), List.getElem?_append_left (by simp; omega), List.getElem?_append_right (by simp; omega)]
      simp [Nat.min_eq_left (show o ≤ l.length by omega)]
    · rw [if_neg (by omega), List.getElem?_append_right (by simp; omega), List.getElem?_drop]
      congr 1
      simp [Nat.min_eq_left (show o ≤ l.length by omega)]; omega
theorem letter_put {W : World} {g : Nat} {ms : List (Val × Val)} {a b : Val} {pa pb pc pd : Option Addr} {qa qb qc qd : Nat} (hb : Blk W g 107 (boxCells ms).toArray) (hlt : ms.length < 6)
    (ka : a.na.val a.ns.length = .slice pa a.ns.length qa) (kb : a.xa.val a.xs.length = .slice pb a.xs.length qb) (kc : b.na.val b.ns.length = .slice pc b.ns.length qc) (kd : b.xa.val b.xs.length = .slice pd b.xs.length qd) :
    ∃ W6, (storeVar 104 ⟨g, ms.length * 12, none⟩ (.agg #[.int .i64 a.k, .int .i64 a.n, .float .f64 a.f, .string a.s, .slice pa a.ns.length qa, .slice pb a.xs.length qb, .int .i64 b.k, .int .i64 b.n, .float .f64 b.f, .string b.s, .slice pc b.ns.length qc, .slice pd b.xs.length qd])).run Try.prog W = .ok () W6 ∧
      Blk W6 g 107 (setFrom (boxCells ms) (ms.length * 12) (a.cells ++ b.cells)).toArray ∧ Only W W6 g ∧ W6.cell? ⟨g, 72, none⟩ = some (.int .i64 ms.length) := by
  have hl := boxCells_length (ms := ms) (by omega)
  have hst := store_letter (a0 := .int .i64 a.k) (a1 := .int .i64 a.n) (a2 := .float .f64 a.f) (a3 := .string a.s) (a4 := .slice pa a.ns.length qa) (a5 := .slice pb a.xs.length qb) (b0 := .int .i64 b.k) (b1 := .int .i64 b.n) (b2 := .float .f64 b.f) (b3 := .string b.s) (b4 := .slice pc b.ns.length qc) (b5 := .slice pd b.xs.length qd) (o := ms.length * 12) hb (by simp [hl]; omega)
    (fun x hx => by simp at hx; rcases hx with rfl | rfl | rfl | rfl | rfl | rfl | rfl | rfl | rfl | rfl | rfl | rfl <;> rfl)
  have hcl := take_set (l := boxCells ms) (o := ms.length * 12) (us := [.int .i64 a.k, .int .i64 a.n, .float .f64 a.f, .string a.s, .slice pa a.ns.length qa, .slice pb a.xs.length qb, .int .i64 b.k, .int .i64 b.n, .float .f64 b.f, .string b.s, .slice pc b.ns.length qc, .slice pd b.xs.length qd]) (vs := a.cells ++ b.cells) (by omega)
    ⟨by unfold Val.cells; rw [ka, kb, kc, kd]; rfl, rfl⟩
  rw [hcl] at hst
  have hb6 : Blk (W.setRow g (setFrom (boxCells ms) (ms.length * 12) (a.cells ++ b.cells)).toArray) g 107 (setFrom (boxCells ms) (ms.length * 12) (a.cells ++ b.cells)).toArray := setRow_heap W g _ _ _ _ hb
  refine ⟨_, hst, hb6, ?_, ?_⟩
  · refine ⟨rfl, rfl, rfl, by simp [World.setRow], fun i hi hne => ?_⟩
    have hne' : g ≠ i := fun e => hne (by rw [e])
    simp [World.setRow, Array.getElem?_modify, hne']
  · rw [hb6.cell 72]
    have := setFrom_get (a.cells ++ b.cells) (boxCells ms) (ms.length * 12) 72 (by show ms.length * 12 + 12 ≤ _; omega)
    rw [if_neg (by show ¬ (ms.length * 12 ≤ 72 ∧ 72 < ms.length * 12 + 12); omega), boxCells_last (by omega)] at this
    simpa using this
theorem keep12 {w5 : World} {g o p q : Nat} {v : Value} (h : w5.cell? ⟨p, q, none⟩ = some v) (hne : p ≠ g ∨ o + 12 ≤ q) (u0 u1 u2 u3 u4 u5 u6 u7 u8 u9 u10 u11 : Value) :
    ((((((((((((w5.setCell ⟨g, o, none⟩ u0).setCell ⟨g, o + 1, none⟩ u1).setCell ⟨g, o + 2, none⟩ u2).setCell ⟨g, o + 3, none⟩ u3).setCell ⟨g, o + 4, none⟩ u4).setCell ⟨g, o + 5, none⟩ u5).setCell ⟨g, o + 6, none⟩ u6).setCell ⟨g, o + 7, none⟩ u7).setCell ⟨g, o + 8, none⟩ u8).setCell ⟨g, o + 9, none⟩ u9).setCell ⟨g, o + 10, none⟩ u10).setCell ⟨g, o + 11, none⟩ u11).cell? ⟨p, q, none⟩ = some v := by
  have hn : ∀ j, j < 12 → (⟨g, o + j, none⟩ : Addr) ≠ ⟨p, q, none⟩ := fun j hj e => by injection e with e1 e2; rcases hne with h' | h' <;> omega
  rw [World.cell?_setCell_other _ _ _ _ (hn 11 (by omega)), World.cell?_setCell_other _ _ _ _ (hn 10 (by omega)), World.cell?_setCell_other _ _ _ _ (hn 9 (by omega)), World.cell?_setCell_other _ _ _ _ (hn 8 (by omega)), World.cell?_setCell_other _ _ _ _ (hn 7 (by omega)), World.cell?_setCell_other _ _ _ _ (hn 6 (by omega)),
    World.cell?_setCell_other _ _ _ _ (hn 5 (by omega)), World.cell?_setCell_other _ _ _ _ (hn 4 (by omega)), World.cell?_setCell_other _ _ _ _ (hn 3 (by omega)), World.cell?_setCell_other _ _ _ _ (hn 2 (by omega)), World.cell?_setCell_other _ _ _ _ (hn 1 (by omega)), World.cell?_setCell_other _ _ _ _ (show (⟨g, o, none⟩ : Addr) ≠ _ from hn 0 (by omega)), h]
theorem Blk.setl {w : World} {g i : Nat} {t : TypeId} {l : List Value} (h : Blk w g t l.toArray) (u : Value) : Blk (w.setCell ⟨g, i, none⟩ u) g t (l.set i u).toArray := by
  have := h.set_ i u
  simpa using this
theorem stored12 {w5 : World} {g o : Nat} {T : TypeId} {l : List Value} (hb : Blk w5 g T l.toArray) (u0 u1 u2 u3 u4 u5 u6 u7 u8 u9 u10 u11 : Value) :
    Blk ((((((((((((w5.setCell ⟨g, o, none⟩ u0).setCell ⟨g, o + 1, none⟩ u1).setCell ⟨g, o + 2, none⟩ u2).setCell ⟨g, o + 3, none⟩ u3).setCell ⟨g, o + 4, none⟩ u4).setCell ⟨g, o + 5, none⟩ u5).setCell ⟨g, o + 6, none⟩ u6).setCell ⟨g, o + 7, none⟩ u7).setCell ⟨g, o + 8, none⟩ u8).setCell ⟨g, o + 9, none⟩ u9).setCell ⟨g, o + 10, none⟩ u10).setCell ⟨g, o + 11, none⟩ u11) g T (setFrom l o [u0, u1, u2, u3, u4, u5, u6, u7, u8, u9, u10, u11]).toArray ∧ Only w5 ((((((((((((w5.setCell ⟨g, o, none⟩ u0).setCell ⟨g, o + 1, none⟩ u1).setCell ⟨g, o + 2, none⟩ u2).setCell ⟨g, o + 3, none⟩ u3).setCell ⟨g, o + 4, none⟩ u4).setCell ⟨g, o + 5, none⟩ u5).setCell ⟨g, o + 6, none⟩ u6).setCell ⟨g, o + 7, none⟩ u7).setCell ⟨g, o + 8, none⟩ u8).setCell ⟨g, o + 9, none⟩ u9).setCell ⟨g, o + 10, none⟩ u10).setCell ⟨g, o + 11, none⟩ u11) g := by
  refine ⟨?_, ?_⟩
  · exact (((((((((((((hb.setl u0).setl u1).setl u2).setl u3).setl u4).setl u5).setl u6).setl u7).setl u8).setl u9).setl u10).setl u11))
  · exact ((((((((((((Only.refl w5 g).set_ (.inl rfl) _).set_ (.inl rfl) _).set_ (.inl rfl) _).set_ (.inl rfl) _).set_ (.inl rfl) _).set_ (.inl rfl) _).set_ (.inl rfl) _).set_ (.inl rfl) _).set_ (.inl rfl) _).set_ (.inl rfl) _).set_ (.inl rfl) _).set_ (.inl rfl) _
def PutDone (g : Nat) (ms : List (Val × Val)) (v u : Val) (w : World) (e : Ending) (w' : World) : Prop :=
  (ms.length = 6 ∧ e = .returned (.int .i64 4) ∧ Below w.heap.size w w') ∨
  (ms.length < 6 ∧ ∃ a b : Val, e = .returned (.int .i64 0) ∧ BoxAt w' g (ms ++ [(a, b)]) ∧ a.erase = v.canon ∧ b.erase = u.canon ∧ Only w w' g ∧ a.Sep (fun x => w.heap.size ≤ x) ∧ b.Sep (fun x => w.heap.size ≤ x))

theorem Only.cellN {w w' : World} {g : Nat} (h : Only w w' g) : ∀ b o, b ≠ g → b < w.heap.size → w'.cell? ⟨b, o, none⟩ = w.cell? ⟨b, o, none⟩ :=
  fun b o hb hlt => World.cell?_of_block (h.block b hlt (fun e => hb (by injection e)))
theorem put_end {ms : List (Val × Val)} {v u a b : Val} {w w5 W : World} {g : Nat} (hbx : BoxAt w g ms) (hlt : ms.length < 6) (hbl : Blk W g 107 (boxCells (ms ++ [(a, b)])).toArray)
    (ha : a.In w5) (sa : a.Sep (· ≠ g)) (hb : b.In w5) (sb : b.Sep (· ≠ g)) (ea : a.erase = v.canon) (eb : b.erase = u.canon) (o5 : Only w w5 g) (o6 : Only w5 W g) (sa2 : a.Sep (fun x => w.heap.size ≤ x)) (sb2 : b.Sep (fun x => w.heap.size ≤ x)) :
    PutDone g ms v u w (.returned (.int .i64 0)) W := by
  have o := o5.trans o6
  refine .inr ⟨hlt, a, b, rfl, ⟨hbl, by simp; omega, fun m hm => ?_⟩, ea, eb, o, sa2, sb2⟩
  rcases List.mem_append.1 hm with h | h
  · obtain ⟨⟨h1, h2⟩, h3, h4⟩ := hbx.2.2 m h
    exact ⟨⟨h1.carryS h2 o.cellN o.size, h2⟩, h3.carryS h4 o.cellN o.size, h4⟩
  · simp at h
    subst h
    exact ⟨⟨ha.carryS sa o6.cellN o6.size, sa⟩, hb.carryS sb o6.cellN o6.size, sb⟩

set_option maxHeartbeats 4000000 in
set_option maxRecDepth 100000 in
theorem put_ok (v u : Val) (g : Nat) (ms : List (Val × Val)) (w : World) (hv : v.In w) (hu : u.In w) (hrv : v.RightB = true) (hru : u.RightB = true) (hbx : BoxAt w g ms) :
    Calls Try.prog 26 #[.pointer (some ⟨g, 0, none⟩), v.agg, u.agg] w fun e w' => PutDone g ms v u w e w' := by
  obtain ⟨W, hW⟩ : ∃ W, W = (w.alloc (.cells #[.int .i64 v.k, .int .i64 v.n, .float .f64 v.f, .string v.s, v.na.val v.ns.length, v.xa.val v.xs.length] 46)).alloc (.cells #[.int .i64 u.k, .int .i64 u.n, .float .f64 u.f, .string u.s, u.na.val u.ns.length, u.xa.val u.xs.length] 46) := ⟨_, rfl⟩
  have hbW : Below w.heap.size w W := by rw [hW]; exact ((Below.refl _ _).alloc (Nat.le_refl _) _).alloc (by simp) _
  have hpu : PVal W (w.heap.size + 1) 0 u := by
    rw [hW]
    have := PVal.new (w.alloc (.cells #[.int .i64 v.k, .int .i64 v.n, .float .f64 v.f, .string v.s, v.na.val v.ns.length, v.xa.val v.xs.length] 46)) u 46 (hu.below ((Below.refl _ _).alloc (Nat.le_refl _) _))
    rw [show (w.alloc (.cells #[.int .i64 v.k, .int .i64 v.n, .float .f64 v.f, .string v.s, v.na.val v.ns.length, v.xa.val v.xs.length] 46)).heap.size = w.heap.size + 1 from by simp] at this
    exact this
  have hpv : PVal W w.heap.size 0 v := by
    rw [hW]
    exact (PVal.new w v 46 hv).below ((Below.refl _ _).alloc (Nat.le_refl _) _)
  have h1 := rightf_any v W (hv.below hbW)
  rw [hrv] at h1
  have hnp : ∀ (W : World) (a : Addr), (binOp .eql 49 (.pointer (some a)) (.pointer none)).run Try.prog W = .ok (.bool false) W := fun _ _ => rfl
  have hglt := hbx.1.lt
  have HU := Lib.hid hpu; have HV := Lib.hid hpv; have HBX := Lib.hid hbx; have HRU := Lib.hid hru
  have HW := Lib.hid hW; have HB := Lib.hid hbW
  have H1 := Lib.hid h1
  clear hW hbW hpu hpv h1 hrv hru hv hu hbx
  unfold Val.agg
  go_enter Try.func26, Try.ntmps26
  go_wp2_with fail
  rw [← HW.out]
  refine H1.out.mono ?_
  rintro e w2 ⟨rfl, hl⟩
  have hp2 := HU.out.below (hl.mono (Nat.le_refl _))
  have hq2 := HV.out.below (hl.mono (Nat.le_refl _))
  have h2 := rightf_any u w2 hp2.in
  rw [HRU.out] at h2
  have d0 := hp2.c0; have d1 := hp2.c1; have d2 := hp2.c2; have d3 := hp2.c3; have d4 := hp2.c4; have d5 := hp2.c5
  simp only [Nat.zero_add] at d1 d2 d3 d4 d5
  have H2 := Lib.hid h2
  have HL := Lib.hid (HB.out.trans (hl.mono HB.out.size))
  have HU2 := Lib.hid hp2; have HV2 := Lib.hid hq2
  clear hl h2 hp2 hq2
  go_wp2_with fail
  refine H2.out.mono ?_
  rintro e w3 ⟨rfl, hl⟩
  have hp3 := HU2.out.below (hl.mono (Nat.le_refl _))
  have hq3 := HV2.out.below (hl.mono (Nat.le_refl _))
  have HL3 := Lib.hid (HL.out.trans (hl.mono HL.out.size))
  have hbk3 : Blk w3 g 107 (boxCells ms).toArray := HBX.out.1.below HL3.out hglt
  have hn3 : w3.cell? ⟨g, 72, none⟩ = some (.int .i64 ms.length) := by rw [hbk3.cell 72]; simpa using boxCells_last HBX.out.2.1
  have hle := HBX.out.2.1
  obtain ⟨N, hN⟩ : ∃ N, N = ms.length := ⟨_, rfl⟩
  rw [← hN] at hn3 hle
  have HN := Lib.hid hN
  have HU3 := Lib.hid hp3; have HV3 := Lib.hid hq3; have HBK := Lib.hid hbk3
  clear hl hp3 hq3 d0 d1 d2 d3 d4 d5 hbk3 hN
  by_cases h6 : N = 6
  · subst h6
    go_wp2
    go_ret
    exact .inl ⟨HN.out.symm, rfl, HL3.out⟩
  · have i1 : ((N : Int) == 6) = false := by simp; omega
    have hlt : N < 6 := by omega
    clear h6
    have hzs := HL3.out.size
    have d0 := HU3.out.c0; have d1 := HU3.out.c1; have d2 := HU3.out.c2; have d3 := HU3.out.c3; have d4 := HU3.out.c4; have d5 := HU3.out.c5
    have e0 := HV3.out.c0; have e1 := HV3.out.c1; have e2 := HV3.out.c2; have e3 := HV3.out.c3; have e4 := HV3.out.c4; have e5 := HV3.out.c5
    simp only [Nat.zero_add] at d1 d2 d3 d4 d5 e1 e2 e3 e4 e5
    have HC1 := Lib.hid (canon_val v.sz v w3.drew (Nat.le_refl _) HV3.out.in.drew)
    have hsf := run_store_flt
    have hN6 : (N : Int) < 6 := by omega
    have hN0 : (0 : Int) ≤ (N : Int) := by omega
    go_wp2_with fail
    have hs3 : w3.drew.cell? ⟨g, 72, none⟩ = some (.int .i64 N) ∧ (w3.drew.cell? ⟨w.heap.size, 0, none⟩ = some (.int .i64 v.k) ∧ w3.drew.cell? ⟨w.heap.size, 1, none⟩ = some (.int .i64 v.n) ∧ w3.drew.cell? ⟨w.heap.size, 2, none⟩ = some (.float .f64 v.f) ∧ w3.drew.cell? ⟨w.heap.size, 3, none⟩ = some (.string v.s) ∧ w3.drew.cell? ⟨w.heap.size, 4, none⟩ = some (v.na.val v.ns.length) ∧ w3.drew.cell? ⟨w.heap.size, 5, none⟩ = some (v.xa.val v.xs.length)) ∧ (w3.drew.cell? ⟨w.heap.size + 1, 0, none⟩ = some (.int .i64 u.k) ∧ w3.drew.cell? ⟨w.heap.size + 1, 1, none⟩ = some (.int .i64 u.n) ∧ w3.drew.cell? ⟨w.heap.size + 1, 2, none⟩ = some (.float .f64 u.f) ∧ w3.drew.cell? ⟨w.heap.size + 1, 3, none⟩ = some (.string u.s) ∧ w3.drew.cell? ⟨w.heap.size + 1, 4, none⟩ = some (u.na.val u.ns.length) ∧ w3.drew.cell? ⟨w.heap.size + 1, 5, none⟩ = some (u.xa.val u.xs.length)) := And.intro hn3 (And.intro (And.intro e0 (And.intro e1 (And.intro e2 (And.intro e3 (And.intro e4 e5))))) (And.intro d0 (And.intro d1 (And.intro d2 (And.intro d3 (And.intro d4 d5))))))
    have HS3 := Lib.hid hs3
    clear hs3
    clear e0 e1 e2 e3 e4 e5 d0 d1 d2 d3 d4 d5
    go_region_held3 (fun W => W.cell? ⟨g, 72, none⟩ = some (.int .i64 N) ∧
        (W.cell? ⟨w.heap.size, 0, none⟩ = some (.int .i64 v.k) ∧ W.cell? ⟨w.heap.size, 1, none⟩ = some (.int .i64 v.n) ∧ W.cell? ⟨w.heap.size, 2, none⟩ = some (.float .f64 v.f) ∧ W.cell? ⟨w.heap.size, 3, none⟩ = some (.string v.s) ∧ W.cell? ⟨w.heap.size, 4, none⟩ = some (v.na.val v.ns.length) ∧ W.cell? ⟨w.heap.size, 5, none⟩ = some (v.xa.val v.xs.length)) ∧
        (W.cell? ⟨w.heap.size + 1, 0, none⟩ = some (.int .i64 u.k) ∧ W.cell? ⟨w.heap.size + 1, 1, none⟩ = some (.int .i64 u.n) ∧ W.cell? ⟨w.heap.size + 1, 2, none⟩ = some (.float .f64 u.f) ∧ W.cell? ⟨w.heap.size + 1, 3, none⟩ = some (.string u.s) ∧ W.cell? ⟨w.heap.size + 1, 4, none⟩ = some (u.na.val u.ns.length) ∧ W.cell? ⟨w.heap.size + 1, 5, none⟩ = some (u.xa.val u.xs.length)))
      (first | with_reducible exact HS3.out | with_reducible exact HS4.out | with_reducible exact HS5.out | with_reducible exact HS6.out | fail)
      (first
        | (go_at_call 66; refine HC1.out.mono ?_; rintro e w4 ⟨a, rfl, hai, has, hae, hba⟩;
           have HBA := Lib.hid ((Below.refl w3.heap.size w3).drew.trans hba);
           have HU4 := Lib.hid (HU3.out.below HBA.out); have HV4 := Lib.hid (HV3.out.below HBA.out);
           have hn4 : w4.cell? ⟨g, 72, none⟩ = some (.int .i64 N) := (HBA.out.cell (p := ⟨g, 72, none⟩) (Nat.lt_of_lt_of_le hglt hzs)).trans hn3;
           have e06 := HV4.out.c0; have e16 := HV4.out.c1; have e26 := HV4.out.c2; have e36 := HV4.out.c3; have e46 := HV4.out.c4; have e56 := HV4.out.c5;
           have d06 := HU4.out.c0; have d16 := HU4.out.c1; have d26 := HU4.out.c2; have d36 := HU4.out.c3; have d46 := HU4.out.c4; have d56 := HU4.out.c5;
           simp only [Nat.zero_add] at d16 d26 d36 d46 d56 e16 e26 e36 e46 e56;
           have HS4 := Lib.hid (And.intro hn4 (And.intro (And.intro e06 (And.intro e16 (And.intro e26 (And.intro e36 (And.intro e46 e56))))) (And.intro d06 (And.intro d16 (And.intro d26 (And.intro d36 (And.intro d46 d56)))))));
           clear hn4 e06 e16 e26 e36 e46 e56 d06 d16 d26 d36 d46 d56;
           have HC2 := Lib.hid (canon_val u.sz u w4 (Nat.le_refl _) HU4.out.in);
           obtain ⟨pa, qa, ka⟩ := hai.nslice; obtain ⟨pb, qb, kb⟩ := hai.xslice;
           unfold Val.agg; rw [ka, kb]; have KA := Lib.hid ka; have KB := Lib.hid kb;
           have HAI := Lib.hid hai; have HAS := Lib.hid has; have HAE := Lib.hid hae;
           clear hai has hae hba HC1 ka kb)
        | (go_at_call 66; refine HC2.out.mono ?_; rintro e w5 ⟨b, rfl, hbi, hbs, hbe, hbb⟩;
           have HBB := Lib.hid (HBA.out.trans (hbb.mono HBA.out.size));
           obtain ⟨pc, qc, kc⟩ := hbi.nslice; obtain ⟨pd, qd, kd⟩ := hbi.xslice;
           unfold Val.agg; rw [kc, kd]; have KC := Lib.hid kc; have KD := Lib.hid kd;
           have HBI := Lib.hid hbi; have HBS := Lib.hid hbs; have HBE := Lib.hid hbe; have HBB1 := Lib.hid hbb;
           have hbk5 := HBK.out.below HBB.out (Nat.lt_of_lt_of_le hglt hzs);
           have hn4 : w5.cell? ⟨g, 72, none⟩ = some (.int .i64 N) := (HBB.out.cell (p := ⟨g, 72, none⟩) (Nat.lt_of_lt_of_le hglt hzs)).trans hn3;
           have e06 := (HV3.out.below HBB.out).c0; have e16 := (HV3.out.below HBB.out).c1; have e26 := (HV3.out.below HBB.out).c2; have e36 := (HV3.out.below HBB.out).c3; have e46 := (HV3.out.below HBB.out).c4; have e56 := (HV3.out.below HBB.out).c5;
           have d06 := (HU3.out.below HBB.out).c0; have d16 := (HU3.out.below HBB.out).c1; have d26 := (HU3.out.below HBB.out).c2; have d36 := (HU3.out.below HBB.out).c3; have d46 := (HU3.out.below HBB.out).c4; have d56 := (HU3.out.below HBB.out).c5;
           simp only [Nat.zero_add] at d16 d26 d36 d46 d56 e16 e26 e36 e46 e56;
           have HS5 := Lib.hid (And.intro hn4 (And.intro (And.intro e06 (And.intro e16 (And.intro e26 (And.intro e36 (And.intro e46 e56))))) (And.intro d06 (And.intro d16 (And.intro d26 (And.intro d36 (And.intro d46 d56)))))));
           have HS6 := Lib.hid (And.intro (keep12 (g := g) (o := N * 12) hn4 (.inr (by omega)) (.int .i64 a.k) (.int .i64 a.n) (.float .f64 a.f) (.string a.s) (.slice pa a.ns.length qa) (.slice pb a.xs.length qb) (.int .i64 b.k) (.int .i64 b.n) (.float .f64 b.f) (.string b.s) (.slice pc b.ns.length qc) (.slice pd b.xs.length qd)) (And.intro (And.intro (keep12 (g := g) (o := N * 12) e06 (.inl (by omega)) (.int .i64 a.k) (.int .i64 a.n) (.float .f64 a.f) (.string a.s) (.slice pa a.ns.length qa) (.slice pb a.xs.length qb) (.int .i64 b.k) (.int .i64 b.n) (.float .f64 b.f) (.string b.s) (.slice pc b.ns.length qc) (.slice pd b.xs.length qd)) (And.intro (keep12 (g := g) (o := N * 12) e16 (.inl (by omega)) (.int .i64 a.k) (.int .i64 a.n) (.float .f64 a.f) (.string a.s) (.slice pa a.ns.length qa) (.slice pb a.xs.length qb) (.int .i64 b.k) (.int .i64 b.n) (.float .f64 b.f) (.string b.s) (.slice pc b.ns.length qc) (.slice pd b.xs.length qd)) (And.intro (keep12 (g := g) (o := N * 12) e26 (.inl (by omega)) (.int .i64 a.k) (.int .i64 a.n) (.float .f64 a.f) (.string a.s) (.slice pa a.ns.length qa) (.slice pb a.xs.length qb) (.int .i64 b.k) (.int .i64 b.n) (.float .f64 b.f) (.string b.s) (.slice pc b.ns.length qc) (.slice pd b.xs.length qd)) (And.intro (keep12 (g := g) (o := N * 12) e36 (.inl (by omega)) (.int .i64 a.k) (.int .i64 a.n) (.float .f64 a.f) (.string a.s) (.slice pa a.ns.length qa) (.slice pb a.xs.length qb) (.int .i64 b.k) (.int .i64 b.n) (.float .f64 b.f) (.string b.s) (.slice pc b.ns.length qc) (.slice pd b.xs.length qd)) (And.intro (keep12 (g := g) (o := N * 12) e46 (.inl (by omega)) (.int .i64 a.k) (.int .i64 a.n) (.float .f64 a.f) (.string a.s) (.slice pa a.ns.length qa) (.slice pb a.xs.length qb) (.int .i64 b.k) (.int .i64 b.n) (.float .f64 b.f) (.string b.s) (.slice pc b.ns.length qc) (.slice pd b.xs.length qd)) (keep12 (g := g) (o := N * 12) e56 (.inl (by omega)) (.int .i64 a.k) (.int .i64 a.n) (.float .f64 a.f) (.string a.s) (.slice pa a.ns.length qa) (.slice pb a.xs.length qb) (.int .i64 b.k) (.int .i64 b.n) (.float .f64 b.f) (.string b.s) (.slice pc b.ns.length qc) (.slice pd b.xs.length qd))))))) (And.intro (keep12 (g := g) (o := N * 12) d06 (.inl (by omega)) (.int .i64 a.k) (.int .i64 a.n) (.float .f64 a.f) (.string a.s) (.slice pa a.ns.length qa) (.slice pb a.xs.length qb) (.int .i64 b.k) (.int .i64 b.n) (.float .f64 b.f) (.string b.s) (.slice pc b.ns.length qc) (.slice pd b.xs.length qd)) (And.intro (keep12 (g := g) (o := N * 12) d16 (.inl (by omega)) (.int .i64 a.k) (.int .i64 a.n) (.float .f64 a.f) (.string a.s) (.slice pa a.ns.length qa) (.slice pb a.xs.length qb) (.int .i64 b.k) (.int .i64 b.n) (.float .f64 b.f) (.string b.s) (.slice pc b.ns.length qc) (.slice pd b.xs.length qd)) (And.intro (keep12 (g := g) (o := N * 12) d26 (.inl (by omega)) (.int .i64 a.k) (.int .i64 a.n) (.float .f64 a.f) (.string a.s) (.slice pa a.ns.length qa) (.slice pb a.xs.length qb) (.int .i64 b.k) (.int .i64 b.n) (.float .f64 b.f) (.string b.s) (.slice pc b.ns.length qc) (.slice pd b.xs.length qd)) (And.intro (keep12 (g := g) (o := N * 12) d36 (.inl (by omega)) (.int .i64 a.k) (.int .i64 a.n) (.float .f64 a.f) (.string a.s) (.slice pa a.ns.length qa) (.slice pb a.xs.length qb) (.int .i64 b.k) (.int .i64 b.n) (.float .f64 b.f) (.string b.s) (.slice pc b.ns.length qc) (.slice pd b.xs.length qd)) (And.intro (keep12 (g := g) (o := N * 12) d46 (.inl (by omega)) (.int .i64 a.k) (.int .i64 a.n) (.float .f64 a.f) (.string a.s) (.slice pa a.ns.length qa) (.slice pb a.xs.length qb) (.int .i64 b.k) (.int .i64 b.n) (.float .f64 b.f) (.string b.s) (.slice pc b.ns.length qc) (.slice pd b.xs.length qd)) (keep12 (g := g) (o := N * 12) d56 (.inl (by omega)) (.int .i64 a.k) (.int .i64 a.n) (.float .f64 a.f) (.string a.s) (.slice pa a.ns.length qa) (.slice pb a.xs.length qb) (.int .i64 b.k) (.int .i64 b.n) (.float .f64 b.f) (.string b.s) (.slice pc b.ns.length qc) (.slice pd b.xs.length qd)))))))));
           clear hn4 e06 e16 e26 e36 e46 e56 d06 d16 d26 d36 d46 d56 HS4 HS3;
           obtain ⟨⟨x0, hx0⟩, f0, ⟨x1, hx1⟩, f1, ⟨x2, hx2⟩, f2, ⟨x3, hx3⟩, f3, ⟨x4, hx4⟩, f4, ⟨x5, hx5⟩, f5, ⟨x6, hx6⟩, f6, ⟨x7, hx7⟩, f7, ⟨x8, hx8⟩, f8, ⟨x9, hx9⟩, f9, ⟨x10, hx10⟩, f10, ⟨x11, hx11⟩, f11⟩ := twelve hbk5 (o := N * 12) (by simp [boxCells_length HBX.out.2.1]; omega) (.int .i64 a.k) (.int .i64 a.n) (.float .f64 a.f) (.string a.s) (.slice pa a.ns.length qa) (.slice pb a.xs.length qb) (.int .i64 b.k) (.int .i64 b.n) (.float .f64 b.f) (.string b.s) (.slice pc b.ns.length qc) (.slice pd b.xs.length qd);
           have HW12 := Lib.hid (stored12 (o := N * 12) hbk5 (.int .i64 a.k) (.int .i64 a.n) (.float .f64 a.f) (.string a.s) (.slice pa a.ns.length qa) (.slice pb a.xs.length qb) (.int .i64 b.k) (.int .i64 b.n) (.float .f64 b.f) (.string b.s) (.slice pc b.ns.length qc) (.slice pd b.xs.length qd)); have HZ5 := Lib.hid hbb.size;
           clear hbi hbs hbe hbb hbk5 HC2 kc kd))
    clear hx0 f0 hx1 f1 hx2 f2 hx3 f3 hx4 f4 hx5 f5 hx6 f6 hx7 f7 hx8 f8 hx9 f9 hx10 f10 hx11 f11 HS5 HS6
    have hX := HW12.out
    clear HW12
    generalize ((((((((((((w5.setCell ⟨g, N * 12, none⟩ (.int .i64 a.k)).setCell ⟨g, N * 12 + 1, none⟩ (.int .i64 a.n)).setCell ⟨g, N * 12 + 2, none⟩ (.float .f64 a.f)).setCell ⟨g, N * 12 + 3, none⟩ (.string a.s)).setCell ⟨g, N * 12 + 4, none⟩ (.slice pa a.ns.length qa)).setCell ⟨g, N * 12 + 5, none⟩ (.slice pb a.xs.length qb)).setCell ⟨g, N * 12 + 6, none⟩ (.int .i64 b.k)).setCell ⟨g, N * 12 + 7, none⟩ (.int .i64 b.n)).setCell ⟨g, N * 12 + 8, none⟩ (.float .f64 b.f)).setCell ⟨g, N * 12 + 9, none⟩ (.string b.s)).setCell ⟨g, N * 12 + 10, none⟩ (.slice pc b.ns.length qc)).setCell ⟨g, N * 12 + 11, none⟩ (.slice pd b.xs.length qd)) = w6 at hX ⊢
    obtain ⟨hb6, ho6⟩ := hX
    have hl0 := boxCells_length (ms := ms) HBX.out.2.1
    have c72 : w6.cell? ⟨g, 72, none⟩ = some (.int .i64 N) := by
      rw [hb6.cell 72]
      have := setFrom_get [.int .i64 a.k, .int .i64 a.n, .float .f64 a.f, .string a.s, .slice pa a.ns.length qa, .slice pb a.xs.length qb, .int .i64 b.k, .int .i64 b.n, .float .f64 b.f, .string b.s, .slice pc b.ns.length qc, .slice pd b.xs.length qd] (boxCells ms) (N * 12) 72 (by simp; omega)
      rw [if_neg (by simp; omega), boxCells_last HBX.out.2.1, ← HN.out] at this
      simpa using this
    have f72 := hb6.frozen 72
    have HB6 := Lib.hid hb6
    clear hb6 hl0
    have HO6 := Lib.hid ho6
    clear ho6
    go_wp2
    go_ret
    have ec : [Value.int .i64 a.k, .int .i64 a.n, .float .f64 a.f, .string a.s, .slice pa a.ns.length qa, .slice pb a.xs.length qb, .int .i64 b.k, .int .i64 b.n, .float .f64 b.f, .string b.s, .slice pc b.ns.length qc, .slice pd b.xs.length qd] = a.cells ++ b.cells := by
      unfold Val.cells; rw [KA.out, KB.out, KC.out, KD.out]; rfl
    have hbl := HB6.out.setl (i := 72) (.int .i64 ((N : Int) + 1))
    have ep := box_put ms a b (by rw [← HN.out]; exact hlt)
    rw [← HN.out] at ep
    rw [ec, ep] at hbl
    have o5 := (Only.of_below (HL3.out.trans (HBB.out.mono HL3.out.size)) g)
    have o6 := HO6.out.set_ (p := ⟨g, 72, none⟩) (.inl rfl) (.int .i64 ((N : Int) + 1))
    have hg3 : ∀ x, w3.heap.size ≤ x → x ≠ g := fun x hx => by omega
    exact put_end HBX.out (by rw [← HN.out]; exact hlt) hbl (HAI.out.below HBB1.out) (HAS.out.mono hg3) HBI.out (HBS.out.mono (fun x hx => hg3 x (Nat.le_trans HBA.out.size hx))) HAE.out HBE.out o5 o6 (HAS.out.mono (fun x hx => Nat.le_trans HL3.out.size hx)) (HBS.out.mono (fun x hx => Nat.le_trans (Nat.le_trans HL3.out.size HBA.out.size) hx))
end Go.Proofs.Ytemhinagajfemaa
