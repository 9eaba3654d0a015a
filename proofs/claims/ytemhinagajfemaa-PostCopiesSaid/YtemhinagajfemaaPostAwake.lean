/- Layer 20's answers that the document fixes. -/
import Derived.Test.YtemhinagajfemaaPost5
import Derived.Test.YtemhinagajfemaaRow
namespace Go.Proofs.Ytemhinagajfemaa
set_option linter.unusedVariables false
open Go.RowKit

def numV (n : Int) : Val := .mk 2 n 0 ByteArray.empty .no [] .no []
def strV (s : ByteArray) : Val := .mk 4 0 0 s .no [] .no []
def ValBelow (v : Val) (w : World) (e : Ending) (w' : World) : Prop := e = .returned v.agg ∧ Below w.heap.size w w'
theorem num_any (n : Int) (w : World) : Calls Try.prog 59 #[.int .i64 n] w fun e w' => ValBelow (numV n) w e w' := by
  have hsf := run_store_flt
  go_enter Try.func59, Try.ntmps59
  go_wp2
  exact bodyPost_ret (v := (numV n).agg) (by simp [results, Try.results59, go_sem, Val.agg]; exact ⟨rfl, rfl, rfl, rfl, rfl, rfl⟩) rfl ⟨rfl, (Below.refl _ _).alloc (Nat.le_refl _) _⟩
theorem str_v (s : ByteArray) (w : World) : Calls Try.prog 60 #[.string s] w fun e w' => ValBelow (strV s) w e w' := by
  have hsf := run_store_flt
  go_enter Try.func60, Try.ntmps60
  go_wp2
  exact bodyPost_ret (v := (strV s).agg) (by simp [results, Try.results60, go_sem, Val.agg]; exact ⟨rfl, rfl, rfl, rfl, rfl, rfl⟩) rfl ⟨rfl, (Below.refl _ _).alloc (Nat.le_refl _) _⟩
theorem numV_in {n : Int} (h : i64r n) (w : World) : (numV n).In w := by
  rw [Val.in_iff]
  refine ⟨⟨(by unfold i64r; omega : i64r 2), h, (by omega : 0 < 18446744073709551616), (by unfold strok; decide : strok ByteArray.empty), (by omega : 0 ≤ 8796093021952), (by omega : 0 ≤ 1599289640354), fun s hs => by simp [numV, Val.ns] at hs⟩, rfl, rfl, fun x hx => by simp [numV, Val.xs] at hx⟩
theorem strV_in {s : ByteArray} (h : strok s) (w : World) : (strV s).In w := by
  rw [Val.in_iff]
  refine ⟨⟨(by unfold i64r; omega : i64r 4), (by unfold i64r; omega : i64r 0), (by omega : 0 < 18446744073709551616), h, (by omega : 0 ≤ 8796093021952), (by omega : 0 ≤ 1599289640354), fun s hs => by simp [strV, Val.ns] at hs⟩, rfl, rfl, fun x hx => by simp [strV, Val.xs] at hx⟩

theorem leaf_erase {a : Val} {k n : Int} {f : Nat} {s : ByteArray} (h : a.erase = .mk k n f s .no [] .no []) : a.k = k ∧ a.n = n ∧ a.f = f ∧ a.s = s ∧ a.ns = [] ∧ a.xs = [] := by
  rw [Val.erase_eq] at h
  injection h with h1 h2 h3 h4 _ h5 _ h6
  exact ⟨h1, h2, h3, h4, h5, List.map_eq_nil_iff.1 h6⟩
theorem num_same {a : Val} {m n : Int} (h : a.erase = numV m) : a.same (numV n) = decide (m = n) := by
  obtain ⟨h1, h2, h3, h4, h5, h6⟩ := leaf_erase h
  unfold Val.same
  rw [Val.ord_eq]
  have e1 : (numV n).k = 2 := rfl
  have e2 : (numV n).n = n := rfl
  have er : a.row (numV n) = sgnI m n := by unfold Val.row; rw [h1, h2, e2]; rfl
  rw [h1, e1, er]
  simp only [sgnI, leafB]
  simp
  split
  · simp; omega
  · split
    · simp; omega
    · simp; omega
theorem num_kinds {a : Val} {m : Int} (h : a.erase = numV m) : a.Kinds := by
  obtain ⟨h1, h2, h3, h4, h5, h6⟩ := leaf_erase h
  rw [Val.kinds_iff, h1, h6]
  exact ⟨by omega, fun x hx => by simp at hx⟩
theorem numV_right (n : Int) : (numV n).RightB = true := by
  have e : ford 0 0 = 0 := by decide +kernel
  simp [Val.RightB, Val.rightB_eq, numV, Val.k, Val.n, Val.f, Val.s, Val.ns, Val.xs, bareB, e]
  exact of_decide_eq_true (by kernel_rfl)
theorem numV_canon (n : Int) : (numV n).canon = numV n := by rw [Val.canon_eq]; rfl
theorem strV_canon (s : ByteArray) : (strV s).canon = strV s := by rw [Val.canon_eq]; rfl
theorem a_right : (strV ⟨#[97]⟩).RightB = true := by decide +kernel
theorem b_right : (strV ⟨#[98]⟩).RightB = true := by decide +kernel
theorem c_right : (strV ⟨#[99]⟩).RightB = true := by decide +kernel
theorem zero_right : Val.zero.RightB = false := by decide +kernel
theorem zero_in (w : World) : Val.zero.In w := by
  rw [Val.in_iff]
  refine ⟨⟨(by unfold i64r; omega : i64r 0), (by unfold i64r; omega : i64r 0), (by omega : 0 < 18446744073709551616), (by unfold strok; decide : strok ByteArray.empty), (by omega : 0 ≤ 8796093021952), (by omega : 0 ≤ 1599289640354), fun s hs => by simp [Val.zero, Val.ns] at hs⟩, rfl, rfl, fun x hx => by simp [Val.zero, Val.xs] at hx⟩
/-- A string's cells, wherever its empty rows lie. -/
def StrAgg (s : ByteArray) (x : Value) : Prop := ∃ p q p' q', x = .agg #[.int .i64 4, .int .i64 0, .float .f64 0, .string s, .slice p 0 q, .slice p' 0 q']
theorem str_agg {b : Val} {s : ByteArray} {w : World} (h : b.erase = strV s) (hin : b.In w) : StrAgg s b.agg := by
  obtain ⟨h1, h2, h3, h4, h5, h6⟩ := leaf_erase h
  obtain ⟨p, q, e1⟩ := hin.nslice
  obtain ⟨p', q', e2⟩ := hin.xslice
  rw [h5] at e1; rw [h6] at e2
  refine ⟨p, q, p', q', ?_⟩
  unfold Val.agg
  rw [h1, h2, h3, h4, h5, h6, e1, e2]
  rfl
/-- Numbers with strings wait, in order. -/
def Ns (ms : List (Val × Val)) (l : List (Int × ByteArray)) : Prop := ms.map (fun m => (m.1.erase, m.2.erase)) = l.map fun x => (numV x.1, strV x.2)
theorem Ns.snoc {ms : List (Val × Val)} {l : List (Int × ByteArray)} {a b : Val} {n : Int} {s : ByteArray} (h : Ns ms l) (ha : a.erase = numV n) (hb : b.erase = strV s) : Ns (ms ++ [(a, b)]) (l ++ [(n, s)]) := by
  unfold Ns at h ⊢
  simp [h, ha, hb]
theorem Ns.len {ms : List (Val × Val)} {l : List (Int × ByteArray)} (h : Ns ms l) : ms.length = l.length := by
  have := congrArg List.length h
  simpa using this
theorem Ns.kinds {ms : List (Val × Val)} {l : List (Int × ByteArray)} (h : Ns ms l) : ∀ m, m ∈ ms → m.1.Kinds := fun m hm => by
  have : (m.1.erase, m.2.erase) ∈ l.map fun x => (numV x.1, strV x.2) := by rw [← h]; exact List.mem_map.2 ⟨m, hm, rfl⟩
  obtain ⟨x, _, e⟩ := List.mem_map.1 this
  injection e with e1 e2
  exact num_kinds e1.symm
def PutN (g : Nat) (l : List (Int × ByteArray)) (w : World) (e : Ending) (w' : World) : Prop := e = .returned (.int .i64 0) ∧ Only w w' g ∧ ∃ ms, BoxAt w' g ms ∧ Ns ms l
theorem put_n (n : Int) (s : ByteArray) (g : Nat) (ms : List (Val × Val)) (l : List (Int × ByteArray)) (w : World) (hb : BoxAt w g ms) (hn : Ns ms l) (hl : l.length < 6) (hi : i64r n) (hs : strok s) (hr : (strV s).RightB = true) :
    Calls Try.prog 26 #[.pointer (some ⟨g, 0, none⟩), (numV n).agg, (strV s).agg] w fun e w' => PutN g (l ++ [(n, s)]) w e w' :=
  (put_ok (numV n) (strV s) g ms w (numV_in hi w) (strV_in hs w) (numV_right n) hr hb).mono fun e w' h => by
    rcases h with ⟨h6, _⟩ | ⟨_, a, b, rfl, hb', ha, hb2, ho, _, _⟩
    · have := hn.len; omega
    · rw [numV_canon] at ha; rw [strV_canon] at hb2
      exact ⟨rfl, ho, _, hb', hn.snoc ha hb2⟩
def TakeN (g : Nat) (s : ByteArray) (l : List (Int × ByteArray)) (w : World) (e : Ending) (w' : World) : Prop := (∃ x, e = .returned (.tuple #[x, .bool true]) ∧ StrAgg s x) ∧ Only w w' g ∧ ∃ ms, BoxAt w' g ms ∧ Ns ms l
theorem take_n (n : Int) (s : ByteArray) (g : Nat) (ms : List (Val × Val)) (l : List (Int × ByteArray)) (w : World) (hb : BoxAt w g ms) (hn : Ns ms ((n, s) :: l)) (hi : i64r n) :
    Calls Try.prog 27 #[.pointer (some ⟨g, 0, none⟩), (numV n).agg] w fun e w' => TakeN g s l w e w' := by
  cases ms with
  | nil => simp [Ns] at hn
  | cons m ms =>
    obtain ⟨a, b⟩ := m
    simp only [Ns, List.map_cons, List.cons.injEq, Prod.mk.injEq] at hn
    obtain ⟨⟨ha, hbe⟩, hn'⟩ := hn
    have hs : a.same (numV n) = true := by rw [num_same ha]; simp
    have hall : Ns ((a, b) :: ms) ((n, s) :: l) := by simp only [Ns, List.map_cons, ha, hbe, hn']
    refine (take_ok (numV n) g ((a, b) :: ms) w (numV_in hi w) hb hall.kinds).mono fun e w' h => ?_
    rcases h with ⟨hno, _⟩ | ⟨i, a', b', hm, hno, hs', rfl, hb', ho⟩
    · have := hno (a, b) (by simp); simp only [] at this; rw [hs] at this; cases this
    · cases i with
      | succ i => have := hno 0 (a, b) (by omega) rfl; simp only [] at this; rw [hs] at this; cases this
      | zero =>
        simp at hm
        obtain ⟨rfl, rfl⟩ := hm
        exact ⟨⟨_, rfl, str_agg hbe (hb.2.2 (a, b) (by simp)).2.1⟩, ho, _, hb', hn'⟩
theorem take_0 (n : Int) (g : Nat) (ms : List (Val × Val)) (w : World) (hb : BoxAt w g ms) (hn : Ns ms []) (hi : i64r n) : Calls Try.prog 27 #[.pointer (some ⟨g, 0, none⟩), (numV n).agg] w fun e w' => NoneTaken w e w' := by
  obtain rfl : ms = [] := by simpa [Ns] using hn
  refine (take_ok (numV n) g [] w (numV_in hi w) hb (fun m hm => by simp at hm)).mono fun e w' h => ?_
  rcases h with ⟨_, h⟩ | ⟨i, a, b, hm, _⟩
  · exact h
  · simp at hm
theorem BoxAt.below {w w' : World} {g : Nat} {ms : List (Val × Val)} (h : BoxAt w g ms) (hb : Below w.heap.size w w') : BoxAt w' g ms :=
  ⟨h.1.below hb h.1.lt, h.2.1, fun m hm => ⟨⟨(h.2.2 m hm).1.1.below hb, (h.2.2 m hm).1.2⟩, (h.2.2 m hm).2.1.below hb, (h.2.2 m hm).2.2⟩⟩

set_option maxHeartbeats 4000000 in
set_option maxRecDepth 100000 in
theorem awake20_any (w : World) : Calls Try.prog 21 #[] w fun e w' => TrueBelow w e w' := by
  have hnp : ∀ (W : World) (a : Addr), (binOp .eql 49 (.pointer (some a)) (.pointer none)).run Try.prog W = .ok (.bool false) W := fun _ _ => rfl
  have hsf := run_store_flt
  have q1 : i64r 1 := by unfold i64r; omega
  have q2 : i64r 2 := by unfold i64r; omega
  have s1 : strok ⟨#[97]⟩ := by unfold strok; decide
  have s2 : strok ⟨#[98]⟩ := by unfold strok; decide
  have s3 : strok ⟨#[99]⟩ := by unfold strok; decide
  have Q1 := Lib.hid q1; have Q2 := Lib.hid q2; have S1 := Lib.hid s1; have S2 := Lib.hid s2; have S3 := Lib.hid s3
  clear q1 q2 s1 s2 s3
  go_enter Try.func21, Try.ntmps21
  try simp only [lapp_cons, lapp_nil]
  go_wp2_with fail
  refine (new_any _).mono ?_
  rintro e w1 ⟨rfl, hb1, hl1⟩
  obtain ⟨g, hg⟩ : ∃ g, g = w.heap.size := ⟨_, rfl⟩
  rw [← hg] at hb1 ⊢
  have HG := Lib.hid hg
  have HB := Lib.hid hb1; have HL := Lib.hid hl1
  clear hg hb1 hl1
  have HN : Hid (Ns [] []) := Lib.hid rfl
  go_wp2_with fail
  refine (num_any 1 _).mono ?_
  rintro e wa ⟨rfl, hla⟩
  have HLA := Lib.hid hla; clear hla
  go_wp2_with fail
  refine (str_v ⟨#[97]⟩ _).mono ?_
  rintro e wb ⟨rfl, hlb⟩
  have HLB := Lib.hid (HLA.out.trans (hlb.mono HLA.out.size)); clear hlb HLA
  have HC := Lib.hid (put_n 1 ⟨#[97]⟩ g _ _ wb (HB.out.below HLB.out) HN.out (by simp) Q1.out S1.out a_right)
  go_wp2_with fail
  refine HC.out.mono ?_
  rintro e wc ⟨rfl, hoc, ms, hbc, hnc⟩
  have HL1 := Lib.hid (Below.only (HL.out.trans (HLB.out.mono HL.out.size)) hoc (by have := HG.out; omega) (Nat.le_trans HL.out.size HLB.out.size))
  clear HB HN HC HLB HL
  have HB := Lib.hid hbc; have HN := Lib.hid hnc
  simp only [List.nil_append, List.cons_append] at HN
  clear hbc hnc hoc
  go_wp2_with fail
  refine (num_any 2 _).mono ?_
  rintro e wa ⟨rfl, hla⟩
  have HLA := Lib.hid hla; clear hla
  go_wp2_with fail
  refine (str_v ⟨#[98]⟩ _).mono ?_
  rintro e wb ⟨rfl, hlb⟩
  have HLB := Lib.hid (HLA.out.trans (hlb.mono HLA.out.size)); clear hlb HLA
  have HC := Lib.hid (put_n 2 ⟨#[98]⟩ g _ _ wb (HB.out.below HLB.out) HN.out (by simp) Q2.out S2.out b_right)
  go_wp2_with fail
  refine HC.out.mono ?_
  rintro e wc ⟨rfl, hoc, ms, hbc, hnc⟩
  have HL2 := Lib.hid (Below.only (HL1.out.trans (HLB.out.mono HL1.out.size)) hoc (by have := HG.out; omega) (Nat.le_trans HL1.out.size HLB.out.size))
  clear HB HN HC HLB HL1
  have HB := Lib.hid hbc; have HN := Lib.hid hnc
  simp only [List.nil_append, List.cons_append] at HN
  clear hbc hnc hoc
  go_wp2_with fail
  refine (num_any 1 _).mono ?_
  rintro e wa ⟨rfl, hla⟩
  have HLA := Lib.hid hla; clear hla
  go_wp2_with fail
  refine (str_v ⟨#[99]⟩ _).mono ?_
  rintro e wb ⟨rfl, hlb⟩
  have HLB := Lib.hid (HLA.out.trans (hlb.mono HLA.out.size)); clear hlb HLA
  have HC := Lib.hid (put_n 1 ⟨#[99]⟩ g _ _ wb (HB.out.below HLB.out) HN.out (by simp) Q1.out S3.out c_right)
  go_wp2_with fail
  refine HC.out.mono ?_
  rintro e wc ⟨rfl, hoc, ms, hbc, hnc⟩
  have HL3 := Lib.hid (Below.only (HL2.out.trans (HLB.out.mono HL2.out.size)) hoc (by have := HG.out; omega) (Nat.le_trans HL2.out.size HLB.out.size))
  clear HB HN HC HLB HL2
  have HB := Lib.hid hbc; have HN := Lib.hid hnc
  simp only [List.nil_append, List.cons_append] at HN
  clear hbc hnc hoc
  go_wp2_with fail
  refine (num_any 1 _).mono ?_
  rintro e wa ⟨rfl, hla⟩
  have HLA := Lib.hid hla; clear hla
  have HC := Lib.hid (take_n 1 ⟨#[97]⟩ g _ _ wa (HB.out.below HLA.out) HN.out Q1.out)
  go_wp2_with fail
  refine HC.out.mono ?_
  rintro e w0c ⟨⟨x, rfl, p0, q0, p'0, q'0, rfl⟩, ho, ms, hbc, hnc⟩
  have hT := Below.only (HL3.out.trans (HLA.out.mono HL3.out.size)) ho (by have := HG.out; omega) (Nat.le_trans HL3.out.size HLA.out.size)
  have HT0 := Lib.hid (hT.alloc hT.size (.cells #[.int .i64 4, .int .i64 0, .float .f64 0, .string ⟨#[97]⟩, .slice p0 0 q0, .slice p'0 0 q'0] 46))
  have HBG0 := Lib.hid (Nat.ne_of_lt hbc.1.lt)
  clear HB HN HC HLA HL3 hT
  have HB := Lib.hid (hbc.below ((Below.refl _ _).alloc (Nat.le_refl _) (.cells #[.int .i64 4, .int .i64 0, .float .f64 0, .string ⟨#[97]⟩, .slice p0 0 q0, .slice p'0 0 q'0] 46)))
  have HN := Lib.hid hnc
  have FX0 := Lib.hid (Blk.new w0c 46 #[.int .i64 4, .int .i64 0, .float .f64 0, .string ⟨#[97]⟩, .slice p0 0 q0, .slice p'0 0 q'0])
  clear hbc hnc ho
  go_wp2_with fail
  refine (num_any 2 _).mono ?_
  rintro e wa ⟨rfl, hla⟩
  have HLA := Lib.hid hla; clear hla
  have HC := Lib.hid (take_n 2 ⟨#[98]⟩ g _ _ wa (HB.out.below HLA.out) HN.out Q2.out)
  go_wp2_with fail
  refine HC.out.mono ?_
  rintro e w1c ⟨⟨x, rfl, p1, q1, p'1, q'1, rfl⟩, ho, ms, hbc, hnc⟩
  have hT := Below.only (HT0.out.trans (HLA.out.mono HT0.out.size)) ho (by have := HG.out; omega) (Nat.le_trans HT0.out.size HLA.out.size)
  have HT1 := Lib.hid (hT.alloc hT.size (.cells #[.int .i64 4, .int .i64 0, .float .f64 0, .string ⟨#[98]⟩, .slice p1 0 q1, .slice p'1 0 q'1] 46))
  have FY0 := Lib.hid ((FX0.out.below HLA.out FX0.out.lt).grown ho (by intro e; injection e with e; have := HBG0.out; omega)); clear FX0; have FX0 := Lib.hid ((FY0.out).alloc (.cells #[.int .i64 4, .int .i64 0, .float .f64 0, .string ⟨#[98]⟩, .slice p1 0 q1, .slice p'1 0 q'1] 46)); clear FY0
  have HBG1 := Lib.hid (Nat.ne_of_lt hbc.1.lt)
  clear HB HN HC HLA HT0 hT
  have HB := Lib.hid (hbc.below ((Below.refl _ _).alloc (Nat.le_refl _) (.cells #[.int .i64 4, .int .i64 0, .float .f64 0, .string ⟨#[98]⟩, .slice p1 0 q1, .slice p'1 0 q'1] 46)))
  have HN := Lib.hid hnc
  have FX1 := Lib.hid (Blk.new w1c 46 #[.int .i64 4, .int .i64 0, .float .f64 0, .string ⟨#[98]⟩, .slice p1 0 q1, .slice p'1 0 q'1])
  clear hbc hnc ho
  go_wp2_with fail
  refine (num_any 1 _).mono ?_
  rintro e wa ⟨rfl, hla⟩
  have HLA := Lib.hid hla; clear hla
  have HC := Lib.hid (take_n 1 ⟨#[99]⟩ g _ _ wa (HB.out.below HLA.out) HN.out Q1.out)
  go_wp2_with fail
  refine HC.out.mono ?_
  rintro e w2c ⟨⟨x, rfl, p2, q2, p'2, q'2, rfl⟩, ho, ms, hbc, hnc⟩
  have hT := Below.only (HT1.out.trans (HLA.out.mono HT1.out.size)) ho (by have := HG.out; omega) (Nat.le_trans HT1.out.size HLA.out.size)
  have HT2 := Lib.hid (hT.alloc hT.size (.cells #[.int .i64 4, .int .i64 0, .float .f64 0, .string ⟨#[99]⟩, .slice p2 0 q2, .slice p'2 0 q'2] 46))
  have FY0 := Lib.hid ((FX0.out.below HLA.out FX0.out.lt).grown ho (by intro e; injection e with e; have := HBG0.out; omega)); clear FX0; have FX0 := Lib.hid ((FY0.out).alloc (.cells #[.int .i64 4, .int .i64 0, .float .f64 0, .string ⟨#[99]⟩, .slice p2 0 q2, .slice p'2 0 q'2] 46)); clear FY0
  have FY1 := Lib.hid ((FX1.out.below HLA.out FX1.out.lt).grown ho (by intro e; injection e with e; have := HBG1.out; omega)); clear FX1; have FX1 := Lib.hid ((FY1.out).alloc (.cells #[.int .i64 4, .int .i64 0, .float .f64 0, .string ⟨#[99]⟩, .slice p2 0 q2, .slice p'2 0 q'2] 46)); clear FY1
  have HBG2 := Lib.hid (Nat.ne_of_lt hbc.1.lt)
  clear HB HN HC HLA HT1 hT
  have HB := Lib.hid (hbc.below ((Below.refl _ _).alloc (Nat.le_refl _) (.cells #[.int .i64 4, .int .i64 0, .float .f64 0, .string ⟨#[99]⟩, .slice p2 0 q2, .slice p'2 0 q'2] 46)))
  have HN := Lib.hid hnc
  have FX2 := Lib.hid (Blk.new w2c 46 #[.int .i64 4, .int .i64 0, .float .f64 0, .string ⟨#[99]⟩, .slice p2 0 q2, .slice p'2 0 q'2])
  clear hbc hnc ho
  go_wp2_with fail
  refine (num_any 1 _).mono ?_
  rintro e wa ⟨rfl, hla⟩
  have HLA := Lib.hid hla; clear hla
  have HC := Lib.hid (take_0 1 g _ wa (HB.out.below HLA.out) HN.out Q1.out)
  go_wp2_with fail
  refine HC.out.mono ?_
  rintro e wd ⟨rfl, hd⟩
  have HD := Lib.hid (HLA.out.trans (hd.mono HLA.out.size)); clear hd HC HLA
  have hbD : BoxAt wd g ms := HB.out.below HD.out
  have g0 := (FX0.out.below HD.out FX0.out.lt); have g1 := (FX1.out.below HD.out FX1.out.lt); have g2 := (FX2.out.below HD.out FX2.out.lt)
  have k0 := (g0.alloc (.cells #[.int .i64 0, .int .i64 0, .float .f64 0, .string ⟨#[]⟩, .slice none 0 0, .slice none 0 0] 46)).cell 3; have k1 := (g1.alloc (.cells #[.int .i64 0, .int .i64 0, .float .f64 0, .string ⟨#[]⟩, .slice none 0 0, .slice none 0 0] 46)).cell 3; have k2 := (g2.alloc (.cells #[.int .i64 0, .int .i64 0, .float .f64 0, .string ⟨#[]⟩, .slice none 0 0, .slice none 0 0] 46)).cell 3
  simp only [List.getElem?_toArray, List.getElem?_cons_zero, List.getElem?_cons_succ] at k0 k1 k2
  have HE := Lib.hid ((HT2.out.trans (HD.out.mono HT2.out.size)).alloc (Nat.le_trans HT2.out.size HD.out.size) (.cells #[.int .i64 0, .int .i64 0, .float .f64 0, .string ⟨#[]⟩, .slice none 0 0, .slice none 0 0] 46))
  have hbE := hbD.below ((Below.refl _ _).alloc (Nat.le_refl _) (.cells #[.int .i64 0, .int .i64 0, .float .f64 0, .string ⟨#[]⟩, .slice none 0 0, .slice none 0 0] 46))
  have hlen := len_any _ g ms hbE
  rw [show ms = [] from by simpa [Ns] using HN.out] at hlen
  have HLEN := Lib.hid hlen
  clear hlen hbE g0 g1 g2 hbD HT2 HB HN FX0 FX1 FX2
  go_wp2_with fail
  refine HLEN.out.mono ?_
  rintro e wf ⟨rfl, rfl⟩
  clear HLEN
  go_wp2_with fail
  refine (num_any 1 _).mono ?_
  rintro e wn ⟨rfl, hln⟩
  have HF := Lib.hid (HE.out.trans (hln.mono HE.out.size))
  have hput : Calls Try.prog 26 #[.pointer (some ⟨g, 0, none⟩), .agg #[.int .i64 0, .int .i64 0, .float .f64 0, .string ⟨#[]⟩, .slice none 0 0, .slice none 0 0], (numV 1).agg] wn fun e w' => IntBelow 2 wn e w' := put_arg Val.zero (numV 1) g wn (zero_in _) (numV_in Q1.out _) (.inl zero_right)
  have HPUT := Lib.hid hput
  clear hput hln HE
  go_wp2_with fail
  refine HPUT.out.mono ?_
  rintro e wz ⟨rfl, hlz⟩
  have HZ := Lib.hid (HF.out.trans (hlz.mono HF.out.size))
  clear hlz HF HPUT
  go_wp2
  go_ret
  exact ⟨rfl, HZ.out⟩
end Go.Proofs.Ytemhinagajfemaa
