/- types.join of two types that may be types: what they join to, or error 6. -/
import Derived.Test.YtjpdbhhjlnmacaaGreatTcM9
import Derived.Test.YtjpdbhhjlnmacaaGreatTcM13
import Derived.Test.YtjpdbhhjlnmacaaGreatTcM20
import Derived.Deep.RegionLaw
namespace Go.Proofs.YtjpdbhhjlnmacaaGreat
set_option linter.unusedVariables false
open Go.RowKit

mutual
/-- What two types join to. -/
def Ty.joinT : Ty → Ty → Option Ty
  | .mk k _ ns _ xs, b =>
    if k = 7 then some b.erase
    else if b.k = 7 then some (.mk k .no ns .no (Ty.eraseAll xs))
    else if k = b.k ∧ ns = b.ns then (Ty.joinAll xs b.xs).map (fun us => .mk k .no ns .no us)
    else none
def Ty.joinAll : List Ty → List Ty → Option (List Ty)
  | [], _ => some []
  | _ :: _, [] => none
  | x :: xs, y :: ys => (x.joinT y).bind fun u => (Ty.joinAll xs ys).map fun us => u :: us
end
theorem Ty.joinT_eq (a b : Ty) : a.joinT b = if a.k = 7 then some b.erase else if b.k = 7 then some a.erase else if a.k = b.k ∧ a.ns = b.ns then (Ty.joinAll a.xs b.xs).map (fun us => .mk a.k .no a.ns .no us) else none := by
  cases a
  simp only [Ty.joinT, Ty.k, Ty.ns, Ty.xs, Ty.erase]
  rfl
theorem joinAll_drop {xs ys : List Ty} {i : Nat} (h1 : i < xs.length) (h2 : i < ys.length) :
    Ty.joinAll (xs.drop i) (ys.drop i) = ((xs[i]'h1).joinT (ys[i]'h2)).bind fun u => (Ty.joinAll (xs.drop (i + 1)) (ys.drop (i + 1))).map fun us => u :: us := by
  rw [List.drop_eq_getElem_cons h1, List.drop_eq_getElem_cons h2]
  simp only [Ty.joinAll]
/-- Types of one kind and with the same names have as many items. -/
theorem right_same_len {a b : Ty} {da db : Nat} (ha : a.rightB da = true) (hb : b.rightB db = true) (hk : a.k = b.k) (hn : a.ns = b.ns) : a.xs.length = b.xs.length := by
  rw [Ty.rightB_eq] at ha hb
  rw [← hk, ← hn] at hb
  split at ha
  · cases ha
  split at hb
  · cases hb
  split at ha
  · rename_i h5
    rw [if_pos h5] at hb
    simp only [Bool.and_eq_true, decide_eq_true_eq] at ha hb
    omega
  · rename_i h5
    rw [if_neg h5] at hb
    split at ha
    · rename_i h6
      rw [if_pos h6] at hb
      simp only [Bool.and_eq_true, decide_eq_true_eq] at ha hb
      omega
    · rename_i h6
      rw [if_neg h6] at hb
      split at ha
      · rename_i h7
        rw [if_pos h7] at hb
        simp only [Bool.and_eq_true, decide_eq_true_eq] at ha hb
        omega
      · cases ha
theorem right_items {a : Ty} {d : Nat} (ha : a.rightB d = true) : ∀ x, x ∈ a.xs → ∃ e, x.rightB e = true := by
  intro x hx
  rw [Ty.rightB_eq] at ha
  split at ha
  · cases ha
  split at ha
  · simp only [Bool.and_eq_true] at ha
    exact ⟨_, trightAll_mem ha.2 x hx⟩
  · split at ha
    · simp only [Bool.and_eq_true] at ha
      exact ⟨_, trightAll_mem ha.2 x hx⟩
    · split at ha
      · simp only [Bool.and_eq_true, decide_eq_true_eq] at ha
        rw [List.eq_nil_of_length_eq_zero ha.2] at hx
        simp at hx
      · cases ha

/-- Gave up with error k. -/
def gave (k : Int) : Ending := .panicked [{ v := .iface 37 (.int .i64 k), recovered := false }]
theorem tmust_true (b : Bool) (k : Int) (w : World) (h : b = true) : Calls Tryz.prog 28 #[.bool b, .int .i64 k] w fun e w' => e = .returned (.tuple #[]) ∧ w = w' := by
  subst h
  go_enter Tryz.func28, Tryz.ntmps28
  go_wp2
  go_end0
  exact ⟨rfl, rfl⟩
theorem tmust_false (b : Bool) (k : Int) (w : World) (h : b = false) : Calls Tryz.prog 28 #[.bool b, .int .i64 k] w fun e w' => e = gave k ∧ w = w' := by
  subst h
  unfold gave
  go_enter Tryz.func28, Tryz.ntmps28
  go_wp2
  exact ⟨rfl, rfl, rfl⟩

def Joined (r : Option Ty) (P : Nat → Prop) (w : World) (e : Ending) (w' : World) : Prop :=
  Below w.heap.size w w' ∧ match r with
  | some v => ∃ u : Ty, e = .returned u.agg ∧ u.erase = v ∧ u.In w' ∧ u.Sep (fun b => P b ∨ w.heap.size ≤ b)
  | none => e = gave 6
theorem blk3_set {w : World} {g : Nat} {T : TypeId} {x0 x1 x2 : Value} (hb : Blk w g T #[x0, x1, x2]) (u0 u1 u2 : Value) :
    Blk (((w.setCell ⟨g, 0, none⟩ u0).setCell ⟨g, 1, none⟩ u1).setCell ⟨g, 2, none⟩ u2) g T #[u0, u1, u2] := ((hb.set_ 0 u0).set_ 1 u1).set_ 2 u2
theorem below3_set {B g : Nat} {w W : World} (h : Below B w W) (hg : B ≤ g) (u0 u1 u2 : Value) : Below B w (((W.setCell ⟨g, 0, none⟩ u0).setCell ⟨g, 1, none⟩ u1).setCell ⟨g, 2, none⟩ u2) :=
  ((h.setCell (p := ⟨g, 0, none⟩) hg u0).setCell (p := ⟨g, 1, none⟩) hg u1).setCell (p := ⟨g, 2, none⟩) hg u2
/-- Where it begins: both by value, and room for the result. -/
structure J0 (w W : World) (a b : Ty) (r : Array Value) : Prop where
  below : Below w.heap.size w W
  ba : Blk W w.heap.size 36 #[.int .i64 a.k, a.na.val a.ns.length, a.xa.val a.xs.length]
  bb : Blk W (w.heap.size + 1) 36 #[.int .i64 b.k, b.na.val b.ns.length, b.xa.val b.xs.length]
  br : Blk W (w.heap.size + 1 + 1) 36 r
theorem j0_start (w : World) (a b : Ty) (r : Array Value) : J0 w (((w.alloc (.cells #[.int .i64 a.k, a.na.val a.ns.length, a.xa.val a.xs.length] 36)).alloc (.cells #[.int .i64 b.k, b.na.val b.ns.length, b.xa.val b.xs.length] 36)).alloc (.cells r 36)) a b r := by
  refine ⟨(((Below.refl _ w).alloc (Nat.le_refl _) _).alloc (by simp) _).alloc (by simp; omega) _, ((Blk.new w 36 _).alloc _).alloc _, ?_, ?_⟩
  · have := (Blk.new (w.alloc (.cells #[.int .i64 a.k, a.na.val a.ns.length, a.xa.val a.xs.length] 36)) 36 #[.int .i64 b.k, b.na.val b.ns.length, b.xa.val b.xs.length]).alloc (.cells r 36)
    rw [show (w.alloc (.cells #[.int .i64 a.k, a.na.val a.ns.length, a.xa.val a.xs.length] 36)).heap.size = w.heap.size + 1 from by simp] at this
    exact this
  · have := Blk.new ((w.alloc (.cells #[.int .i64 a.k, a.na.val a.ns.length, a.xa.val a.xs.length] 36)).alloc (.cells #[.int .i64 b.k, b.na.val b.ns.length, b.xa.val b.xs.length] 36)) 36 r
    rw [show ((w.alloc (.cells #[.int .i64 a.k, a.na.val a.ns.length, a.xa.val a.xs.length] 36)).alloc (.cells #[.int .i64 b.k, b.na.val b.ns.length, b.xa.val b.xs.length] 36)).heap.size = w.heap.size + 1 + 1 from by simp] at this
    exact this

set_option maxHeartbeats 4000000 in
set_option maxRecDepth 100000 in
theorem join_none (a b : Ty) (P : Nat → Prop) (w : World) (hP : ∀ b, P b → b < w.heap.size) (ha : a.In w) (hb : b.In w) (hsa : a.Sep P) (hsb : b.Sep P) (hk : a.k = 7 ∨ (a.k ≠ 7 ∧ b.k = 7)) :
    Calls Tryz.prog 39 #[a.agg, b.agg] w fun e w' => Joined (a.joinT b) P w e w' := by
  have hE := Ty.joinT_eq a b
  obtain ⟨c, hc⟩ : ∃ c : Ty, c = if a.k = 7 then b else a := ⟨_, rfl⟩
  obtain ⟨WF, hWF⟩ : ∃ WF, WF = ((w.alloc (.cells #[.int .i64 a.k, a.na.val a.ns.length, a.xa.val a.xs.length] 36)).alloc (.cells #[.int .i64 b.k, b.na.val b.ns.length, b.xa.val b.xs.length] 36)).alloc (.cells #[.int .i64 c.k, c.na.val c.ns.length, c.xa.val c.xs.length] 36) := ⟨_, rfl⟩
  have hj : J0 w WF a b #[.int .i64 c.k, c.na.val c.ns.length, c.xa.val c.xs.length] := by rw [hWF]; exact j0_start w a b _
  have hcI : c.In w := by rw [hc]; split <;> assumption
  have hcS : c.Sep P := by rw [hc]; split <;> assumption
  have hR : a.joinT b = some c.erase := by
    rw [hE, hc]
    rcases hk with hk | ⟨hk, hk2⟩
    · rw [if_pos hk, if_pos hk]
    · rw [if_neg hk, if_pos hk2, if_neg hk]
  obtain ⟨p4, q4, e4⟩ := ha.nslice
  obtain ⟨p5, q5, e5⟩ := ha.xslice
  obtain ⟨r4, t4, g4⟩ := hb.nslice
  obtain ⟨r5, t5, g5⟩ := hb.xslice
  have f0 := hj.br.cell 0; have f1 := hj.br.cell 1; have f2 := hj.br.cell 2
  simp at f0 f1 f2
  have HB := Lib.hid hj.below; have HR := Lib.hid hR; have HI := Lib.hid (hcI.below hj.below); have HS := Lib.hid hcS
  have hag : c.agg = .agg #[.int .i64 c.k, c.na.val c.ns.length, c.xa.val c.xs.length] := rfl
  have HAG := Lib.hid hag
  rcases hk with hk | ⟨hk, hk2⟩
  · rw [if_pos hk] at hc
    subst hc
    unfold Ty.agg
    rw [e4, e5, g4, g5]
    rw [g4] at f1
    rw [g5] at f2
    rw [e4, e5, g4, g5] at hWF
    rw [g4, g5] at HAG
    have HWF := Lib.hid hWF
    obtain ⟨K, hK⟩ : ∃ K, K = a.k := ⟨_, rfl⟩
    rw [← hK] at hk HWF ⊢
    subst hk
    clear hWF hj hcI hcS hR hE hag hK e4 e5 g4 g5 hsa hsb ha hb
    go_enter Tryz.func39, Tryz.ntmps39
    go_wp2_with fail
    rw [← HWF.out]
    refine bodyPost_ret (v := .agg #[.int .i64 c.k, .slice r4 c.ns.length t4, .slice r5 c.xs.length t5]) (by simp [results, Tryz.results39, go_sem, f0, f1, f2]) rfl ?_
    refine ⟨HB.out, ?_⟩
    rw [HR.out]
    exact ⟨c, by rw [HAG.out], rfl, HI.out, HS.out.mono (fun x hx => .inl hx)⟩
  · rw [if_neg hk] at hc
    subst hc
    have j1 : (c.k == 7) = false := by simpa using hk
    unfold Ty.agg
    rw [e4, e5, g4, g5]
    rw [e4] at f1
    rw [e5] at f2
    rw [e4, e5, g4, g5] at hWF
    rw [e4, e5] at HAG
    have HWF := Lib.hid hWF
    obtain ⟨K, hK⟩ : ∃ K, K = b.k := ⟨_, rfl⟩
    rw [← hK] at hk2 HWF ⊢
    subst hk2
    clear hWF hj hcI hcS hR hE hag hK e4 e5 g4 g5 hsa hsb ha hb hk
    go_enter Tryz.func39, Tryz.ntmps39
    go_wp2_with fail
    rw [← HWF.out]
    refine bodyPost_ret (v := .agg #[.int .i64 c.k, .slice p4 c.ns.length q4, .slice p5 c.xs.length q5]) (by simp [results, Tryz.results39, go_sem, f0, f1, f2]) rfl ?_
    refine ⟨HB.out, ?_⟩
    rw [HR.out]
    exact ⟨c, by rw [HAG.out], rfl, HI.out, HS.out.mono (fun x hx => .inl hx)⟩

set_option maxHeartbeats 4000000 in
set_option maxRecDepth 100000 in
theorem join_diff (a b : Ty) (P : Nat → Prop) (w : World) (hP : ∀ b, P b → b < w.heap.size) (ha : a.In w) (hb : b.In w) (hsa : a.Sep P) (hsb : b.Sep P) (hk : a.k ≠ 7) (hk2 : b.k ≠ 7) (hn : ¬ (a.k = b.k ∧ a.ns = b.ns)) :
    Calls Tryz.prog 39 #[a.agg, b.agg] w fun e w' => Joined (a.joinT b) P w e w' := by
  have hE := Ty.joinT_eq a b
  rw [if_neg hk, if_neg hk2] at hE
  obtain ⟨W, hW⟩ : ∃ W, W = ((w.alloc (.cells #[.int .i64 a.k, a.na.val a.ns.length, a.xa.val a.xs.length] 36)).alloc (.cells #[.int .i64 b.k, b.na.val b.ns.length, b.xa.val b.xs.length] 36)).alloc (.cells #[.int .i64 0, .slice none 0 0, .slice none 0 0] 36) := ⟨_, rfl⟩
  have hj : J0 w W a b #[.int .i64 0, .slice none 0 0, .slice none 0 0] := by rw [hW]; exact j0_start w a b _
  have hIa := ha.below hj.below
  have hIb := hb.below hj.below
  have heq := eqs_any _ _ a.ns b.ns W (TNamesAt.of hIa) (TNamesAt.of hIb) ha.ok.2.1
  obtain ⟨p4, q4, e4⟩ := ha.nslice
  obtain ⟨p5, q5, e5⟩ := ha.xslice
  obtain ⟨r4, t4, g4⟩ := hb.nslice
  obtain ⟨r5, t5, g5⟩ := hb.xslice
  obtain ⟨A, hA⟩ : ∃ A, A = w.heap.size := ⟨_, rfl⟩
  have ba := hj.ba; have bb := hj.bb; have br := hj.br
  rw [← hA] at ba bb br
  rw [e4, e5] at ba
  rw [g4, g5] at bb
  rw [e4, e5, g4, g5] at hW
  rw [e4, g4] at heq
  unfold Ty.agg
  rw [e4, e5, g4, g5]
  have a0 := ba.cell 0; have a1 := ba.cell 1; have a2 := ba.cell 2
  have b0 := bb.cell 0; have b1 := bb.cell 1; have b2 := bb.cell 2
  simp at a0 a1 a2 b0 b1 b2
  have j1 : (a.k == 7) = false := by simpa using hk
  have j2 : (b.k == 7) = false := by simpa using hk2
  have HW := Lib.hid hW; have HA := Lib.hid hA; have HJ := Lib.hid hj.below; have BA := Lib.hid ba; have BB := Lib.hid bb; have BR := Lib.hid br; have HE := Lib.hid hE; have HEQ := Lib.hid heq
  have HIA := Lib.hid hIa; have HIB := Lib.hid hIb; have HSA := Lib.hid hsa; have HSB := Lib.hid hsb
  have HR : Hid (a.joinT b = none) := Lib.hid (by rw [HE.out, if_neg hn])
  have HN := Lib.hid hn
  clear hW hA hj ba bb br hE hIa hIb heq e4 e5 g4 g5 hsa hsb ha hb hk hk2 hn
  by_cases h1 : a.k = b.k
  · have hq : decide (a.ns = b.ns) = false := decide_eq_false (fun h => HN.out ⟨h1, h⟩)
    rw [hq] at HEQ
    obtain ⟨K, hK⟩ : ∃ K, K = b.k := ⟨_, rfl⟩
    rw [← hK] at b0 j2 HW h1 ⊢
    rw [h1] at a0 j1 HW ⊢
    clear hq hK h1
    go_enter Tryz.func39, Tryz.ntmps39
    go_wp2_with fail
    rw [← HW.out, ← HA.out]
    go_wp2_with fail
    refine HEQ.out.mono ?_
    rintro e w1 ⟨rfl, k, rfl⟩
    go_wp2_with fail
    refine (tmust_false _ _ _ rfl).mono ?_
    rintro e w2 ⟨rfl, rfl⟩
    unfold gave
    go_wp2
    refine ⟨rfl, below_drewN HJ.out _, ?_⟩
    rw [HR.out]
    rfl
  · have j3 : (a.k == b.k) = false := by simpa using h1
    clear h1
    go_enter Tryz.func39, Tryz.ntmps39
    go_wp2_with fail
    rw [← HW.out, ← HA.out]
    go_wp2_with fail
    refine (tmust_false _ _ _ rfl).mono ?_
    rintro e w2 ⟨rfl, rfl⟩
    unfold gave
    go_wp2
    refine ⟨rfl, HJ.out, ?_⟩
    rw [HR.out]
    rfl

/-- The result begun: its kind and its names. -/
def Outed (W : World) (A : Nat) (K : Int) (ns : List ByteArray) (pv : Value) (wx : World) : Prop :=
  ∃ (O : Nat) (sn : Sl), pv = .pointer (some ⟨O, 0, none⟩) ∧ W.heap.size ≤ O ∧ Below W.heap.size W wx ∧ Blk wx O 36 #[.int .i64 K, sn.val ns.length, .slice none 0 0] ∧
    sn.lies wx 1 ns.length (fun i => [.string (ns.getD i ByteArray.empty)]) ∧ sn.sep (fun b => W.heap.size ≤ b ∧ b ≠ O) ns.length

theorem outed_new {W w3 : World} {A : Nat} {K : Int} {ns : List ByteArray} {sn : Sl} {p6 : Option Addr} {q6 : Nat} (hA : A + 3 ≤ W.heap.size) (hB : Below W.heap.size W w3) (hlie : sn.lies w3 1 ns.length (fun i => [.string (ns.getD i ByteArray.empty)]))
    (hsep : sn.sep (fun b => W.heap.size ≤ b) ns.length) (e6 : sn.val ns.length = .slice p6 ns.length q6) :
    Outed W A K ns (.pointer (some ⟨w3.heap.size, 0, none⟩)) (w3.alloc (.cells #[.int .i64 K, .slice p6 ns.length q6, .slice none 0 0] 36)) := by
  have hz := hB.size
  refine ⟨w3.heap.size, sn, rfl, by omega, hB.alloc hB.size _, by rw [e6]; exact Blk.new w3 36 _, hlie.carry (fun b o hlt => ((Below.refl w3.heap.size w3).alloc (Nat.le_refl _) _).cell (p := ⟨b, o, none⟩) hlt) (by simp), (hsep.and (hlie.sep (by omega))).mono (fun b hb => ⟨hb.1, by have := hb.2; omega⟩)⟩
theorem outed_set {W w3 : World} {A O : Nat} {K : Int} {ns : List ByteArray} {sn : Sl} {p6 : Option Addr} {q6 : Nat} {x0 x1 x2 : Value} (hA : A + 3 ≤ W.heap.size) (hO : W.heap.size ≤ O) (hB : Below W.heap.size W w3) (hb : Blk w3 O 36 #[x0, x1, x2]) (hlie : sn.lies w3 1 ns.length (fun i => [.string (ns.getD i ByteArray.empty)]))
    (hsep : sn.sep (fun b => O + 1 ≤ b) ns.length) (e6 : sn.val ns.length = .slice p6 ns.length q6) :
    Outed W A K ns (.pointer (some ⟨O, 0, none⟩)) (((w3.setCell ⟨O, 0, none⟩ (.int .i64 K)).setCell ⟨O, 1, none⟩ (.slice p6 ns.length q6)).setCell ⟨O, 2, none⟩ (.slice none 0 0)) := by
  refine ⟨O, sn, rfl, by omega, below3_set hB hO _ _ _, by rw [e6]; exact blk3_set hb _ _ _, hlie.carryS hsep (fun b o hb' hlt => ?_) (by simp [World.setCell]), hsep.mono (fun b hb => by omega)⟩
  have hne : ∀ k, (⟨O, k, none⟩ : Addr) ≠ ⟨b, o, none⟩ := fun k e => by injection e with e _; omega
  rw [World.cell?_setCell_other _ _ _ _ (hne 2), World.cell?_setCell_other _ _ _ _ (hne 1), World.cell?_setCell_other _ _ _ _ (hne 0)]

theorem join_end {K : Int} {P : Nat → Prop} {A O : Nat} {w W X wr WF : World} {sn : Sl} {ns : List ByteArray} {us : List Ty} {xv u0 u1 u2 : Value} (hA : A = w.heap.size) (hW : A + 3 ≤ W.heap.size) (hX : Below W.heap.size W X) (hP : ∀ b, P b → b < w.heap.size)
    (hlie : sn.lies X 1 ns.length (fun i => [.string (ns.getD i ByteArray.empty)])) (hsep : sn.sep (fun b => W.heap.size ≤ b ∧ b ≠ O) ns.length) (hOX : Only X wr O) (hWF : WF = ((wr.setCell ⟨A + 1 + 1, 0, none⟩ u0).setCell ⟨A + 1 + 1, 1, none⟩ u1).setCell ⟨A + 1 + 1, 2, none⟩ u2)
    (hg : Rowed tyE P X.heap.size 36 wr us xv) (hk : i64r K) (hn : ns.length ≤ 8796093021952) (hx : us.length ≤ 2513169434843) (hs : ∀ s, s ∈ ns → strok s) :
    ∃ u : Ty, Value.agg #[.int .i64 K, sn.val ns.length, xv] = u.agg ∧ u.erase = .mk K .no ns .no (us.map Ty.erase) ∧ u.In WF ∧ u.Sep (fun b => P b ∨ w.heap.size ≤ b) := by
  have hz := hX.size
  have hg2 : Rowed tyE P X.heap.size 36 WF us xv := by
    rw [hWF]
    exact ((hg.set_ (p := ⟨A + 1 + 1, 0, none⟩) (fun b hb => by have := hP b hb; show b ≠ A + 1 + 1; omega) (by show A + 1 + 1 < _; omega) u0).set_ (p := ⟨A + 1 + 1, 1, none⟩) (fun b hb => by have := hP b hb; show b ≠ A + 1 + 1; omega) (by show A + 1 + 1 < _; omega) u1).set_ (p := ⟨A + 1 + 1, 2, none⟩) (fun b hb => by have := hP b hb; show b ≠ A + 1 + 1; omega) (by show A + 1 + 1 < _; omega) u2
  obtain ⟨sx, hsx, hlx, hspx⟩ := trowLies_of_own hg2.items
  refine ⟨.mk K sn ns sx us, ?_, ?_, ?_, ?_⟩
  · show _ = Value.agg #[.int .i64 K, sn.val ns.length, sx.val us.length]
    rw [← hsx]
  · rw [Ty.erase_eq]
    rfl
  · rw [Ty.in_iff]
    refine ⟨⟨hk, hn, hx, hs⟩, ?_, hlx, fun x hx' => (hg2.each x hx').1⟩
    refine hlie.carryS hsep (fun b o hb hlt => ?_) (by rw [hWF]; simp [World.setCell]; exact hOX.size)
    have hne : ∀ k, (⟨A + 1 + 1, k, none⟩ : Addr) ≠ ⟨b, o, none⟩ := fun k e => by injection e with e _; have := hb.1; omega
    rw [hWF, World.cell?_setCell_other _ _ _ _ (hne 2), World.cell?_setCell_other _ _ _ _ (hne 1), World.cell?_setCell_other _ _ _ _ (hne 0)]
    exact World.cell?_of_block (a := ⟨b, o, none⟩) (hOX.block b hlt (fun e => hb.2 (by injection e)))
  · rw [Ty.sep_iff]
    exact ⟨hsep.mono (fun b hb => .inr (by have := hb.1; omega)), hspx.mono (fun b hb => .inr (by omega)), fun x hx' => (hg2.each x hx').2.mono (fun b hb => by rcases hb.1 with h | h; exact .inl h; exact .inr (by omega))⟩
theorem joinAll_none {xs ys : List Ty} {i : Nat} {J : Option (List Ty)} {f : List Ty → List Ty} (h : J = (Ty.joinAll (xs.drop i) (ys.drop i)).map f) (h1 : i < xs.length) (h2 : i < ys.length) (hx : (xs[i]'h1).joinT (ys[i]'h2) = none) : J = none := by
  rw [h, joinAll_drop h1 h2, hx]
  rfl
theorem joinAll_some {xs ys : List Ty} {i : Nat} {J : Option (List Ty)} {vs : List Ty} {v : Ty} (h : J = (Ty.joinAll (xs.drop i) (ys.drop i)).map (fun r => vs ++ r)) (h1 : i < xs.length) (h2 : i < ys.length) (hx : (xs[i]'h1).joinT (ys[i]'h2) = some v) :
    J = (Ty.joinAll (xs.drop (i + 1)) (ys.drop (i + 1))).map (fun r => (vs ++ [v]) ++ r) := by
  rw [h, joinAll_drop h1 h2, hx]
  cases Ty.joinAll (xs.drop (i + 1)) (ys.drop (i + 1)) <;> simp
theorem tty_facts' : (Tryz.prog.info? 36).map (fun i => (i.zero, i.size, i.bytes)) = some (some (.agg #[.int .i64 0, .slice none 0 0, .slice none 0 0]), 3, 56) := by kernel_rfl

theorem only_grown {c w w' : World} {g : Nat} {row : Option Nat} (h : Only c w g) (hg : w.grownBy w' row) (hr : ∀ k, row = some k → c.heap.size ≤ k) : Only c w' g := by
  refine ⟨hg.os.trans h.os, hg.tape.trans h.tape, hg.output.trans h.output, Nat.le_trans h.size hg.size, fun i hi hne => ?_⟩
  exact (hg.block i (Nat.lt_of_lt_of_le hi h.size) (fun e => by have := hr i e.symm; omega)).trans (h.block i hi hne)

set_option maxHeartbeats 4000000 in
set_option maxRecDepth 100000 in
theorem join_same (d : Nat) (ih : ∀ (a b : Ty) (P : Nat → Prop) (w : World), a.sz ≤ d → (∀ b, P b → b < w.heap.size) → a.In w → b.In w → (∃ n, a.rightB n = true) → (∃ n, b.rightB n = true) → a.Sep P → b.Sep P → Calls Tryz.prog 39 #[a.agg, b.agg] w fun e w' => Joined (a.joinT b) P w e w')
    (a b : Ty) (P : Nat → Prop) (w : World) (hd : a.sz ≤ d + 1) (hP : ∀ b, P b → b < w.heap.size) (ha : a.In w) (hb : b.In w) (hra : ∃ n, a.rightB n = true) (hrb : ∃ n, b.rightB n = true) (hsa : a.Sep P) (hsb : b.Sep P) (hk : a.k ≠ 7) (hk2 : b.k ≠ 7) (hn : a.k = b.k ∧ a.ns = b.ns) :
    Calls Tryz.prog 39 #[a.agg, b.agg] w fun e w' => Joined (a.joinT b) P w e w' := by
  have hlen : b.xs.length = a.xs.length := by
    obtain ⟨n, h1⟩ := hra
    obtain ⟨m, h2⟩ := hrb
    exact (right_same_len h1 h2 hn.1 hn.2).symm
  have hE := Ty.joinT_eq a b
  rw [if_neg hk, if_neg hk2] at hE
  obtain ⟨W, hW⟩ : ∃ W, W = ((w.alloc (.cells #[.int .i64 a.k, a.na.val a.ns.length, a.xa.val a.xs.length] 36)).alloc (.cells #[.int .i64 b.k, b.na.val b.ns.length, b.xa.val b.xs.length] 36)).alloc (.cells #[.int .i64 0, .slice none 0 0, .slice none 0 0] 36) := ⟨_, rfl⟩
  have hj : J0 w W a b #[.int .i64 0, .slice none 0 0, .slice none 0 0] := by rw [hW]; exact j0_start w a b _
  have hIa := ha.below hj.below
  have hIb := hb.below hj.below
  have heq := eqs_any _ _ a.ns b.ns W (TNamesAt.of hIa) (TNamesAt.of hIb) ha.ok.2.1
  obtain ⟨p4, q4, e4⟩ := ha.nslice
  obtain ⟨p5, q5, e5⟩ := ha.xslice
  obtain ⟨r4, t4, g4⟩ := hb.nslice
  obtain ⟨r5, t5, g5⟩ := hb.xslice
  obtain ⟨A, hA⟩ : ∃ A, A = w.heap.size := ⟨_, rfl⟩
  have ba := hj.ba; have bb := hj.bb; have br := hj.br
  rw [← hA] at ba bb br
  rw [e4, e5] at ba
  rw [g4, g5] at bb
  rw [e4, e5, g4, g5] at hW
  rw [e4, g4] at heq
  unfold Ty.agg
  rw [e4, e5, g4, g5]
  have a0 := ba.cell 0; have a1 := ba.cell 1; have a2 := ba.cell 2
  have b0 := bb.cell 0; have b1 := bb.cell 1; have b2 := bb.cell 2
  simp at a0 a1 a2 b0 b1 b2
  have j1 : (a.k == 7) = false := by simpa using hk
  have j2 : (b.k == 7) = false := by simpa using hk2
  have HW := Lib.hid hW; have HA := Lib.hid hA; have HJ := Lib.hid hj.below; have BA := Lib.hid ba; have BB := Lib.hid bb; have BR := Lib.hid br; have HE := Lib.hid hE; have HEQ := Lib.hid heq
  have HIA := Lib.hid hIa; have HIB := Lib.hid hIb; have HSA := Lib.hid hsa; have HSB := Lib.hid hsb
  rw [decide_eq_true hn.2] at HEQ
  rw [if_pos hn] at HE
  obtain ⟨K, hK⟩ : ∃ K, K = b.k := ⟨_, rfl⟩
  have hkk : a.k = K := hn.1.trans hK.symm
  rw [← hK] at b0 j2 HW BB ⊢
  rw [hkk] at a0 j1 HW BA HE ⊢
  rw [← hn.2] at b1 BB HW HEQ ⊢
  have HCL := Lib.hid (fun (W' : World) (hb' : Below W.heap.size W W') => clone_any _ a.ns W' (TNamesAt.of (hIa.below hb')) ha.ok.2.1)
  rw [e4] at HCL
  rw [hlen] at b2 BB HW ⊢
  obtain ⟨px, cx, e5x, hxa⟩ := titems_at hIa
  obtain ⟨py, cy, g5y, hxb⟩ := titems_at hIb
  obtain ⟨rfl, rfl⟩ : p5 = px ∧ q5 = cx := by rw [e5] at e5x; injection e5x with i1 i2 i3; exact ⟨i1, i3⟩
  obtain ⟨rfl, rfl⟩ : r5 = py ∧ t5 = cy := by rw [g5] at g5y; injection g5y with i1 i2 i3; exact ⟨i1, i3⟩
  obtain ⟨M, hM⟩ : ∃ M, M = a.xs.length := ⟨_, rfl⟩
  rw [← hM] at a2 b2 BA BB HW hlen ⊢
  have hMb : M ≤ 2513169434843 := by rw [hM]; exact ha.ok.2.2.1
  obtain ⟨J, hJJ⟩ : ∃ J, J = Ty.joinAll a.xs b.xs := ⟨_, rfl⟩
  rw [← hJJ] at HE
  have HOK := Lib.hid ha.ok; have HM := Lib.hid hM; have HXA := Lib.hid hxa; have HXB := Lib.hid hxb; have HJJ := Lib.hid hJJ; have HPP := Lib.hid hP
  have hKr : i64r K := by rw [← hkk]; exact ha.ok.1
  have HKR := Lib.hid hKr
  obtain ⟨i0, hi0, hz0, hz1, hz2⟩ := info_parts tty_facts'
  have HIH := Lib.hid ih; have HLEN := Lib.hid hlen; have HRA := Lib.hid hra; have HRB := Lib.hid hrb; have HD := Lib.hid hd; have HNS := Lib.hid hn.2
  clear ih hlen hra hrb hd ha e5x g5y hxa hxb hM hJJ hKr hW hA hj ba bb br hE hIa hIb heq e4 e5 g4 g5 hsa hsb hb hk hk2 hn hK hkk
  go_enter Tryz.func39, Tryz.ntmps39
  go_wp2_with fail
  rw [← HW.out, ← HA.out]
  go_wp2_with fail
  refine HEQ.out.mono ?_
  rintro e w1 ⟨rfl, k, rfl⟩
  go_wp2_with fail
  refine (tmust_true _ _ _ rfl).mono ?_
  rintro e w2 ⟨rfl, rfl⟩
  go_upto_region 6 with fail
  go_cut [5] (fun pv wx => Outed W A K a.ns pv wx)
  case first =>
    have KB := Lib.hid (show Below W.heap.size W (W.drewN k) from below_drewN (Below.refl _ W) k)
    obtain ⟨W1, hW1⟩ : ∃ W1, W1 = W.drewN k := ⟨_, rfl⟩
    rw [← hW1] at KB ⊢
    have a0' : W1.cell? ⟨A, 0, none⟩ = some (.int .i64 K) := by rw [hW1]; exact a0
    have a1' : W1.cell? ⟨A, 1, none⟩ = some (.slice p4 a.ns.length q4) := by rw [hW1]; exact a1
    have hz1 : A < W1.heap.size := by rw [hW1]; exact BA.out.lt
    have HBA := Lib.hid (show Blk W1 A 36 #[.int .i64 K, .slice p4 a.ns.length q4, .slice p5 M q5] by rw [hW1]; exact BA.out.drewN k)
    clear hW1 a0 a1 a2 b0 b1 b2
    go_region_law (go_simp; go_at_call 51; refine (HCL.out _ (by first | exact KB.out.drew | exact KB.out.drew.alloc KB.out.size _)).mono ?_; rintro e w3 ⟨sn, rfl, hlie, hsep, hb3⟩; obtain ⟨p6, q6, e6⟩ := hlie.slice; rw [e6]; have hza : Blk w3 A 36 #[.int .i64 K, .slice p4 a.ns.length q4, .slice p5 M q5] := (by first | exact Blk.below (w := W1.drew) HBA.out hb3 (by simp; omega) | exact Blk.below (w := W1.drew.alloc _) (Blk.alloc (w := W1.drew) HBA.out _) hb3 (by simp; omega)); have z0 := hza.cell 0; have z9 := hza.lt; simp at z0; first | (have hO : Blk w3 W1.heap.size 36 #[.int .i64 0, .slice none 0 0, .slice none 0 0] := (Blk.new W1.drew 36 _).below hb3 (by simp); have o0 := hO.cell 0; have o1 := hO.cell 1; have o2 := hO.cell 2; have f0 := hO.frozen 0; have f1 := hO.frozen 1; have f2 := hO.frozen 2; simp at o0 o1 o2) | skip)
    all_goals
      go_wp2
      go_meet
      first
        | exact outed_new (by have := BR.out.lt; omega) (KB.out.drew.trans (hb3.mono KB.out.size)) hlie (hsep.mono (fun b hb => by have := KB.out.size; have : W1.heap.size ≤ b := hb; omega)) e6
        | exact outed_set (O := W1.heap.size) (by have := BR.out.lt; omega) KB.out.size ((KB.out.alloc KB.out.size _).drew.trans (hb3.mono (by have := KB.out.size; simp; omega))) hO hlie (hsep.mono (fun b hb => by simp at hb; exact hb)) e6
  case rest =>
  obtain ⟨O, sn, rfl, hAO, hB6, hbO, hlie, hsep⟩ := hcut
  obtain ⟨p6, q6, e6⟩ := hlie.slice
  rw [e6] at hbO
  have hxA := BA.out.below hB6 BA.out.lt
  have hzW := BR.out.lt
  have hWX := hB6.size
  have a2' := hxA.cell 2
  simp at a2'
  have HLI := Lib.hid hlie; have HSP := Lib.hid hsep; have HB6 := Lib.hid hB6; have HBO := Lib.hid hbO; have E6 := Lib.hid e6
  clear a0 a1 a2 b0 b1 b2 hxA hlie hsep hB6 hbO e6 HCL HEQ
  go_wp2_with fail
  go_loopw [39] (fun iv wr => ∃ (i : Nat) (us : List Ty) (xv : Value), iv = .int .i64 (i : Int) ∧ i ≤ M ∧ Hid (us.length = i) ∧ Hid (J = (Ty.joinAll (a.xs.drop i) (b.xs.drop i)).map (fun r => us.map Ty.erase ++ r)) ∧ Hid (Blk wr O 36 #[.int .i64 K, .slice p6 a.ns.length q6, xv]) ∧
    Hid (Rowed tyE P wc.heap.size 36 wr us xv) ∧ Hid (Only wc wr O)) (fun iv _ => M - (intOf iv).toNat)
  case atStart => exact ⟨0, [], _, rfl, by omega, Lib.hid rfl, Lib.hid (by rw [HJJ.out]; simp), HBO, Lib.hid (rowed_start _), Lib.hid (Only.refl _ _)⟩
  case round =>
    obtain ⟨i, us, xv, rfl, hi, HUL, HR, HO, HG, HOX⟩ := hrel
    clear a2'
    have hOX := HOX.out
    have hOb : wc.heap.size ≤ wr.heap.size := hOX.size
    have hOlt := HO.out.lt
    have hBW : Below W.heap.size W wr := Go.Proofs.YtjpdbhhjlnmacaaGreat.Below.only HB6.out hOX (by omega) HB6.out.size
    have hxA := BA.out.below hBW BA.out.lt
    have hxB := BB.out.below hBW BB.out.lt
    have a2' := hxA.cell 2; have b2' := hxB.cell 2
    have o0 := HO.out.cell 0; have o1 := HO.out.cell 1; have o2 := HO.out.cell 2; have fo2 := HO.out.frozen 2
    simp at a2' b2' o0 o1 o2
    have HBW := Lib.hid hBW
    clear hOX hBW hxA hxB
    by_cases hlt : i < M
    · have hil1 : i < a.xs.length := by rw [← HM.out]; exact hlt
      have hil2 : i < b.xs.length := by rw [HLEN.out]; exact hlt
      obtain ⟨xb, xo, rfl, hpx0, hlc⟩ := HXA.out i hil1
      obtain ⟨yb, yo, rfl, hpy0, hlc2⟩ := HXB.out i hil2
      have hpx := hpx0.below HBW.out
      have hpy := hpy0.below HBW.out
      obtain ⟨x, hx⟩ : ∃ x, x = a.xs[i]'hil1 := ⟨_, rfl⟩
      obtain ⟨y, hy⟩ : ∃ y, y = b.xs[i]'hil2 := ⟨_, rfl⟩
      have hxm : x ∈ a.xs := by rw [hx]; simp
      have hym : y ∈ b.xs := by rw [hy]; simp
      have hxs : x.sz ≤ d := by
        have := Ty.size_mem hxm
        have := HD.out
        omega
      have hrx : ∃ n, x.rightB n = true := by obtain ⟨n, h⟩ := HRA.out; exact right_items h x hxm
      have hry : ∃ n, y.rightB n = true := by obtain ⟨n, h⟩ := HRB.out; exact right_items h y hym
      have hsx : x.Sep P := ((Ty.sep_iff _ _).1 HSA.out).2.2 x hxm
      have hsy : y.Sep P := ((Ty.sep_iff _ _).1 HSB.out).2.2 y hym
      have hnone := fun (h : x.joinT y = none) => joinAll_none HR.out hil1 hil2 (by rw [← hx, ← hy]; exact h)
      have hsome := fun (v : Ty) (h : x.joinT y = some v) => joinAll_some (v := v) HR.out hil1 hil2 (by rw [← hx, ← hy]; exact h)
      rw [← hx] at hpx
      rw [← hy] at hpy
      have u0 := hpx.c0; have u1 := hpx.c1; have u2 := hpx.c2
      have v0 := hpy.c0; have v1 := hpy.c1; have v2 := hpy.c2
      rw [← hx] at hpx0
      rw [← hy] at hpy0
      have hxbW := hpx0.2.1
      have hybW := hpy0.2.1
      have wu0 := hpx0.c0; have wu1 := hpx0.c1; have wu2 := hpx0.c2
      have wv0 := hpy0.c0; have wv1 := hpy0.c1; have wv2 := hpy0.c2
      obtain ⟨k4, l4, f4⟩ := hpx.in.nslice
      obtain ⟨k5, l5, f5⟩ := hpx.in.xslice
      obtain ⟨m4, n4, h4⟩ := hpy.in.nslice
      obtain ⟨m5, n5, h5⟩ := hpy.in.xslice
      rw [f4] at u1 wu1; rw [f5] at u2 wu2; rw [h4] at v1 wv1; rw [h5] at v2 wv2
      have HU0 := Lib.hid wu0; have HU1 := Lib.hid wu1; have HU2 := Lib.hid wu2; have HV0 := Lib.hid wv0; have HV1 := Lib.hid wv1; have HV2 := Lib.hid wv2
      clear wu0 wu1 wu2 wv0 wv1 wv2
      have hPw : ∀ b, P b → b < wr.drew.heap.size := fun b hb => by have := HPP.out b hb; have := HA.out; show b < wr.heap.size; omega
      have hc := HIH.out x y P wr.drew hxs hPw (hpx.in.drewN 1) (hpy.in.drewN 1) hrx hry hsx hsy
      unfold Ty.agg at hc
      rw [f4, f5, h4, h5] at hc
      have hk0 : (0 : Int) ≤ (i : Int) := by omega
      have hk1 : (i : Int) < (M : Int) := by omega
      have hlm : M ≤ q5 := by rw [HM.out]; exact hlc
      have hlm2 : M ≤ t5 := by rw [← HLEN.out]; exact hlc2
      have hbx := hpx.2.1
      have hby := hpy.2.1
      have HC := Lib.hid hc; have HNO := Lib.hid hnone; have HSO := Lib.hid hsome
      clear hc hnone hsome hpx0 hpy0 hpx hpy hx hy hxm hym hxs hrx hry hsx hsy f4 f5 h4 h5 hil1 hil2 hlc hlc2 hPw
      cases hjr : x.joinT y with
      | none =>
        rw [hjr] at HC
        have HF : Hid (J = none) := Lib.hid (HNO.out hjr)
        clear hjr HNO HSO
        have c2 := o2
        go_wp2_with fail
        refine wp_region_held_drew (S := (fun X => X.cell? ⟨O, 2, none⟩ = some xv ∧ X.cell? ⟨A, 2, none⟩ = some (Value.slice (some ⟨xb, xo, none⟩) M q5) ∧ X.cell? ⟨A + 1, 2, none⟩ = some (Value.slice (some ⟨yb, yo, none⟩) M t5) ∧ X.cell? ⟨xb, xo + i * 3, none⟩ = some (.int .i64 x.k) ∧ X.cell? ⟨xb, xo + i * 3 + 1, none⟩ = some (.slice k4 x.ns.length l4) ∧ X.cell? ⟨xb, xo + i * 3 + 2, none⟩ = some (.slice k5 x.xs.length l5) ∧ X.cell? ⟨yb, yo + i * 3, none⟩ = some (.int .i64 y.k) ∧ X.cell? ⟨yb, yo + i * 3 + 1, none⟩ = some (.slice m4 y.ns.length n4) ∧ X.cell? ⟨yb, yo + i * 3 + 2, none⟩ = some (.slice m5 y.xs.length n5))) (by kernel_rfl) (⟨c2, a2', b2', u0, u1, u2, v0, v1, v2⟩) (fun hHeld => ?_)
        refine held_take (i := 0) (d := some 42) (v := ?_) rfl rfl (by kernel_rfl) (by kernel_rfl) (by kernel_rfl) (fun _ _ _ h => h) (by rfl) ?_ hHeld ?_
        rotate_left
        · (intro w hSw; (try dsimp only at hSw); obtain ⟨hS1, hS2, hS3, hS4, hS5, hS6, hS7, hS8, hS9⟩ := hSw; go_simp; try with_reducible rfl)
        try simp only [Act.put, List.setIfInBounds_toArray, List.set_cons_zero, List.set_cons_succ]
        refine held_take (i := 1) (d := some 43) (v := ?_) rfl rfl (by kernel_rfl) (by kernel_rfl) (by kernel_rfl) (fun _ _ _ h => h) (by rfl) ?_ hHeld ?_
        rotate_left
        · (intro w hSw; (try dsimp only at hSw); obtain ⟨hS1, hS2, hS3, hS4, hS5, hS6, hS7, hS8, hS9⟩ := hSw; go_simp; try with_reducible rfl)
        try simp only [Act.put, List.setIfInBounds_toArray, List.set_cons_zero, List.set_cons_succ]
        refine held_take (i := 2) (d := some 44) (v := ?_) rfl rfl (by kernel_rfl) (by kernel_rfl) (by kernel_rfl) (fun _ _ _ h => h) (by rfl) ?_ hHeld ?_
        rotate_left
        · (intro w hSw; (try dsimp only at hSw); obtain ⟨hS1, hS2, hS3, hS4, hS5, hS6, hS7, hS8, hS9⟩ := hSw; go_simp; try with_reducible rfl)
        try simp only [Act.put, List.setIfInBounds_toArray, List.set_cons_zero, List.set_cons_succ]
        refine held_take (i := 3) (d := some 45) (v := ?_) rfl rfl (by kernel_rfl) (by kernel_rfl) (by kernel_rfl) (fun _ _ _ h => h) (by rfl) ?_ hHeld ?_
        rotate_left
        · (intro w hSw; (try dsimp only at hSw); obtain ⟨hS1, hS2, hS3, hS4, hS5, hS6, hS7, hS8, hS9⟩ := hSw; go_simp; try with_reducible rfl)
        try simp only [Act.put, List.setIfInBounds_toArray, List.set_cons_zero, List.set_cons_succ]
        refine held_take (i := 4) (d := some 46) (v := ?_) rfl rfl (by kernel_rfl) (by kernel_rfl) (by kernel_rfl) (fun _ _ _ h => h) (by rfl) ?_ hHeld ?_
        rotate_left
        · (intro w hSw; (try dsimp only at hSw); obtain ⟨hS1, hS2, hS3, hS4, hS5, hS6, hS7, hS8, hS9⟩ := hSw; go_simp; try with_reducible rfl)
        try simp only [Act.put, List.setIfInBounds_toArray, List.set_cons_zero, List.set_cons_succ]
        refine held_take (i := 5) (d := some 47) (v := ?_) rfl rfl (by kernel_rfl) (by kernel_rfl) (by kernel_rfl) (fun _ _ _ h => h) (by rfl) ?_ hHeld ?_
        rotate_left
        · (intro w hSw; (try dsimp only at hSw); obtain ⟨hS1, hS2, hS3, hS4, hS5, hS6, hS7, hS8, hS9⟩ := hSw; go_simp; try with_reducible rfl)
        try simp only [Act.put, List.setIfInBounds_toArray, List.set_cons_zero, List.set_cons_succ]
        refine held_take (i := 6) (d := some 48) (v := ?_) rfl rfl (by kernel_rfl) (by kernel_rfl) (by kernel_rfl) (fun _ _ _ h => h) (by rfl) ?_ hHeld ?_
        rotate_left
        · (intro w hSw; (try dsimp only at hSw); obtain ⟨hS1, hS2, hS3, hS4, hS5, hS6, hS7, hS8, hS9⟩ := hSw; go_simp; try with_reducible rfl)
        try simp only [Act.put, List.setIfInBounds_toArray, List.set_cons_zero, List.set_cons_succ]
        refine held_take (i := 7) (d := some 49) (v := ?_) rfl rfl (by kernel_rfl) (by kernel_rfl) (by kernel_rfl) (fun _ _ _ h => h) (by rfl) ?_ hHeld ?_
        rotate_left
        · (intro w hSw; (try dsimp only at hSw); obtain ⟨hS1, hS2, hS3, hS4, hS5, hS6, hS7, hS8, hS9⟩ := hSw; go_simp; try with_reducible rfl)
        try simp only [Act.put, List.setIfInBounds_toArray, List.set_cons_zero, List.set_cons_succ]
        refine held_take (i := 8) (d := some 50) (v := ?_) rfl rfl (by kernel_rfl) (by kernel_rfl) (by kernel_rfl) (fun _ _ _ h => h) (by rfl) ?_ hHeld ?_
        rotate_left
        · (intro w hSw; (try dsimp only at hSw); obtain ⟨hS1, hS2, hS3, hS4, hS5, hS6, hS7, hS8, hS9⟩ := hSw; go_simp; try with_reducible rfl)
        try simp only [Act.put, List.setIfInBounds_toArray, List.set_cons_zero, List.set_cons_succ]
        refine held_take (i := 9) (d := some 51) (v := ?_) rfl rfl (by kernel_rfl) (by kernel_rfl) (by kernel_rfl) (fun _ _ _ h => h) (by rfl) ?_ hHeld ?_
        rotate_left
        · (intro w hSw; (try dsimp only at hSw); obtain ⟨hS1, hS2, hS3, hS4, hS5, hS6, hS7, hS8, hS9⟩ := hSw; go_simp; try with_reducible rfl)
        try simp only [Act.put, List.setIfInBounds_toArray, List.set_cons_zero, List.set_cons_succ]
        refine held_take (i := 10) (d := some 52) (v := ?_) rfl rfl (by kernel_rfl) (by kernel_rfl) (by kernel_rfl) (fun _ _ _ h => h) (by rfl) ?_ hHeld ?_
        rotate_left
        · (intro w hSw; (try dsimp only at hSw); obtain ⟨hS1, hS2, hS3, hS4, hS5, hS6, hS7, hS8, hS9⟩ := hSw; go_simp; try with_reducible rfl)
        try simp only [Act.put, List.setIfInBounds_toArray, List.set_cons_zero, List.set_cons_succ]
        refine held_take (i := 11) (d := some 53) (v := ?_) rfl rfl (by kernel_rfl) (by kernel_rfl) (by kernel_rfl) (fun _ _ _ h => h) (by rfl) ?_ hHeld ?_
        rotate_left
        · (intro w hSw; (try dsimp only at hSw); obtain ⟨hS1, hS2, hS3, hS4, hS5, hS6, hS7, hS8, hS9⟩ := hSw; go_simp; try with_reducible rfl)
        try simp only [Act.put, List.setIfInBounds_toArray, List.set_cons_zero, List.set_cons_succ]
        refine held_only (i := 12) (by kernel_rfl) rfl (by rfl) (fun K hK => ?_)
        go_simp
        go_at_call 39
        refine HC.out.mono ?_
        rintro e w6 ⟨hb6, rfl⟩
        have hB := HBW.out.drew.trans (hb6.mono HBW.out.size)
        have hz0 := HJ.out.size
        unfold gave
        go_wp2
        refine ⟨rfl, HJ.out.trans (hB.mono hz0), ?_⟩
        rw [HE.out, HF.out]
        rfl
      | some v =>
        rw [hjr] at HC
        have HR2 := Lib.hid (HSO.out v hjr)
        clear hjr HNO HSO
        obtain ⟨ax, cx, hxv⟩ := HG.out.form
        subst hxv
        have hul : us.length ≤ M := by rw [HUL.out]; exact hi
        have HZX := Lib.hid (fun b (hb : (Value.slice ax us.length cx).ownBlock = some b) => (HG.out.items.lt b hb).2)
        have HA2 : Hid (W.cell? ⟨A, 2, none⟩ = some (.slice (some ⟨xb, xo, none⟩) M q5)) := Lib.hid (by have := BA.out.cell 2; simpa using this)
        have HB2 : Hid (W.cell? ⟨A + 1, 2, none⟩ = some (.slice (some ⟨yb, yo, none⟩) M t5)) := Lib.hid (by have := BB.out.cell 2; simpa using this)
        have hAlt := BA.out.lt
        have hA1lt := BB.out.lt
        have hWO : W.heap.size ≤ O := hAO
        have hPW : ∀ b, P b → b < wc.heap.size := fun b hb => by have := HPP.out b hb; have := HA.out; omega
        clear hlt
        go_wp2_with fail
        refine wp_region_held_drew (S := (fun X => Below W.heap.size W X)) (by kernel_rfl) (HBW.out.drew) (fun hHeld => ?_)
        refine held_take (i := 0) (d := some 42) (v := ?_) rfl rfl (by kernel_rfl) (by kernel_rfl) (by kernel_rfl) (fun _ _ _ h => h) (by rfl) ?_ hHeld ?_
        rotate_left
        · (intro w hSw; (try dsimp only at hSw); have hS2 := (hSw.cell (p := ⟨A, 2, none⟩) hAlt).trans HA2.out; have hS3 := (hSw.cell (p := ⟨A + 1, 2, none⟩) hA1lt).trans HB2.out; have hS4 := (hSw.cell (p := ⟨xb, xo + i * 3, none⟩) hxbW).trans HU0.out; have hS5 := (hSw.cell (p := ⟨xb, xo + i * 3 + 1, none⟩) hxbW).trans HU1.out; have hS6 := (hSw.cell (p := ⟨xb, xo + i * 3 + 2, none⟩) hxbW).trans HU2.out; have hS7 := (hSw.cell (p := ⟨yb, yo + i * 3, none⟩) hybW).trans HV0.out; have hS8 := (hSw.cell (p := ⟨yb, yo + i * 3 + 1, none⟩) hybW).trans HV1.out; have hS9 := (hSw.cell (p := ⟨yb, yo + i * 3 + 2, none⟩) hybW).trans HV2.out; go_simp; try with_reducible rfl)
        try simp only [Act.put, List.setIfInBounds_toArray, List.set_cons_zero, List.set_cons_succ]
        refine held_take (i := 2) (d := some 44) (v := ?_) rfl rfl (by kernel_rfl) (by kernel_rfl) (by kernel_rfl) (fun _ _ _ h => h) (by rfl) ?_ hHeld ?_
        rotate_left
        · (intro w hSw; (try dsimp only at hSw); have hS2 := (hSw.cell (p := ⟨A, 2, none⟩) hAlt).trans HA2.out; have hS3 := (hSw.cell (p := ⟨A + 1, 2, none⟩) hA1lt).trans HB2.out; have hS4 := (hSw.cell (p := ⟨xb, xo + i * 3, none⟩) hxbW).trans HU0.out; have hS5 := (hSw.cell (p := ⟨xb, xo + i * 3 + 1, none⟩) hxbW).trans HU1.out; have hS6 := (hSw.cell (p := ⟨xb, xo + i * 3 + 2, none⟩) hxbW).trans HU2.out; have hS7 := (hSw.cell (p := ⟨yb, yo + i * 3, none⟩) hybW).trans HV0.out; have hS8 := (hSw.cell (p := ⟨yb, yo + i * 3 + 1, none⟩) hybW).trans HV1.out; have hS9 := (hSw.cell (p := ⟨yb, yo + i * 3 + 2, none⟩) hybW).trans HV2.out; go_simp; try with_reducible rfl)
        try simp only [Act.put, List.setIfInBounds_toArray, List.set_cons_zero, List.set_cons_succ]
        refine held_take (i := 3) (d := some 45) (v := ?_) rfl rfl (by kernel_rfl) (by kernel_rfl) (by kernel_rfl) (fun _ _ _ h => h) (by rfl) ?_ hHeld ?_
        rotate_left
        · (intro w hSw; (try dsimp only at hSw); have hS2 := (hSw.cell (p := ⟨A, 2, none⟩) hAlt).trans HA2.out; have hS3 := (hSw.cell (p := ⟨A + 1, 2, none⟩) hA1lt).trans HB2.out; have hS4 := (hSw.cell (p := ⟨xb, xo + i * 3, none⟩) hxbW).trans HU0.out; have hS5 := (hSw.cell (p := ⟨xb, xo + i * 3 + 1, none⟩) hxbW).trans HU1.out; have hS6 := (hSw.cell (p := ⟨xb, xo + i * 3 + 2, none⟩) hxbW).trans HU2.out; have hS7 := (hSw.cell (p := ⟨yb, yo + i * 3, none⟩) hybW).trans HV0.out; have hS8 := (hSw.cell (p := ⟨yb, yo + i * 3 + 1, none⟩) hybW).trans HV1.out; have hS9 := (hSw.cell (p := ⟨yb, yo + i * 3 + 2, none⟩) hybW).trans HV2.out; go_simp; try with_reducible rfl)
        try simp only [Act.put, List.setIfInBounds_toArray, List.set_cons_zero, List.set_cons_succ]
        refine held_take (i := 4) (d := some 46) (v := ?_) rfl rfl (by kernel_rfl) (by kernel_rfl) (by kernel_rfl) (fun _ _ _ h => h) (by rfl) ?_ hHeld ?_
        rotate_left
        · (intro w hSw; (try dsimp only at hSw); have hS2 := (hSw.cell (p := ⟨A, 2, none⟩) hAlt).trans HA2.out; have hS3 := (hSw.cell (p := ⟨A + 1, 2, none⟩) hA1lt).trans HB2.out; have hS4 := (hSw.cell (p := ⟨xb, xo + i * 3, none⟩) hxbW).trans HU0.out; have hS5 := (hSw.cell (p := ⟨xb, xo + i * 3 + 1, none⟩) hxbW).trans HU1.out; have hS6 := (hSw.cell (p := ⟨xb, xo + i * 3 + 2, none⟩) hxbW).trans HU2.out; have hS7 := (hSw.cell (p := ⟨yb, yo + i * 3, none⟩) hybW).trans HV0.out; have hS8 := (hSw.cell (p := ⟨yb, yo + i * 3 + 1, none⟩) hybW).trans HV1.out; have hS9 := (hSw.cell (p := ⟨yb, yo + i * 3 + 2, none⟩) hybW).trans HV2.out; go_simp; try with_reducible rfl)
        try simp only [Act.put, List.setIfInBounds_toArray, List.set_cons_zero, List.set_cons_succ]
        refine held_take (i := 5) (d := some 47) (v := ?_) rfl rfl (by kernel_rfl) (by kernel_rfl) (by kernel_rfl) (fun _ _ _ h => h) (by rfl) ?_ hHeld ?_
        rotate_left
        · (intro w hSw; (try dsimp only at hSw); have hS2 := (hSw.cell (p := ⟨A, 2, none⟩) hAlt).trans HA2.out; have hS3 := (hSw.cell (p := ⟨A + 1, 2, none⟩) hA1lt).trans HB2.out; have hS4 := (hSw.cell (p := ⟨xb, xo + i * 3, none⟩) hxbW).trans HU0.out; have hS5 := (hSw.cell (p := ⟨xb, xo + i * 3 + 1, none⟩) hxbW).trans HU1.out; have hS6 := (hSw.cell (p := ⟨xb, xo + i * 3 + 2, none⟩) hxbW).trans HU2.out; have hS7 := (hSw.cell (p := ⟨yb, yo + i * 3, none⟩) hybW).trans HV0.out; have hS8 := (hSw.cell (p := ⟨yb, yo + i * 3 + 1, none⟩) hybW).trans HV1.out; have hS9 := (hSw.cell (p := ⟨yb, yo + i * 3 + 2, none⟩) hybW).trans HV2.out; go_simp; try with_reducible rfl)
        try simp only [Act.put, List.setIfInBounds_toArray, List.set_cons_zero, List.set_cons_succ]
        refine held_take (i := 6) (d := some 48) (v := ?_) rfl rfl (by kernel_rfl) (by kernel_rfl) (by kernel_rfl) (fun _ _ _ h => h) (by rfl) ?_ hHeld ?_
        rotate_left
        · (intro w hSw; (try dsimp only at hSw); have hS2 := (hSw.cell (p := ⟨A, 2, none⟩) hAlt).trans HA2.out; have hS3 := (hSw.cell (p := ⟨A + 1, 2, none⟩) hA1lt).trans HB2.out; have hS4 := (hSw.cell (p := ⟨xb, xo + i * 3, none⟩) hxbW).trans HU0.out; have hS5 := (hSw.cell (p := ⟨xb, xo + i * 3 + 1, none⟩) hxbW).trans HU1.out; have hS6 := (hSw.cell (p := ⟨xb, xo + i * 3 + 2, none⟩) hxbW).trans HU2.out; have hS7 := (hSw.cell (p := ⟨yb, yo + i * 3, none⟩) hybW).trans HV0.out; have hS8 := (hSw.cell (p := ⟨yb, yo + i * 3 + 1, none⟩) hybW).trans HV1.out; have hS9 := (hSw.cell (p := ⟨yb, yo + i * 3 + 2, none⟩) hybW).trans HV2.out; go_simp; try with_reducible rfl)
        try simp only [Act.put, List.setIfInBounds_toArray, List.set_cons_zero, List.set_cons_succ]
        refine held_take (i := 7) (d := some 49) (v := ?_) rfl rfl (by kernel_rfl) (by kernel_rfl) (by kernel_rfl) (fun _ _ _ h => h) (by rfl) ?_ hHeld ?_
        rotate_left
        · (intro w hSw; (try dsimp only at hSw); have hS2 := (hSw.cell (p := ⟨A, 2, none⟩) hAlt).trans HA2.out; have hS3 := (hSw.cell (p := ⟨A + 1, 2, none⟩) hA1lt).trans HB2.out; have hS4 := (hSw.cell (p := ⟨xb, xo + i * 3, none⟩) hxbW).trans HU0.out; have hS5 := (hSw.cell (p := ⟨xb, xo + i * 3 + 1, none⟩) hxbW).trans HU1.out; have hS6 := (hSw.cell (p := ⟨xb, xo + i * 3 + 2, none⟩) hxbW).trans HU2.out; have hS7 := (hSw.cell (p := ⟨yb, yo + i * 3, none⟩) hybW).trans HV0.out; have hS8 := (hSw.cell (p := ⟨yb, yo + i * 3 + 1, none⟩) hybW).trans HV1.out; have hS9 := (hSw.cell (p := ⟨yb, yo + i * 3 + 2, none⟩) hybW).trans HV2.out; go_simp; try with_reducible rfl)
        try simp only [Act.put, List.setIfInBounds_toArray, List.set_cons_zero, List.set_cons_succ]
        refine held_take (i := 8) (d := some 50) (v := ?_) rfl rfl (by kernel_rfl) (by kernel_rfl) (by kernel_rfl) (fun _ _ _ h => h) (by rfl) ?_ hHeld ?_
        rotate_left
        · (intro w hSw; (try dsimp only at hSw); have hS2 := (hSw.cell (p := ⟨A, 2, none⟩) hAlt).trans HA2.out; have hS3 := (hSw.cell (p := ⟨A + 1, 2, none⟩) hA1lt).trans HB2.out; have hS4 := (hSw.cell (p := ⟨xb, xo + i * 3, none⟩) hxbW).trans HU0.out; have hS5 := (hSw.cell (p := ⟨xb, xo + i * 3 + 1, none⟩) hxbW).trans HU1.out; have hS6 := (hSw.cell (p := ⟨xb, xo + i * 3 + 2, none⟩) hxbW).trans HU2.out; have hS7 := (hSw.cell (p := ⟨yb, yo + i * 3, none⟩) hybW).trans HV0.out; have hS8 := (hSw.cell (p := ⟨yb, yo + i * 3 + 1, none⟩) hybW).trans HV1.out; have hS9 := (hSw.cell (p := ⟨yb, yo + i * 3 + 2, none⟩) hybW).trans HV2.out; go_simp; try with_reducible rfl)
        try simp only [Act.put, List.setIfInBounds_toArray, List.set_cons_zero, List.set_cons_succ]
        refine held_take (i := 9) (d := some 51) (v := ?_) rfl rfl (by kernel_rfl) (by kernel_rfl) (by kernel_rfl) (fun _ _ _ h => h) (by rfl) ?_ hHeld ?_
        rotate_left
        · (intro w hSw; (try dsimp only at hSw); have hS2 := (hSw.cell (p := ⟨A, 2, none⟩) hAlt).trans HA2.out; have hS3 := (hSw.cell (p := ⟨A + 1, 2, none⟩) hA1lt).trans HB2.out; have hS4 := (hSw.cell (p := ⟨xb, xo + i * 3, none⟩) hxbW).trans HU0.out; have hS5 := (hSw.cell (p := ⟨xb, xo + i * 3 + 1, none⟩) hxbW).trans HU1.out; have hS6 := (hSw.cell (p := ⟨xb, xo + i * 3 + 2, none⟩) hxbW).trans HU2.out; have hS7 := (hSw.cell (p := ⟨yb, yo + i * 3, none⟩) hybW).trans HV0.out; have hS8 := (hSw.cell (p := ⟨yb, yo + i * 3 + 1, none⟩) hybW).trans HV1.out; have hS9 := (hSw.cell (p := ⟨yb, yo + i * 3 + 2, none⟩) hybW).trans HV2.out; go_simp; try with_reducible rfl)
        try simp only [Act.put, List.setIfInBounds_toArray, List.set_cons_zero, List.set_cons_succ]
        refine held_take (i := 10) (d := some 52) (v := ?_) rfl rfl (by kernel_rfl) (by kernel_rfl) (by kernel_rfl) (fun _ _ _ h => h) (by rfl) ?_ hHeld ?_
        rotate_left
        · (intro w hSw; (try dsimp only at hSw); have hS2 := (hSw.cell (p := ⟨A, 2, none⟩) hAlt).trans HA2.out; have hS3 := (hSw.cell (p := ⟨A + 1, 2, none⟩) hA1lt).trans HB2.out; have hS4 := (hSw.cell (p := ⟨xb, xo + i * 3, none⟩) hxbW).trans HU0.out; have hS5 := (hSw.cell (p := ⟨xb, xo + i * 3 + 1, none⟩) hxbW).trans HU1.out; have hS6 := (hSw.cell (p := ⟨xb, xo + i * 3 + 2, none⟩) hxbW).trans HU2.out; have hS7 := (hSw.cell (p := ⟨yb, yo + i * 3, none⟩) hybW).trans HV0.out; have hS8 := (hSw.cell (p := ⟨yb, yo + i * 3 + 1, none⟩) hybW).trans HV1.out; have hS9 := (hSw.cell (p := ⟨yb, yo + i * 3 + 2, none⟩) hybW).trans HV2.out; go_simp; try with_reducible rfl)
        try simp only [Act.put, List.setIfInBounds_toArray, List.set_cons_zero, List.set_cons_succ]
        refine held_take (i := 11) (d := some 53) (v := ?_) rfl rfl (by kernel_rfl) (by kernel_rfl) (by kernel_rfl) (fun _ _ _ h => h) (by rfl) ?_ hHeld ?_
        rotate_left
        · (intro w hSw; (try dsimp only at hSw); have hS2 := (hSw.cell (p := ⟨A, 2, none⟩) hAlt).trans HA2.out; have hS3 := (hSw.cell (p := ⟨A + 1, 2, none⟩) hA1lt).trans HB2.out; have hS4 := (hSw.cell (p := ⟨xb, xo + i * 3, none⟩) hxbW).trans HU0.out; have hS5 := (hSw.cell (p := ⟨xb, xo + i * 3 + 1, none⟩) hxbW).trans HU1.out; have hS6 := (hSw.cell (p := ⟨xb, xo + i * 3 + 2, none⟩) hxbW).trans HU2.out; have hS7 := (hSw.cell (p := ⟨yb, yo + i * 3, none⟩) hybW).trans HV0.out; have hS8 := (hSw.cell (p := ⟨yb, yo + i * 3 + 1, none⟩) hybW).trans HV1.out; have hS9 := (hSw.cell (p := ⟨yb, yo + i * 3 + 2, none⟩) hybW).trans HV2.out; go_simp; try with_reducible rfl)
        try simp only [Act.put, List.setIfInBounds_toArray, List.set_cons_zero, List.set_cons_succ]
        refine held_two (i := 1) (j := 12) (by kernel_rfl) rfl rfl (by rfl) (by rfl) (fun K hK => ?_) (fun K hK => ?_)
        · go_simp
          refine hK.out _ _ HBW.out.drew (fun hHeld => ?_)
          clear hK K
          try simp only [Act.put, List.setIfInBounds_toArray, List.set_cons_zero, List.set_cons_succ]
          refine held_only (i := 12) (by kernel_rfl) rfl (by rfl) (fun K hK => ?_)
          go_simp
          go_at_call 39
          refine HC.out.mono ?_
          rintro e w6 ⟨hb6, u, rfl, hue, hui, hus⟩
          obtain ⟨a4, b4, k4⟩ := hui.nslice
          obtain ⟨a5, b5, k5⟩ := hui.xslice
          unfold Ty.agg
          rw [k4, k5]
          have hb6' : Below wr.heap.size wr w6 := (Below.refl wr.heap.size wr).drew.trans hb6
          have hz6 := hb6'.size
          have hbo6 := HO.out.below hb6' hOlt
          have hg6 := HG.out.below hb6'
          have hox6 := HOX.out.trans (Only.of_below hb6' O)
          have c6 := hbo6.cell 2
          have v6 := hbo6.lt
          simp at c6
          have hred : Reads (w6.alloc (.cells #[.int .i64 u.k, .slice a4 u.ns.length b4, .slice a5 u.xs.length b5] 36)) (w6.heap.size + 1) 3 (some ⟨w6.heap.size, 0, none⟩) 1 u.cells := by
            unfold Ty.cells; rw [k4, k5]; exact row_reads w6 _ 36
          have hown6 := hg6.items.alloc (.cells #[.int .i64 u.k, .slice a4 u.ns.length b4, .slice a5 u.xs.length b5] 36)
          have hbw6 := HBW.out.trans (hb6'.mono HBW.out.size)
          have HBO6 := Lib.hid hbo6; have HG6 := Lib.hid hg6; have HRED := Lib.hid hred; have HOWN6 := Lib.hid hown6; have HUI := Lib.hid hui; have HUS := Lib.hid hus; have HUE := Lib.hid hue; have HOX6 := Lib.hid hox6; have HBW6 := Lib.hid hbw6
          clear hb6 hb6' hbo6 hg6 hred hown6 hui hus hue hox6 hbw6 k4 k5
          refine hK.out _ _ HBW6.out (fun hHeld => ?_)
          clear hK K
          try simp only [Act.put, List.setIfInBounds_toArray, List.set_cons_zero, List.set_cons_succ]
          refine held_only (i := 13) (by kernel_rfl) rfl (by rfl) (fun K hK => ?_)
          go_simp
          refine hK.out _ _ (HBW6.out.alloc HBW6.out.size _) (fun hHeld => ?_)
          clear hK K
          try simp only [Act.put, List.setIfInBounds_toArray, List.set_cons_zero, List.set_cons_succ]
          refine held_only (i := 14) (by kernel_rfl) rfl (by rfl) (fun K hK => ?_)
          refine wp_append_any (w6.alloc (.cells #[.int .i64 u.k, .slice a4 u.ns.length b4, .slice a5 u.xs.length b5] 36)) (.tmp 43) (.tmp 55) 34 rfl wc.heap.size 36 i0 (.agg #[.int .i64 0, .slice none 0 0, .slice none 0 0]) 3 56 Tryz.underlying34 hi0 hz0 hz1 hz2 rfl (by decide) (.slice ax us.length cx) us.length (tyE.row us) rfl HOWN6.out (w6.heap.size + 1) (some ⟨w6.heap.size, 0, none⟩) 1 1 u.cells rfl HRED.out (tyE.one u) (by unfold maxLen; omega) (by omega) (by simp; omega) ?_
          intro v' w8 hown' hgrow hor
          have hg8 := Rowed.item (Rowed.below HG6.out ((Below.refl _ w6).alloc (Nat.le_refl _) (.cells #[.int .i64 u.k, .slice a4 u.ns.length b4, .slice a5 u.xs.length b5] 36))) hPW (by simp; omega) (HUI.out.below ((Below.refl _ w6).alloc (Nat.le_refl _) (.cells #[.int .i64 u.k, .slice a4 u.ns.length b4, .slice a5 u.xs.length b5] 36))) HUS.out hOb HZX.out hown' hgrow hor
          have hne8 : some O ≠ (Value.slice ax us.length cx).ownBlock := fun e => by have := own_ge HG.out.items e.symm; have := HBO.out.lt; omega
          have hb8 := Blk.grown (HBO6.out.alloc (.cells #[.int .i64 u.k, .slice a4 u.ns.length b4, .slice a5 u.xs.length b5] 36)) hgrow hne8
          have hox8 := only_grown (HOX6.out.alloc (.cells #[.int .i64 u.k, .slice a4 u.ns.length b4, .slice a5 u.xs.length b5] 36)) hgrow (fun k hk => own_ge HG6.out.items hk)
          have hbw8 := (HBW6.out.alloc HBW6.out.size (.cells #[.int .i64 u.k, .slice a4 u.ns.length b4, .slice a5 u.xs.length b5] 36)).grown hgrow (by have := HBW6.out.size; simp; omega) (fun k hk => by have := own_ge HG6.out.items hk; have := HB6.out.size; omega)
          obtain ⟨ax', cx', rfl⟩ := row_form hown'
          have c8 := hb8.cell 2
          have f8 := hb8.frozen 2
          have v8 := hb8.lt
          simp at c8
          have HG8 := Lib.hid hg8; have HB8 := Lib.hid hb8; have HOX8 := Lib.hid hox8; have HBW8 := Lib.hid hbw8
          clear hg8 hb8 hox8 hbw8 hown' hgrow hor hne8
          refine hK.out _ _ HBW8.out (fun hHeld => ?_)
          clear hK K
          try simp only [Act.put, List.setIfInBounds_toArray, List.set_cons_zero, List.set_cons_succ]
          refine held_take (i := 15) (d := some 57) (v := ?_) rfl rfl (by kernel_rfl) (by kernel_rfl) (by kernel_rfl) (fun _ _ _ h => h) (by rfl) ?_ hHeld ?_
          rotate_left
          · (intro w hSw; (try dsimp only at hSw); go_simp; try with_reducible rfl)
          try simp only [Act.put, List.setIfInBounds_toArray, List.set_cons_zero, List.set_cons_succ]
          refine held_only (i := 16) (by kernel_rfl) rfl (by rfl) (fun K hK => ?_)
          go_simp
          refine hK.out _ _ (HBW8.out.setCell (p := ⟨O, 2, none⟩) hWO _) (fun hHeld => ?_)
          clear hK K
          try simp only [Act.put, List.setIfInBounds_toArray, List.set_cons_zero, List.set_cons_succ]
          refine wpAnyH_done (by kernel_rfl) ?_ _
          have HB9 := Lib.hid (HB8.out.set_ 2 (.slice ax' (us.length + 1) cx'))
          have HG9 := Lib.hid (HG8.out.set_ (p := ⟨O, 2, none⟩) (fun b hb => by have := HPP.out b hb; have := HA.out; show b ≠ O; omega) (by have := HBO.out.lt; exact this) (.slice ax' (us.length + 1) cx'))
          have HOX9 := Lib.hid (HOX8.out.set_ (p := ⟨O, 2, none⟩) (.inl rfl) (.slice ax' (us.length + 1) cx'))
          go_wp2
          go_roundw
          case rel => exact ⟨i + 1, us ++ [u], _, by go_num, by omega, Lib.hid (by simp [HUL.out]), Lib.hid (by rw [List.map_append, List.map_cons, List.map_nil, HUE.out]; exact HR2.out), by simpa using HB9, by simpa using HG9, by simpa using HOX9⟩
          case measure => simp [intOf]; omega
        · go_simp
          go_at_call 39
          refine HC.out.mono ?_
          rintro e w6 ⟨hb6, u, rfl, hue, hui, hus⟩
          obtain ⟨a4, b4, k4⟩ := hui.nslice
          obtain ⟨a5, b5, k5⟩ := hui.xslice
          unfold Ty.agg
          rw [k4, k5]
          have hb6' : Below wr.heap.size wr w6 := (Below.refl wr.heap.size wr).drew.trans hb6
          have hz6 := hb6'.size
          have hbo6 := HO.out.below hb6' hOlt
          have hg6 := HG.out.below hb6'
          have hox6 := HOX.out.trans (Only.of_below hb6' O)
          have c6 := hbo6.cell 2
          have v6 := hbo6.lt
          simp at c6
          have hred : Reads (w6.alloc (.cells #[.int .i64 u.k, .slice a4 u.ns.length b4, .slice a5 u.xs.length b5] 36)) (w6.heap.size + 1) 3 (some ⟨w6.heap.size, 0, none⟩) 1 u.cells := by
            unfold Ty.cells; rw [k4, k5]; exact row_reads w6 _ 36
          have hown6 := hg6.items.alloc (.cells #[.int .i64 u.k, .slice a4 u.ns.length b4, .slice a5 u.xs.length b5] 36)
          have hbw6 := HBW.out.trans (hb6'.mono HBW.out.size)
          have HBO6 := Lib.hid hbo6; have HG6 := Lib.hid hg6; have HRED := Lib.hid hred; have HOWN6 := Lib.hid hown6; have HUI := Lib.hid hui; have HUS := Lib.hid hus; have HUE := Lib.hid hue; have HOX6 := Lib.hid hox6; have HBW6 := Lib.hid hbw6
          clear hb6 hb6' hbo6 hg6 hred hown6 hui hus hue hox6 hbw6 k4 k5
          refine hK.out _ _ HBW6.out (fun hHeld => ?_)
          clear hK K
          try simp only [Act.put, List.setIfInBounds_toArray, List.set_cons_zero, List.set_cons_succ]
          refine held_two (i := 1) (j := 13) (by kernel_rfl) rfl rfl (by rfl) (by rfl) (fun K hK => ?_) (fun K hK => ?_)
          · go_simp
            refine hK.out _ _ HBW6.out (fun hHeld => ?_)
            clear hK K
            try simp only [Act.put, List.setIfInBounds_toArray, List.set_cons_zero, List.set_cons_succ]
            refine held_only (i := 13) (by kernel_rfl) rfl (by rfl) (fun K hK => ?_)
            go_simp
            refine hK.out _ _ (HBW6.out.alloc HBW6.out.size _) (fun hHeld => ?_)
            clear hK K
            try simp only [Act.put, List.setIfInBounds_toArray, List.set_cons_zero, List.set_cons_succ]
            refine held_only (i := 14) (by kernel_rfl) rfl (by rfl) (fun K hK => ?_)
            refine wp_append_any (w6.alloc (.cells #[.int .i64 u.k, .slice a4 u.ns.length b4, .slice a5 u.xs.length b5] 36)) (.tmp 43) (.tmp 55) 34 rfl wc.heap.size 36 i0 (.agg #[.int .i64 0, .slice none 0 0, .slice none 0 0]) 3 56 Tryz.underlying34 hi0 hz0 hz1 hz2 rfl (by decide) (.slice ax us.length cx) us.length (tyE.row us) rfl HOWN6.out (w6.heap.size + 1) (some ⟨w6.heap.size, 0, none⟩) 1 1 u.cells rfl HRED.out (tyE.one u) (by unfold maxLen; omega) (by omega) (by simp; omega) ?_
            intro v' w8 hown' hgrow hor
            have hg8 := Rowed.item (Rowed.below HG6.out ((Below.refl _ w6).alloc (Nat.le_refl _) (.cells #[.int .i64 u.k, .slice a4 u.ns.length b4, .slice a5 u.xs.length b5] 36))) hPW (by simp; omega) (HUI.out.below ((Below.refl _ w6).alloc (Nat.le_refl _) (.cells #[.int .i64 u.k, .slice a4 u.ns.length b4, .slice a5 u.xs.length b5] 36))) HUS.out hOb HZX.out hown' hgrow hor
            have hne8 : some O ≠ (Value.slice ax us.length cx).ownBlock := fun e => by have := own_ge HG.out.items e.symm; have := HBO.out.lt; omega
            have hb8 := Blk.grown (HBO6.out.alloc (.cells #[.int .i64 u.k, .slice a4 u.ns.length b4, .slice a5 u.xs.length b5] 36)) hgrow hne8
            have hox8 := only_grown (HOX6.out.alloc (.cells #[.int .i64 u.k, .slice a4 u.ns.length b4, .slice a5 u.xs.length b5] 36)) hgrow (fun k hk => own_ge HG6.out.items hk)
            have hbw8 := (HBW6.out.alloc HBW6.out.size (.cells #[.int .i64 u.k, .slice a4 u.ns.length b4, .slice a5 u.xs.length b5] 36)).grown hgrow (by have := HBW6.out.size; simp; omega) (fun k hk => by have := own_ge HG6.out.items hk; have := HB6.out.size; omega)
            obtain ⟨ax', cx', rfl⟩ := row_form hown'
            have c8 := hb8.cell 2
            have f8 := hb8.frozen 2
            have v8 := hb8.lt
            simp at c8
            have HG8 := Lib.hid hg8; have HB8 := Lib.hid hb8; have HOX8 := Lib.hid hox8; have HBW8 := Lib.hid hbw8
            clear hg8 hb8 hox8 hbw8 hown' hgrow hor hne8
            refine hK.out _ _ HBW8.out (fun hHeld => ?_)
            clear hK K
            try simp only [Act.put, List.setIfInBounds_toArray, List.set_cons_zero, List.set_cons_succ]
            refine held_take (i := 15) (d := some 57) (v := ?_) rfl rfl (by kernel_rfl) (by kernel_rfl) (by kernel_rfl) (fun _ _ _ h => h) (by rfl) ?_ hHeld ?_
            rotate_left
            · (intro w hSw; (try dsimp only at hSw); go_simp; try with_reducible rfl)
            try simp only [Act.put, List.setIfInBounds_toArray, List.set_cons_zero, List.set_cons_succ]
            refine held_only (i := 16) (by kernel_rfl) rfl (by rfl) (fun K hK => ?_)
            go_simp
            refine hK.out _ _ (HBW8.out.setCell (p := ⟨O, 2, none⟩) hWO _) (fun hHeld => ?_)
            clear hK K
            try simp only [Act.put, List.setIfInBounds_toArray, List.set_cons_zero, List.set_cons_succ]
            refine wpAnyH_done (by kernel_rfl) ?_ _
            have HB9 := Lib.hid (HB8.out.set_ 2 (.slice ax' (us.length + 1) cx'))
            have HG9 := Lib.hid (HG8.out.set_ (p := ⟨O, 2, none⟩) (fun b hb => by have := HPP.out b hb; have := HA.out; show b ≠ O; omega) (by have := HBO.out.lt; exact this) (.slice ax' (us.length + 1) cx'))
            have HOX9 := Lib.hid (HOX8.out.set_ (p := ⟨O, 2, none⟩) (.inl rfl) (.slice ax' (us.length + 1) cx'))
            go_wp2
            go_roundw
            case rel => exact ⟨i + 1, us ++ [u], _, by go_num, by omega, Lib.hid (by simp [HUL.out]), Lib.hid (by rw [List.map_append, List.map_cons, List.map_nil, HUE.out]; exact HR2.out), by simpa using HB9, by simpa using HG9, by simpa using HOX9⟩
            case measure => simp [intOf]; omega
          · go_simp
            refine hK.out _ _ (HBW6.out.alloc HBW6.out.size _) (fun hHeld => ?_)
            clear hK K
            try simp only [Act.put, List.setIfInBounds_toArray, List.set_cons_zero, List.set_cons_succ]
            refine held_only (i := 1) (by kernel_rfl) rfl (by rfl) (fun K hK => ?_)
            go_simp
            refine hK.out _ _ (HBW6.out.alloc HBW6.out.size _) (fun hHeld => ?_)
            clear hK K
            try simp only [Act.put, List.setIfInBounds_toArray, List.set_cons_zero, List.set_cons_succ]
            refine held_only (i := 14) (by kernel_rfl) rfl (by rfl) (fun K hK => ?_)
            refine wp_append_any (w6.alloc (.cells #[.int .i64 u.k, .slice a4 u.ns.length b4, .slice a5 u.xs.length b5] 36)) (.tmp 43) (.tmp 55) 34 rfl wc.heap.size 36 i0 (.agg #[.int .i64 0, .slice none 0 0, .slice none 0 0]) 3 56 Tryz.underlying34 hi0 hz0 hz1 hz2 rfl (by decide) (.slice ax us.length cx) us.length (tyE.row us) rfl HOWN6.out (w6.heap.size + 1) (some ⟨w6.heap.size, 0, none⟩) 1 1 u.cells rfl HRED.out (tyE.one u) (by unfold maxLen; omega) (by omega) (by simp; omega) ?_
            intro v' w8 hown' hgrow hor
            have hg8 := Rowed.item (Rowed.below HG6.out ((Below.refl _ w6).alloc (Nat.le_refl _) (.cells #[.int .i64 u.k, .slice a4 u.ns.length b4, .slice a5 u.xs.length b5] 36))) hPW (by simp; omega) (HUI.out.below ((Below.refl _ w6).alloc (Nat.le_refl _) (.cells #[.int .i64 u.k, .slice a4 u.ns.length b4, .slice a5 u.xs.length b5] 36))) HUS.out hOb HZX.out hown' hgrow hor
            have hne8 : some O ≠ (Value.slice ax us.length cx).ownBlock := fun e => by have := own_ge HG.out.items e.symm; have := HBO.out.lt; omega
            have hb8 := Blk.grown (HBO6.out.alloc (.cells #[.int .i64 u.k, .slice a4 u.ns.length b4, .slice a5 u.xs.length b5] 36)) hgrow hne8
            have hox8 := only_grown (HOX6.out.alloc (.cells #[.int .i64 u.k, .slice a4 u.ns.length b4, .slice a5 u.xs.length b5] 36)) hgrow (fun k hk => own_ge HG6.out.items hk)
            have hbw8 := (HBW6.out.alloc HBW6.out.size (.cells #[.int .i64 u.k, .slice a4 u.ns.length b4, .slice a5 u.xs.length b5] 36)).grown hgrow (by have := HBW6.out.size; simp; omega) (fun k hk => by have := own_ge HG6.out.items hk; have := HB6.out.size; omega)
            obtain ⟨ax', cx', rfl⟩ := row_form hown'
            have c8 := hb8.cell 2
            have f8 := hb8.frozen 2
            have v8 := hb8.lt
            simp at c8
            have HG8 := Lib.hid hg8; have HB8 := Lib.hid hb8; have HOX8 := Lib.hid hox8; have HBW8 := Lib.hid hbw8
            clear hg8 hb8 hox8 hbw8 hown' hgrow hor hne8
            refine hK.out _ _ HBW8.out (fun hHeld => ?_)
            clear hK K
            try simp only [Act.put, List.setIfInBounds_toArray, List.set_cons_zero, List.set_cons_succ]
            refine held_take (i := 15) (d := some 57) (v := ?_) rfl rfl (by kernel_rfl) (by kernel_rfl) (by kernel_rfl) (fun _ _ _ h => h) (by rfl) ?_ hHeld ?_
            rotate_left
            · (intro w hSw; (try dsimp only at hSw); go_simp; try with_reducible rfl)
            try simp only [Act.put, List.setIfInBounds_toArray, List.set_cons_zero, List.set_cons_succ]
            refine held_only (i := 16) (by kernel_rfl) rfl (by rfl) (fun K hK => ?_)
            go_simp
            refine hK.out _ _ (HBW8.out.setCell (p := ⟨O, 2, none⟩) hWO _) (fun hHeld => ?_)
            clear hK K
            try simp only [Act.put, List.setIfInBounds_toArray, List.set_cons_zero, List.set_cons_succ]
            refine wpAnyH_done (by kernel_rfl) ?_ _
            have HB9 := Lib.hid (HB8.out.set_ 2 (.slice ax' (us.length + 1) cx'))
            have HG9 := Lib.hid (HG8.out.set_ (p := ⟨O, 2, none⟩) (fun b hb => by have := HPP.out b hb; have := HA.out; show b ≠ O; omega) (by have := HBO.out.lt; exact this) (.slice ax' (us.length + 1) cx'))
            have HOX9 := Lib.hid (HOX8.out.set_ (p := ⟨O, 2, none⟩) (.inl rfl) (.slice ax' (us.length + 1) cx'))
            go_wp2
            go_roundw
            case rel => exact ⟨i + 1, us ++ [u], _, by go_num, by omega, Lib.hid (by simp [HUL.out]), Lib.hid (by rw [List.map_append, List.map_cons, List.map_nil, HUE.out]; exact HR2.out), by simpa using HB9, by simpa using HG9, by simpa using HOX9⟩
            case measure => simp [intOf]; omega
    · obtain rfl : i = M := by omega
      have hdone : J = some (us.map Ty.erase) := by
        rw [HR.out, List.drop_eq_nil_of_le (by rw [← HM.out]; exact Nat.le_refl _)]
        simp [Ty.joinAll]
      obtain ⟨ax, cx, hxv⟩ := HG.out.form
      subst hxv
      have hbr := BR.out.below HBW.out BR.out.lt
      have r0 := hbr.cell 0; have r1 := hbr.cell 1; have r2 := hbr.cell 2
      have s0 := hbr.frozen 0; have s1 := hbr.frozen 1; have s2 := hbr.frozen 2
      simp at r0 r1 r2
      obtain ⟨WF, hWF⟩ : ∃ WF, WF = ((wr.setCell ⟨A + 1 + 1, 0, none⟩ (.int .i64 K)).setCell ⟨A + 1 + 1, 1, none⟩ (.slice p6 a.ns.length q6)).setCell ⟨A + 1 + 1, 2, none⟩ (.slice ax us.length cx) := ⟨_, rfl⟩
      have hbF : Blk WF (A + 1 + 1) 36 #[.int .i64 K, .slice p6 a.ns.length q6, .slice ax us.length cx] := by rw [hWF]; exact blk3_set hbr _ _ _
      have hBF : Below w.heap.size w WF := by
        rw [hWF]
        exact below3_set (HJ.out.trans (HBW.out.mono HJ.out.size)) (by have := HA.out; omega) _ _ _
      obtain ⟨u, hu1, hu2, hu3, hu4⟩ := join_end HA.out hzW HB6.out HPP.out HLI.out HSP.out HOX.out hWF HG.out HKR.out HOK.out.2.1 (by rw [HUL.out]; omega) HOK.out.2.2.2
      rw [E6.out] at hu1
      have HWF := Lib.hid hWF; have HBF := Lib.hid hbF; have HBL := Lib.hid hBF; have HU1 := Lib.hid hu1; have HU2 := Lib.hid hu2; have HU3 := Lib.hid hu3; have HU4 := Lib.hid hu4; have HDN := Lib.hid hdone
      have t1 : decide ((i : Int) < (i : Int)) = false := by simp
      clear hWF hbF hBF hu1 hu2 hu3 hu4 hdone hbr hlt
      go_wp2_with fail
      rw [← HWF.out]
      clear r0 r1 r2 s0 s1 s2
      have f0 := HBF.out.cell 0; have f1 := HBF.out.cell 1; have f2 := HBF.out.cell 2
      simp at f0 f1 f2
      refine bodyPost_ret (v := .agg #[.int .i64 K, .slice p6 a.ns.length q6, .slice ax us.length cx]) (by simp [results, Tryz.results39, go_sem, f0, f1, f2]) rfl ?_
      refine ⟨HBL.out, ?_⟩
      rw [HE.out, HDN.out]
      exact ⟨u, by rw [HU1.out], HU2.out, HU3.out, HU4.out⟩
theorem join_any : ∀ (d : Nat) (a b : Ty) (P : Nat → Prop) (w : World), a.sz ≤ d → (∀ b, P b → b < w.heap.size) → a.In w → b.In w → (∃ n, a.rightB n = true) → (∃ n, b.rightB n = true) → a.Sep P → b.Sep P →
    Calls Tryz.prog 39 #[a.agg, b.agg] w fun e w' => Joined (a.joinT b) P w e w'
  | 0, a, _, _, _, hd, _, _, _, _, _, _, _ => by rw [Ty.sz_eq] at hd; omega
  | d + 1, a, b, P, w, hd, hP, ha, hb, hra, hrb, hsa, hsb => by
    by_cases h1 : a.k = 7
    · exact join_none a b P w hP ha hb hsa hsb (.inl h1)
    · by_cases h2 : b.k = 7
      · exact join_none a b P w hP ha hb hsa hsb (.inr ⟨h1, h2⟩)
      · by_cases h3 : a.k = b.k ∧ a.ns = b.ns
        · exact join_same d (fun a b P w => join_any d a b P w) a b P w hd hP ha hb hra hrb hsa hsb h1 h2 h3
        · exact join_diff a b P w hP ha hb hsa hsb h1 h2 h3
end Go.Proofs.YtjpdbhhjlnmacaaGreat
