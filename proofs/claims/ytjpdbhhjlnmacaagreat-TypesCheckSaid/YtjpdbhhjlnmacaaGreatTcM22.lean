/- basculeref09.Join of two types that may be types: what they join to, or none (printed by wip/gen_refjoin.py). -/
import Derived.Test.YtjpdbhhjlnmacaaGreatTcM9
import Derived.Test.YtjpdbhhjlnmacaaGreatTcM21
import Derived.Deep.DeepCutAuto
namespace Go.Proofs.YtjpdbhhjlnmacaaGreat
set_option linter.unusedVariables false
open Go.RowKit

def RJoined (r : Option Ty) (P : Nat → Prop) (w : World) (e : Ending) (w' : World) : Prop :=
  Below w.heap.size w w' ∧ ∃ u : Ty, e = .returned (.tuple #[u.agg, .bool r.isSome]) ∧ u.In w' ∧ u.Sep (fun b => P b ∨ w.heap.size ≤ b) ∧ u.erase = r.getD Ty.zero
theorem tzero_in (w : World) : Ty.zero.In w := by
  rw [Ty.in_iff]
  exact ⟨⟨by unfold i64r; decide, by decide, by decide, fun s h => by simp [Ty.ns] at h⟩, rfl, rfl, fun x hx => by simp [Ty.xs] at hx⟩
theorem tzero_sep (S : Nat → Prop) : Ty.zero.Sep S := by
  rw [Ty.sep_iff]
  exact ⟨trivial, trivial, fun x hx => by simp [Ty.xs] at hx⟩
theorem rjoined_none {P : Nat → Prop} {w w' : World} {r : Option Ty} (hr : r = none) (h : Below w.heap.size w w') : RJoined r P w (.returned (.tuple #[.agg #[.int .i64 0, .slice none 0 0, .slice none 0 0], .bool false])) w' := by
  subst hr
  exact ⟨h, Ty.zero, rfl, tzero_in _, tzero_sep _, rfl⟩
theorem right_names {a : Ty} {n : Nat} (h : a.rightB n = true) : (a.k = 6 → a.ns.length = a.xs.length) ∧ (a.k ≠ 6 → a.ns = []) := by
  rw [Ty.rightB_eq] at h
  split at h
  · cases h
  split at h
  · rename_i h5
    simp only [Bool.and_eq_true, decide_eq_true_eq] at h
    exact ⟨fun h6 => by omega, fun _ => List.eq_nil_of_length_eq_zero h.1.1⟩
  · split at h
    · rename_i h6
      simp only [Bool.and_eq_true, decide_eq_true_eq] at h
      exact ⟨fun _ => h.1.1, fun h' => absurd h6 h'⟩
    · rename_i h6
      split at h
      · simp only [Bool.and_eq_true, decide_eq_true_eq] at h
        exact ⟨fun h' => absurd h' h6, fun _ => List.eq_nil_of_length_eq_zero h.1⟩
      · cases h

set_option maxHeartbeats 4000000 in
set_option maxRecDepth 100000 in
theorem rjoin_none (a b : Ty) (P : Nat → Prop) (w : World) (hP : ∀ b, P b → b < w.heap.size) (ha : a.In w) (hb : b.In w) (hsa : a.Sep P) (hsb : b.Sep P) (hk : a.k = 7 ∨ (a.k ≠ 7 ∧ b.k = 7)) :
    Calls Tryz.prog 21 #[a.agg, b.agg] w fun e w' => RJoined (a.joinT b) P w e w' := by
  have hE := Ty.joinT_eq a b
  obtain ⟨c, hc⟩ : ∃ c : Ty, c = if a.k = 7 then b else a := ⟨_, rfl⟩
  obtain ⟨WF, hWF⟩ : ∃ WF, WF = ((w.alloc (.cells #[.int .i64 a.k, a.na.val a.ns.length, a.xa.val a.xs.length] 36)).alloc (.cells #[.int .i64 b.k, b.na.val b.ns.length, b.xa.val b.xs.length] 36)).alloc (.cells #[.int .i64 c.k, c.na.val c.ns.length, c.xa.val c.xs.length] 36) := ⟨_, rfl⟩
  have hj : J0 w WF a b #[.int .i64 c.k, c.na.val c.ns.length, c.xa.val c.xs.length] := by rw [hWF]; exact j0_start w a b _
  have hcI : c.In w := by rw [hc]; split <;> assumption
  have hcS : c.Sep P := by rw [hc]; split <;> assumption
  have hR : a.joinT b = some c.erase := by
    rw [hE, hc]
    rcases hk with hk | ⟨hk, hk2⟩
    · rw [if_pos hk, if_pos hk]
    · rw [if_neg hk, if_pos hk2, if_neg hk]
  obtain ⟨p4, q4, e4⟩ := ha.nslice
  obtain ⟨p5, q5, e5⟩ := ha.xslice
  obtain ⟨r4, t4, g4⟩ := hb.nslice
  obtain ⟨r5, t5, g5⟩ := hb.xslice
  have f0 := hj.br.cell 0; have f1 := hj.br.cell 1; have f2 := hj.br.cell 2
  simp at f0 f1 f2
  have HB := Lib.hid hj.below; have HR := Lib.hid hR; have HI := Lib.hid (hcI.below hj.below); have HS := Lib.hid hcS
  have hag : c.agg = .agg #[.int .i64 c.k, c.na.val c.ns.length, c.xa.val c.xs.length] := rfl
  have HAG := Lib.hid hag
  rcases hk with hk | ⟨hk, hk2⟩
  · rw [if_pos hk] at hc
    subst hc
    unfold Ty.agg
    rw [e4, e5, g4, g5]
    rw [g4] at f1
    rw [g5] at f2
    rw [e4, e5, g4, g5] at hWF
    rw [g4, g5] at HAG
    have HWF := Lib.hid hWF
    obtain ⟨K, hK⟩ : ∃ K, K = a.k := ⟨_, rfl⟩
    rw [← hK] at hk HWF ⊢
    subst hk
    clear hWF hj hcI hcS hR hE hag hK e4 e5 g4 g5 hsa hsb ha hb
    go_enter Tryz.func21, Tryz.ntmps21
    go_wp2_with fail
    rw [← HWF.out]
    refine bodyPost_ret (v := .tuple #[.agg #[.int .i64 c.k, .slice r4 c.ns.length t4, .slice r5 c.xs.length t5], .bool true]) (by simp [results, Tryz.results21, go_sem, f0, f1, f2]) rfl ?_
    refine ⟨HB.out, ?_⟩
    rw [HR.out]
    exact ⟨c, by rw [HAG.out]; rfl, HI.out, HS.out.mono (fun x hx => .inl hx), rfl⟩
  · rw [if_neg hk] at hc
    subst hc
    have j1 : (c.k == 7) = false := by simpa using hk
    unfold Ty.agg
    rw [e4, e5, g4, g5]
    rw [e4] at f1
    rw [e5] at f2
    rw [e4, e5, g4, g5] at hWF
    rw [e4, e5] at HAG
    have HWF := Lib.hid hWF
    obtain ⟨K, hK⟩ : ∃ K, K = b.k := ⟨_, rfl⟩
    rw [← hK] at hk2 HWF ⊢
    subst hk2
    clear hWF hj hcI hcS hR hE hag hK e4 e5 g4 g5 hsa hsb ha hb hk
    go_enter Tryz.func21, Tryz.ntmps21
    go_wp2_with fail
    rw [← HWF.out]
    refine bodyPost_ret (v := .tuple #[.agg #[.int .i64 c.k, .slice p4 c.ns.length q4, .slice p5 c.xs.length q5], .bool true]) (by simp [results, Tryz.results21, go_sem, f0, f1, f2]) rfl ?_
    refine ⟨HB.out, ?_⟩
    rw [HR.out]
    exact ⟨c, by rw [HAG.out]; rfl, HI.out, HS.out.mono (fun x hx => .inl hx), rfl⟩

set_option maxHeartbeats 4000000 in
set_option maxRecDepth 100000 in
theorem rjoin_diff (a b : Ty) (P : Nat → Prop) (w : World) (hP : ∀ b, P b → b < w.heap.size) (ha : a.In w) (hb : b.In w) (hra : ∃ n, a.rightB n = true) (hrb : ∃ n, b.rightB n = true) (hk : a.k ≠ 7) (hk2 : b.k ≠ 7) (hn : ¬ (a.k = b.k ∧ a.xs.length = b.xs.length)) :
    Calls Tryz.prog 21 #[a.agg, b.agg] w fun e w' => RJoined (a.joinT b) P w e w' := by
  have hE := Ty.joinT_eq a b
  rw [if_neg hk, if_neg hk2] at hE
  have hR : a.joinT b = none := by
    rw [hE, if_neg]
    rintro ⟨h1, h2⟩
    obtain ⟨n, h3⟩ := hra
    obtain ⟨m, h4⟩ := hrb
    exact hn ⟨h1, right_same_len h3 h4 h1 h2⟩
  obtain ⟨WF, hWF⟩ : ∃ WF, WF = ((w.alloc (.cells #[.int .i64 a.k, a.na.val a.ns.length, a.xa.val a.xs.length] 36)).alloc (.cells #[.int .i64 b.k, b.na.val b.ns.length, b.xa.val b.xs.length] 36)).alloc (.cells #[.int .i64 0, .slice none 0 0, .slice none 0 0] 36) := ⟨_, rfl⟩
  have hj : J0 w WF a b #[.int .i64 0, .slice none 0 0, .slice none 0 0] := by rw [hWF]; exact j0_start w a b _
  obtain ⟨p4, q4, e4⟩ := ha.nslice
  obtain ⟨p5, q5, e5⟩ := ha.xslice
  obtain ⟨r4, t4, g4⟩ := hb.nslice
  obtain ⟨r5, t5, g5⟩ := hb.xslice
  have f0 := hj.br.cell 0; have f1 := hj.br.cell 1; have f2 := hj.br.cell 2
  simp at f0 f1 f2
  have j1 : (a.k == 7) = false := by simpa using hk
  have j2 : (b.k == 7) = false := by simpa using hk2
  rw [e4, e5, g4, g5] at hWF
  unfold Ty.agg
  rw [e4, e5, g4, g5]
  obtain ⟨M, hM⟩ : ∃ M, M = a.xs.length := ⟨_, rfl⟩
  obtain ⟨M2, hM2⟩ : ∃ M2, M2 = b.xs.length := ⟨_, rfl⟩
  rw [← hM, ← hM2] at hWF hn ⊢
  have HWF := Lib.hid hWF; have HB := Lib.hid hj.below; have HR := Lib.hid hR
  clear hWF hj hR hE e4 e5 g4 g5 ha hb hk hk2 hra hrb hM hM2
  by_cases h1 : a.k = b.k
  · have h2 : M ≠ M2 := fun h => hn ⟨h1, h⟩
    have j3 : (a.k != b.k) = false := by simpa using h1
    have j4 : ((M : Int) != (M2 : Int)) = true := by simp; omega
    clear hn h1 h2
    go_enter Tryz.func21, Tryz.ntmps21
    go_wp2_with fail
    rw [← HWF.out]
    refine bodyPost_ret (v := .tuple #[.agg #[.int .i64 0, .slice none 0 0, .slice none 0 0], .bool false]) (by simp [results, Tryz.results21, go_sem, f0, f1, f2]) rfl ?_
    exact rjoined_none HR.out HB.out
  · have j3 : (a.k != b.k) = true := by simpa using h1
    clear hn h1
    go_enter Tryz.func21, Tryz.ntmps21
    go_wp2_with fail
    rw [← HWF.out]
    refine bodyPost_ret (v := .tuple #[.agg #[.int .i64 0, .slice none 0 0, .slice none 0 0], .bool false]) (by simp [results, Tryz.results21, go_sem, f0, f1, f2]) rfl ?_
    exact rjoined_none HR.out HB.out

theorem rjoin_end {K : Int} {P : Nat → Prop} {A B : Nat} {w wr WF : World} {ns : List ByteArray} {us : List Ty} {sv xv u0 u1 u2 : Value} (hA : A = w.heap.size) (hB : A + 3 ≤ B) (hP : ∀ b, P b → b < w.heap.size)
    (hWF : WF = ((wr.setCell ⟨A + 1 + 1, 0, none⟩ u0).setCell ⟨A + 1 + 1, 1, none⟩ u1).setCell ⟨A + 1 + 1, 2, none⟩ u2)
    (hg : RGath tyE P B 36 wr ns us sv xv) (hk : i64r K) (hn : ns.length ≤ 8796093021952) (hx : us.length ≤ 2513169434843) (hs : ∀ s, s ∈ ns → strok s) :
    ∃ u : Ty, Value.agg #[.int .i64 K, sv, xv] = u.agg ∧ u.erase = .mk K .no ns .no (us.map Ty.erase) ∧ u.In WF ∧ u.Sep (fun b => P b ∨ w.heap.size ≤ b) := by
  have hg2 : RGath tyE P B 36 WF ns us sv xv := by
    rw [hWF]
    exact ((hg.set_ (p := ⟨A + 1 + 1, 0, none⟩) (fun b hb => by have := hP b hb; show b ≠ A + 1 + 1; omega) (by show A + 1 + 1 < _; omega) u0).set_ (p := ⟨A + 1 + 1, 1, none⟩) (fun b hb => by have := hP b hb; show b ≠ A + 1 + 1; omega) (by show A + 1 + 1 < _; omega) u1).set_ (p := ⟨A + 1 + 1, 2, none⟩) (fun b hb => by have := hP b hb; show b ≠ A + 1 + 1; omega) (by show A + 1 + 1 < _; omega) u2
  obtain ⟨sn, hsn, hln, hspn⟩ := lies_of_own hg2.names
  obtain ⟨sx, hsx, hlx, hspx⟩ := trowLies_of_own hg2.items
  refine ⟨.mk K sn ns sx us, ?_, ?_, ?_, ?_⟩
  · show _ = Value.agg #[.int .i64 K, sn.val ns.length, sx.val us.length]
    rw [← hsx, ← hsn]
  · rw [Ty.erase_eq]
    rfl
  · rw [Ty.in_iff]
    exact ⟨⟨hk, hn, hx, hs⟩, hln, hlx, fun x hx' => (hg2.each x hx').1⟩
  · rw [Ty.sep_iff]
    exact ⟨hspn.mono (fun b hb => .inr (by omega)), hspx.mono (fun b hb => .inr (by omega)), fun x hx' => (hg2.each x hx').2.mono (fun b hb => by rcases hb.1 with h | h; exact .inl h; exact .inr (by omega))⟩
/-- The joined item, laid by. -/
def RItem (wr : World) (P : Nat → Prop) (r : Option Ty) (p8 p9 : Value) (wx : World) : Prop :=
  ∃ (X : Nat) (u : Ty), p8 = .pointer (some ⟨X, 0, none⟩) ∧ p9 = .bool r.isSome ∧ Below wr.heap.size wr wx ∧ Blk wx X 36 #[.int .i64 u.k, u.na.val u.ns.length, u.xa.val u.xs.length] ∧ u.In wx ∧ u.Sep (fun b => P b ∨ wr.heap.size ≤ b) ∧ u.erase = r.getD Ty.zero
theorem ritem_new {wr w6 : World} {P : Nat → Prop} {r : Option Ty} {u : Ty} {a4 a5 : Option Addr} {b4 b5 : Nat} (hb : Below wr.heap.size wr w6) (k4 : u.na.val u.ns.length = .slice a4 u.ns.length b4) (k5 : u.xa.val u.xs.length = .slice a5 u.xs.length b5) (hi : u.In w6) (hs : u.Sep (fun b => P b ∨ wr.heap.size ≤ b)) (he : u.erase = r.getD Ty.zero) :
    RItem wr P r (.pointer (some ⟨w6.heap.size, 0, none⟩)) (.bool r.isSome) (w6.alloc (.cells #[.int .i64 u.k, .slice a4 u.ns.length b4, .slice a5 u.xs.length b5] 36)) := by
  have h1 := Blk.new w6 36 #[.int .i64 u.k, .slice a4 u.ns.length b4, .slice a5 u.xs.length b5]
  have h2 := (Below.refl w6.heap.size w6).alloc (Nat.le_refl _) (.cells #[.int .i64 u.k, .slice a4 u.ns.length b4, .slice a5 u.xs.length b5] 36)
  exact ⟨_, u, rfl, rfl, hb.trans (h2.mono hb.size), by rw [k4, k5]; exact h1, hi.below h2, hs, he⟩
theorem ritem_set {wr w6 : World} {P : Nat → Prop} {X : Nat} {r : Option Ty} {u : Ty} {a4 a5 : Option Addr} {b4 b5 : Nat} {z0 z1 z2 : Value} (hb : Below wr.heap.size wr w6) (hX : wr.heap.size ≤ X) (hbX : Blk w6 X 36 #[z0, z1, z2]) (k4 : u.na.val u.ns.length = .slice a4 u.ns.length b4) (k5 : u.xa.val u.xs.length = .slice a5 u.xs.length b5) (hi : u.In w6) (hs : u.Sep (fun b => (P b ∨ wr.heap.size ≤ b) ∧ b ≠ X)) (he : u.erase = r.getD Ty.zero) :
    RItem wr P r (.pointer (some ⟨X, 0, none⟩)) (.bool r.isSome) (((w6.setCell ⟨X, 0, none⟩ (.int .i64 u.k)).setCell ⟨X, 1, none⟩ (.slice a4 u.ns.length b4)).setCell ⟨X, 2, none⟩ (.slice a5 u.xs.length b5)) := by
  refine ⟨X, u, rfl, rfl, below3_set hb hX _ _ _, by rw [k4, k5]; exact blk3_set hbX _ _ _, hi.carryS hs (fun b o hb' hlt => ?_) (by simp [World.setCell]), hs.mono (fun b hb => hb.1), he⟩
  have hne : ∀ k, (⟨X, k, none⟩ : Addr) ≠ ⟨b, o, none⟩ := fun k e => by injection e with e _; exact hb'.2 e.symm
  rw [World.cell?_setCell_other _ _ _ _ (hne 2), World.cell?_setCell_other _ _ _ _ (hne 1), World.cell?_setCell_other _ _ _ _ (hne 0)]
theorem one_str' (t : ByteArray) : ∀ u ∈ [Value.string t], u.oneCell' = true := fun u hu => by
  obtain rfl : u = .string t := by simpa using hu
  rfl

set_option maxHeartbeats 4000000 in
set_option maxRecDepth 100000 in
theorem rjoin_rec (d : Nat) (ih : ∀ (a b : Ty) (P : Nat → Prop) (w : World), a.sz ≤ d → (∀ b, P b → b < w.heap.size) → a.In w → b.In w → (∃ n, a.rightB n = true) → (∃ n, b.rightB n = true) → a.Sep P → b.Sep P → Calls Tryz.prog 21 #[a.agg, b.agg] w fun e w' => RJoined (a.joinT b) P w e w')
    (a b : Ty) (P : Nat → Prop) (w : World) (hd : a.sz ≤ d + 1) (hP : ∀ b, P b → b < w.heap.size) (ha : a.In w) (hb : b.In w) (hra : ∃ n, a.rightB n = true) (hrb : ∃ n, b.rightB n = true) (hsa : a.Sep P) (hsb : b.Sep P) (hk : a.k ≠ 7) (hk2 : b.k ≠ 7) (hkk : a.k = b.k) (hk6 : a.k = 6) (hlen : b.xs.length = a.xs.length) :
    Calls Tryz.prog 21 #[a.agg, b.agg] w fun e w' => RJoined (a.joinT b) P w e w' := by
  have hE := Ty.joinT_eq a b
  rw [if_neg hk, if_neg hk2] at hE
  obtain ⟨W, hW⟩ : ∃ W, W = ((w.alloc (.cells #[.int .i64 a.k, a.na.val a.ns.length, a.xa.val a.xs.length] 36)).alloc (.cells #[.int .i64 b.k, b.na.val b.ns.length, b.xa.val b.xs.length] 36)).alloc (.cells #[.int .i64 0, .slice none 0 0, .slice none 0 0] 36) := ⟨_, rfl⟩
  have hj : J0 w W a b #[.int .i64 0, .slice none 0 0, .slice none 0 0] := by rw [hW]; exact j0_start w a b _
  have hIa := ha.below hj.below
  have hIb := hb.below hj.below
  obtain ⟨p4, q4, e4, hna⟩ := names_in (TNamesAt.of hIa)
  obtain ⟨p5, q5, e5, hxa⟩ := titems_at hIa
  obtain ⟨r4, t4, g4, hnb⟩ := names_in (TNamesAt.of hIb)
  obtain ⟨r5, t5, g5, hxb⟩ := titems_at hIb
  obtain ⟨A, hA⟩ : ∃ A, A = w.heap.size := ⟨_, rfl⟩
  have ba := hj.ba; have bb := hj.bb; have br := hj.br
  rw [← hA] at ba bb br
  rw [e4, e5] at ba
  rw [g4, g5] at bb
  rw [e4, e5, g4, g5] at hW
  unfold Ty.agg
  rw [e4, e5, g4, g5]
  have hrn := hra
  obtain ⟨na, hna'⟩ := hrn
  have hrn2 := hrb
  obtain ⟨nb, hnb'⟩ := hrn2
  have hra6 := right_names hna'
  have hrb6 := right_names hnb'
  obtain ⟨K, hK⟩ : ∃ K, K = a.k := ⟨_, rfl⟩
  have hkb : b.k = K := by rw [hK, hkk]
  rw [← hK] at ba hW hE hk hk6 hra6 ⊢
  rw [hkb] at bb hW hk2 hrb6 ⊢
  obtain ⟨M, hM⟩ : ∃ M, M = a.xs.length := ⟨_, rfl⟩
  rw [hlen, ← hM] at bb hW hrb6 ⊢
  rw [← hM] at ba hra6
  obtain ⟨L1, hL1⟩ : ∃ L1, L1 = a.ns.length := ⟨_, rfl⟩
  obtain ⟨L2, hL2⟩ : ∃ L2, L2 = b.ns.length := ⟨_, rfl⟩
  rw [← hL1] at ba hW hra6 ⊢
  rw [← hL2] at bb hW hrb6 ⊢
  have hMb : M ≤ 2513169434843 := by rw [hM]; exact ha.ok.2.2.1
  have a0 := ba.cell 0; have a1 := ba.cell 1; have a2 := ba.cell 2
  have b0 := bb.cell 0; have b1 := bb.cell 1; have b2 := bb.cell 2
  simp at a0 a1 a2 b0 b1 b2
  have j1 : (K == 7) = false := by simpa using hk
  have j3 : (K != K) = false := by simp
  have j4 : ((M : Int) != (M : Int)) = false := by simp
  obtain ⟨J, hJJ⟩ : ∃ J, J = Ty.joinAll a.xs b.xs := ⟨_, rfl⟩
  rw [← hJJ, hkb] at hE
  obtain ⟨W1, hW1⟩ : ∃ W1, W1 = W.alloc (.cells #[.int .i64 K, .slice none 0 0, .slice none 0 0] 36) := ⟨_, rfl⟩
  have hB1 : Below W.heap.size W W1 := by rw [hW1]; exact (Below.refl _ _).alloc (Nat.le_refl _) _
  have hO1 : Blk W1 W.heap.size 36 #[.int .i64 K, .slice none 0 0, .slice none 0 0] := by rw [hW1]; exact Blk.new W 36 _
  have hWS : W.heap.size = A + 1 + 1 + 1 := by rw [hW, hA]; simp
  obtain ⟨O, hO⟩ : ∃ O, O = A + 1 + 1 + 1 := ⟨_, rfl⟩
  rw [hWS, ← hO] at hO1
  have HWS := Lib.hid hWS
  have hzA : A + 1 + 1 < W.heap.size := br.lt
  have hKr : i64r K := by rw [hK]; exact ha.ok.1
  obtain ⟨i0, hi0, hz0, hz1, hz2⟩ := info_parts tty_facts'
  obtain ⟨i1, hi1, hy0, hy1, hy2⟩ := info_parts str_facts
  have HW := Lib.hid hW; have HA := Lib.hid hA; have HJ := Lib.hid hj.below; have BA := Lib.hid ba; have BB := Lib.hid bb; have BR := Lib.hid br; have HE := Lib.hid hE
  have HSA := Lib.hid hsa; have HSB := Lib.hid hsb; have HW1 := Lib.hid hW1; have HB1 := Lib.hid hB1; have HO1 := Lib.hid hO1; have HOO := Lib.hid hO; have HKR := Lib.hid hKr
  have HOK := Lib.hid ha.ok; have HM := Lib.hid hM; have HL1 := Lib.hid hL1; have HL2 := Lib.hid hL2; have HNA := Lib.hid hna; have HNB := Lib.hid hnb; have HXA := Lib.hid hxa; have HXB := Lib.hid hxb; have HJJ := Lib.hid hJJ; have HPP := Lib.hid hP
  have HIH := Lib.hid ih; have HLEN := Lib.hid (hlen.trans hM.symm); have HRA := Lib.hid hra; have HRB := Lib.hid hrb; have HD := Lib.hid hd
  have hLM : L1 = M := hra6.1 hk6
  have hLM2 : L2 = M := hrb6.1 hk6
  have j6 : (K == 6) = true := by simpa using hk6
  have HLM := Lib.hid hLM; have HLM2 := Lib.hid hLM2
  rw [hLM] at a1 BA HW ⊢
  rw [hLM2] at b1 BB HW ⊢
  clear hLM hLM2
  clear ih hlen hra hrb hd ha hb hna hnb hxa hxb hM hL1 hL2 hJJ hKr hW hA hj ba bb br hE hIa hIb e4 e5 g4 g5 hsa hsb hk hk2 hkk hk6 hK hkb hna' hnb' hra6 hrb6 hW1 hB1 hO1 hO hWS
  go_enter Tryz.func21, Tryz.ntmps21
  go_wp2_with fail
  rw [← HW.out, ← HA.out, ← HW1.out, ← HOO.out]
  clear a0 a1 a2 b0 b1 b2
  go_loopw [7] (fun iv wr => ∃ (i : Nat) (ns : List ByteArray) (us : List Ty) (an ax : Option Addr) (cn cx : Nat), iv = .int .i64 (i : Int) ∧ i ≤ M ∧ Hid (us.length = i) ∧ Hid (J = (Ty.joinAll (a.xs.drop i) (b.xs.drop i)).map (fun r => us.map Ty.erase ++ r)) ∧ Hid (ns = a.ns.take i ∧ NamesTo a.ns b.ns i) ∧ Hid (Blk wr O 36 #[.int .i64 K, .slice an ns.length cn, .slice ax us.length cx]) ∧
    Hid (RGath tyE P W1.heap.size 36 wr ns us (.slice an ns.length cn) (.slice ax us.length cx)) ∧ Hid (Only W1 wr O)) (fun iv _ => M - (intOf iv).toNat)
  case atStart => exact ⟨0, [], [], none, none, 0, 0, rfl, by omega, Lib.hid rfl, Lib.hid (by rw [HJJ.out]; simp), Lib.hid (by simp [NamesTo]), HO1, Lib.hid (rgath_start _), Lib.hid (Only.refl _ _)⟩
  case round =>
    obtain ⟨i, ns, us, an, ax, cn, cx, rfl, hi, HUL, HR, HNS, HO, HG, HOX⟩ := hrel
    have hOX := HOX.out
    have hOb : W1.heap.size ≤ wr.heap.size := hOX.size
    have hOlt := HO.out.lt
    have hBW : Below W.heap.size W wr := Go.Proofs.YtjpdbhhjlnmacaaGreat.Below.only HB1.out hOX (by have := HOO.out; have := HWS.out; omega) HB1.out.size
    have hxA := BA.out.below hBW BA.out.lt
    have hxB := BB.out.below hBW BB.out.lt
    have a0 := hxA.cell 0; have a1 := hxA.cell 1; have a2 := hxA.cell 2; have b1 := hxB.cell 1; have b2 := hxB.cell 2
    have o0 := HO.out.cell 0; have o1 := HO.out.cell 1; have o2 := HO.out.cell 2; have fo2 := HO.out.frozen 2
    simp at a0 a1 a2 b1 b2 o0 o1 o2
    have HBW := Lib.hid hBW
    clear hOX hBW hxA hxB
    by_cases hlt : i < M
    · have hil1 : i < a.xs.length := by rw [← HM.out]; exact hlt
      have hil2 : i < b.xs.length := by rw [HLEN.out]; exact hlt
      obtain ⟨xb, xo, rfl, hpx0, hlc⟩ := HXA.out i hil1
      obtain ⟨yb, yo, rfl, hpy0, hlc2⟩ := HXB.out i hil2
      obtain ⟨x, hx⟩ : ∃ x, x = a.xs[i]'hil1 := ⟨_, rfl⟩
      obtain ⟨y, hy⟩ : ∃ y, y = b.xs[i]'hil2 := ⟨_, rfl⟩
      have hxm : x ∈ a.xs := by rw [hx]; simp
      have hym : y ∈ b.xs := by rw [hy]; simp
      have hxs : x.sz ≤ d := by
        have := Ty.size_mem hxm
        have := HD.out
        omega
      have hrx : ∃ n, x.rightB n = true := by obtain ⟨n, h⟩ := HRA.out; exact right_items h x hxm
      have hry : ∃ n, y.rightB n = true := by obtain ⟨n, h⟩ := HRB.out; exact right_items h y hym
      have hsx : x.Sep P := ((Ty.sep_iff _ _).1 HSA.out).2.2 x hxm
      have hsy : y.Sep P := ((Ty.sep_iff _ _).1 HSB.out).2.2 y hym
      have hnone := fun (h : x.joinT y = none) => joinAll_none HR.out hil1 hil2 (by rw [← hx, ← hy]; exact h)
      have hsome := fun (v : Ty) (h : x.joinT y = some v) => joinAll_some (v := v) HR.out hil1 hil2 (by rw [← hx, ← hy]; exact h)
      rw [← hx] at hpx0
      rw [← hy] at hpy0
      have hxbW := hpx0.2.1
      have hybW := hpy0.2.1
      have wu0 := hpx0.c0; have wu1 := hpx0.c1; have wu2 := hpx0.c2
      have wv0 := hpy0.c0; have wv1 := hpy0.c1; have wv2 := hpy0.c2
      obtain ⟨k4, l4, f4⟩ := hpx0.in.nslice
      obtain ⟨k5, l5, f5⟩ := hpx0.in.xslice
      obtain ⟨m4, n4, h4⟩ := hpy0.in.nslice
      obtain ⟨m5, n5, h5⟩ := hpy0.in.xslice
      rw [f4] at wu1; rw [f5] at wu2; rw [h4] at wv1; rw [h5] at wv2
      have HU0 := Lib.hid wu0; have HU1 := Lib.hid wu1; have HU2 := Lib.hid wu2; have HV0 := Lib.hid wv0; have HV1 := Lib.hid wv1; have HV2 := Lib.hid wv2
      have hc := fun (W' : World) (hb' : Below W.heap.size W W') => HIH.out x y P W' hxs (fun b hb => by have := HPP.out b hb; have := HJ.out.size; have := hb'.size; omega) (hpx0.in.below hb') (hpy0.in.below hb') hrx hry hsx hsy
      unfold Ty.agg at hc
      rw [f4, f5, h4, h5] at hc
      have hk0 : (0 : Int) ≤ (i : Int) := by omega
      have hk1 : (i : Int) < (M : Int) := by omega
      have hlm : M ≤ q5 := by rw [HM.out]; exact hlc
      have hlm2 : M ≤ t5 := by rw [← HLEN.out]; exact hlc2
      have HC := Lib.hid hc; have HNO := Lib.hid hnone; have HSO := Lib.hid hsome
      have HA2 : Hid (W.cell? ⟨A, 2, none⟩ = some (.slice (some ⟨xb, xo, none⟩) M q5)) := Lib.hid (by have := BA.out.cell 2; simpa using this)
      have HB2 : Hid (W.cell? ⟨A + 1, 2, none⟩ = some (.slice (some ⟨yb, yo, none⟩) M t5)) := Lib.hid (by have := BB.out.cell 2; simpa using this)
      have hAlt := BA.out.lt
      have hA1lt := BB.out.lt
      have hWO : W.heap.size ≤ O := by have := HOO.out; have := HWS.out; omega
      have hPW : ∀ b, P b → b < W1.heap.size := fun b hb => by have := HPP.out b hb; have := HJ.out.size; have := HB1.out.size; omega
      have hul : us.length ≤ M := by rw [HUL.out]; exact hi
      have HZX := Lib.hid (fun b (hb : (Value.slice ax us.length cx).ownBlock = some b) => (HG.out.items.lt b hb).2)
      have HZS := Lib.hid (fun b (hb : (Value.slice an ns.length cn).ownBlock = some b) => (HG.out.names.lt b hb).2)
      clear hc hnone hsome hpx0 hpy0 hx hy hxm hym hxs hrx hry hsx hsy f4 f5 h4 h5 wu0 wu1 wu2 wv0 wv1 wv2 hlc hlc2
      have hin1 : i < a.ns.length := by rw [← HL1.out, HLM.out]; exact hlt
      have hin2 : i < b.ns.length := by rw [← HL2.out, HLM2.out]; exact hlt
      obtain ⟨pb, po, rfl, hpb, hpc, hcc⟩ := HNA.out i hin1
      obtain ⟨qb, qo, rfl, hqb, hqc, hcc2⟩ := HNB.out i hin2
      rw [← HL1.out, HLM.out] at hcc
      rw [← HL2.out, HLM2.out] at hcc2
      obtain ⟨s, hs⟩ : ∃ s, s = a.ns.getD i ByteArray.empty := ⟨_, rfl⟩
      obtain ⟨t, ht⟩ : ∃ t, t = b.ns.getD i ByteArray.empty := ⟨_, rfl⟩
      rw [← hs] at hpc
      rw [← ht] at hqc
      have u1 : wr.cell? ⟨pb, po + i, none⟩ = some (.string s) := (HBW.out.cell (p := ⟨pb, po + i, none⟩) hpb).trans hpc
      have u2 : wr.cell? ⟨qb, qo + i, none⟩ = some (.string t) := (HBW.out.cell (p := ⟨qb, qo + i, none⟩) hqb).trans hqc
      have HPC := Lib.hid hpc
      by_cases hst : s = t
      case neg =>
        have HF : Hid (a.joinT b = none) := Lib.hid (by
          rw [HE.out, if_neg]
          rintro ⟨_, h⟩
          exact names_ne hin1 (by rw [← hs, ← ht]; exact hst) h)
        have hne := str_ne hst
        have hne2 := str_ne' hst
        have hbr := BR.out.below HBW.out BR.out.lt
        have r0 := hbr.cell 0; have r1 := hbr.cell 1; have r2 := hbr.cell 2
        have s0 := hbr.frozen 0; have s1 := hbr.frozen 1; have s2 := hbr.frozen 2
        simp at r0 r1 r2
        have HBR := Lib.hid hbr
        clear hil1 hil2 hin1 hin2 hs ht hst hpc hqc hbr
        go_upto_region 12 with fail
        go_quiet (fail)
        have HBR' := Lib.hid (HBR.out.drewN nq)
        have HBL := Lib.hid (below3_set (below_drewN (HJ.out.trans (HBW.out.mono HJ.out.size)) nq) (show w.heap.size ≤ A + 1 + 1 by have := HA.out; omega) (.int .i64 0) (.slice none 0 0) (.slice none 0 0))
        have hF := blk3_set HBR'.out (.int .i64 0) (.slice none 0 0) (.slice none 0 0)
        have f0 := hF.cell 0; have f1 := hF.cell 1; have f2 := hF.cell 2
        simp at f0 f1 f2
        have F0 := Lib.hid f0; have F1 := Lib.hid f1; have F2 := Lib.hid f2
        clear hF f0 f1 f2
        go_wp2_with fail
        have f0 := F0.out; have f1 := F1.out; have f2 := F2.out
        refine bodyPost_ret (v := .tuple #[.agg #[.int .i64 0, .slice none 0 0, .slice none 0 0], .bool false]) (by simp [results, Tryz.results21, go_sem, f0, f1, f2]) rfl ?_
        exact rjoined_none HF.out HBL.out
      have HNS2 : Hid (ns ++ [s] = a.ns.take (i + 1) ∧ NamesTo a.ns b.ns (i + 1)) := Lib.hid ⟨by
        rw [HNS.out.1, List.take_succ_eq_append_getElem hin1, hs]
        simp [hin1], namesTo_next HNS.out.2 hin1 hin2 (by rw [← hs, ← ht, hst])⟩
      have HNL : Hid (ns.length ≤ M) := Lib.hid (by rw [HNS.out.1, List.length_take]; omega)
      clear hil1 hil2 hin1 hin2 hs ht hpc hqc
      subst hst
      have hnl := HNL.out
      have HA1 : Hid (W.cell? ⟨A, 1, none⟩ = some (.slice (some ⟨pb, po, none⟩) M q4)) := Lib.hid (by have := BA.out.cell 1; simpa using this)
      go_upto_region 12 with fail
      go_quiet (fail)
      obtain ⟨wq, hwq⟩ : ∃ wq, wq = wr.drewN nq := ⟨_, rfl⟩
      rw [← hwq]
      have hBq : Below wr.heap.size wr wq := by rw [hwq]; exact below_drewN (Below.refl _ _) _
      have hzq : wq.heap.size = wr.heap.size := by rw [hwq]; rfl
      have HGq := Lib.hid (HG.out.below hBq); have HOq := Lib.hid (HO.out.below hBq hOlt); have HOXq := Lib.hid (HOX.out.trans (Only.of_below hBq O)); have HBWq := Lib.hid (HBW.out.trans (hBq.mono HBW.out.size))
      clear a0 a1 a2 b1 b2 o0 o1 o2 fo2 u1 u2 hwq hBq
      have o0 := HOq.out.cell 0; have o1 := HOq.out.cell 1; have o2 := HOq.out.cell 2; have fo1 := HOq.out.frozen 1
      simp at o0 o1 o2
      have hOlq := HOq.out.lt
      go_upto_region 14 with fail
      go_cut [7] (fun iv wx => iv = .int .i64 (i : Int) ∧ ∃ an' cn', Hid (Blk wx O 36 #[.int .i64 K, .slice an' (ns ++ [s]).length cn', .slice ax us.length cx]) ∧ Hid (RGath tyE P W1.heap.size 36 wx (ns ++ [s]) us (.slice an' (ns ++ [s]).length cn') (.slice ax us.length cx)) ∧ Hid (Only W1 wx O) ∧ Hid (Below W.heap.size W wx))
      case first =>
        have hred := row_reads wq.drew [.string s] 9
        have hown6 := World.ownsRow.alloc (w := wq.drew) HGq.out.names (.cells #[.string s] 9)
        have HRED := Lib.hid hred; have HOWN6 := Lib.hid hown6
        clear hred hown6
        refine wp_region_held_drew (S := (fun X => Below W.heap.size W X)) (by kernel_rfl) (HBWq.out.drew) (fun hHeld => ?_)
        refine held_take (i := 0) (d := some 58) (v := ?_) rfl rfl (by kernel_rfl) (by kernel_rfl) (by kernel_rfl) (fun _ _ _ h => h) (by rfl) ?_ hHeld ?_
        rotate_left
        · (intro w hSw; (try dsimp only at hSw); have hS2 := (hSw.cell (p := ⟨A, 1, none⟩) hAlt).trans HA1.out; have hS4 := (hSw.cell (p := ⟨pb, po + i, none⟩) hpb).trans HPC.out; go_simp; try with_reducible rfl)
        try simp only [Act.put, List.setIfInBounds_toArray, List.set_cons_zero, List.set_cons_succ]
        refine held_take (i := 2) (d := some 60) (v := ?_) rfl rfl (by kernel_rfl) (by kernel_rfl) (by kernel_rfl) (fun _ _ _ h => h) (by rfl) ?_ hHeld ?_
        rotate_left
        · (intro w hSw; (try dsimp only at hSw); have hS2 := (hSw.cell (p := ⟨A, 1, none⟩) hAlt).trans HA1.out; have hS4 := (hSw.cell (p := ⟨pb, po + i, none⟩) hpb).trans HPC.out; go_simp; try with_reducible rfl)
        try simp only [Act.put, List.setIfInBounds_toArray, List.set_cons_zero, List.set_cons_succ]
        refine held_take (i := 3) (d := some 61) (v := ?_) rfl rfl (by kernel_rfl) (by kernel_rfl) (by kernel_rfl) (fun _ _ _ h => h) (by rfl) ?_ hHeld ?_
        rotate_left
        · (intro w hSw; (try dsimp only at hSw); have hS2 := (hSw.cell (p := ⟨A, 1, none⟩) hAlt).trans HA1.out; have hS4 := (hSw.cell (p := ⟨pb, po + i, none⟩) hpb).trans HPC.out; go_simp; try with_reducible rfl)
        try simp only [Act.put, List.setIfInBounds_toArray, List.set_cons_zero, List.set_cons_succ]
        refine held_take (i := 4) (d := some 62) (v := ?_) rfl rfl (by kernel_rfl) (by kernel_rfl) (by kernel_rfl) (fun _ _ _ h => h) (by rfl) ?_ hHeld ?_
        rotate_left
        · (intro w hSw; (try dsimp only at hSw); have hS2 := (hSw.cell (p := ⟨A, 1, none⟩) hAlt).trans HA1.out; have hS4 := (hSw.cell (p := ⟨pb, po + i, none⟩) hpb).trans HPC.out; go_simp; try with_reducible rfl)
        try simp only [Act.put, List.setIfInBounds_toArray, List.set_cons_zero, List.set_cons_succ]
        refine held_take (i := 5) (d := some 63) (v := ?_) rfl rfl (by kernel_rfl) (by kernel_rfl) (by kernel_rfl) (fun _ _ _ h => h) (by rfl) ?_ hHeld ?_
        rotate_left
        · (intro w hSw; (try dsimp only at hSw); have hS2 := (hSw.cell (p := ⟨A, 1, none⟩) hAlt).trans HA1.out; have hS4 := (hSw.cell (p := ⟨pb, po + i, none⟩) hpb).trans HPC.out; go_simp; try with_reducible rfl)
        try simp only [Act.put, List.setIfInBounds_toArray, List.set_cons_zero, List.set_cons_succ]
        refine held_take (i := 6) (d := some 64) (v := ?_) rfl rfl (by kernel_rfl) (by kernel_rfl) (by kernel_rfl) (fun _ _ _ h => h) (by rfl) ?_ hHeld ?_
        rotate_left
        · (intro w hSw; (try dsimp only at hSw); have hS2 := (hSw.cell (p := ⟨A, 1, none⟩) hAlt).trans HA1.out; have hS4 := (hSw.cell (p := ⟨pb, po + i, none⟩) hpb).trans HPC.out; go_simp; try with_reducible rfl)
        try simp only [Act.put, List.setIfInBounds_toArray, List.set_cons_zero, List.set_cons_succ]
        refine held_two (i := 1) (j := 7) (by kernel_rfl) rfl rfl (by rfl) (by rfl) (fun K hK => ?_) (fun K hK => ?_)
        · go_simp
          refine hK.out _ _ HBWq.out.drew (fun hHeld => ?_)
          clear hK K
          try simp only [Act.put, List.setIfInBounds_toArray, List.set_cons_zero, List.set_cons_succ]
          refine held_only (i := 7) (by kernel_rfl) rfl (by rfl) (fun K hK => ?_)
          go_simp
          refine hK.out _ _ (HBWq.out.drew.alloc HBWq.out.size _) (fun hHeld => ?_)
          clear hK K
          try simp only [Act.put, List.setIfInBounds_toArray, List.set_cons_zero, List.set_cons_succ]
          refine held_only (i := 8) (by kernel_rfl) rfl (by rfl) (fun K hK => ?_)
          refine wp_append_any (wq.drew.alloc (.cells #[.string s] 9)) (.tmp 59) (.tmp 65) 23 rfl W1.heap.size 9 i1 (.string ByteArray.empty) 1 16 Tryz.underlying23 hi1 hy0 hy1 hy2 rfl (by decide) (.slice an ns.length cn) ns.length (ns.map Value.string) rfl HOWN6.out (wq.heap.size + 1) (some ⟨wq.heap.size, 0, none⟩) 1 1 [.string s] (by simp [Act.eval]) HRED.out (one_str' s) (by unfold maxLen; omega) (by omega) (by simp; omega) ?_
          intro v' w8 hown' hgrow hor
          have hg8 := RGath.name (RGath.below HGq.out ((Below.refl wq.heap.size wq).drew.alloc (Nat.le_refl _) (.cells #[.string s] 9))) (by show W1.heap.size ≤ _; simp; omega) hown' hgrow hor
          have hne8 : some O ≠ (Value.slice an ns.length cn).ownBlock := fun e => by have := own_ge HGq.out.names e.symm; have := HO1.out.lt; omega
          have hb8 := Blk.grown (Blk.alloc (w := wq.drew) HOq.out (.cells #[.string s] 9)) hgrow hne8
          have hox8 := only_grown (HOXq.out.drew.alloc (.cells #[.string s] 9)) hgrow (fun k hk => own_ge HGq.out.names hk)
          have hbw8 := (HBWq.out.drew.alloc HBWq.out.size (.cells #[.string s] 9)).grown hgrow (by have := HBWq.out.size; simp; omega) (fun k hk => by have := own_ge HGq.out.names hk; have := HB1.out.size; omega)
          obtain ⟨an', cn', rfl⟩ := row_form hown'
          have c8 := hb8.cell 1
          have f8 := hb8.frozen 1
          have v8 := hb8.lt
          simp at c8
          have HG8 := Lib.hid hg8; have HB8 := Lib.hid hb8; have HOX8 := Lib.hid hox8; have HBW8 := Lib.hid hbw8
          clear hg8 hb8 hox8 hbw8 hown' hgrow hor hne8
          refine hK.out _ _ HBW8.out (fun hHeld => ?_)
          clear hK K
          try simp only [Act.put, List.setIfInBounds_toArray, List.set_cons_zero, List.set_cons_succ]
          refine held_take (i := 9) (d := some 67) (v := ?_) rfl rfl (by kernel_rfl) (by kernel_rfl) (by kernel_rfl) (fun _ _ _ h => h) (by rfl) ?_ hHeld ?_
          rotate_left
          · (intro w hSw; (try dsimp only at hSw); go_simp; try with_reducible rfl)
          try simp only [Act.put, List.setIfInBounds_toArray, List.set_cons_zero, List.set_cons_succ]
          refine held_only (i := 10) (by kernel_rfl) rfl (by rfl) (fun K hK => ?_)
          go_simp
          refine hK.out _ _ (HBW8.out.setCell (p := ⟨O, 1, none⟩) hWO _) (fun hHeld => ?_)
          clear hK K
          try simp only [Act.put, List.setIfInBounds_toArray, List.set_cons_zero, List.set_cons_succ]
          refine wpAnyH_done (by kernel_rfl) ?_ _
          have HB9 := Lib.hid (HB8.out.set_ 1 (.slice an' (ns.length + 1) cn'))
          have HG9 := Lib.hid (HG8.out.set_ (p := ⟨O, 1, none⟩) (fun b hb => by have := HPP.out b hb; have := HJ.out.size; show b ≠ O; omega) (by have := HO1.out.lt; exact this) (.slice an' (ns.length + 1) cn'))
          have HOX9 := Lib.hid (HOX8.out.set_ (p := ⟨O, 1, none⟩) (.inl rfl) (.slice an' (ns.length + 1) cn'))
          have HBW9 := Lib.hid (HBW8.out.setCell (p := ⟨O, 1, none⟩) hWO (.slice an' (ns.length + 1) cn'))
          go_wp2
          go_meet
          exact ⟨rfl, an', cn', by simpa using HB9, by simpa using HG9, HOX9, HBW9⟩
        · go_simp
          refine hK.out _ _ (HBWq.out.drew.alloc HBWq.out.size _) (fun hHeld => ?_)
          clear hK K
          try simp only [Act.put, List.setIfInBounds_toArray, List.set_cons_zero, List.set_cons_succ]
          refine held_only (i := 1) (by kernel_rfl) rfl (by rfl) (fun K hK => ?_)
          go_simp
          refine hK.out _ _ (HBWq.out.drew.alloc HBWq.out.size _) (fun hHeld => ?_)
          clear hK K
          try simp only [Act.put, List.setIfInBounds_toArray, List.set_cons_zero, List.set_cons_succ]
          refine held_only (i := 8) (by kernel_rfl) rfl (by rfl) (fun K hK => ?_)
          refine wp_append_any (wq.drew.alloc (.cells #[.string s] 9)) (.tmp 59) (.tmp 65) 23 rfl W1.heap.size 9 i1 (.string ByteArray.empty) 1 16 Tryz.underlying23 hi1 hy0 hy1 hy2 rfl (by decide) (.slice an ns.length cn) ns.length (ns.map Value.string) rfl HOWN6.out (wq.heap.size + 1) (some ⟨wq.heap.size, 0, none⟩) 1 1 [.string s] (by simp [Act.eval]) HRED.out (one_str' s) (by unfold maxLen; omega) (by omega) (by simp; omega) ?_
          intro v' w8 hown' hgrow hor
          have hg8 := RGath.name (RGath.below HGq.out ((Below.refl wq.heap.size wq).drew.alloc (Nat.le_refl _) (.cells #[.string s] 9))) (by show W1.heap.size ≤ _; simp; omega) hown' hgrow hor
          have hne8 : some O ≠ (Value.slice an ns.length cn).ownBlock := fun e => by have := own_ge HGq.out.names e.symm; have := HO1.out.lt; omega
          have hb8 := Blk.grown (Blk.alloc (w := wq.drew) HOq.out (.cells #[.string s] 9)) hgrow hne8
          have hox8 := only_grown (HOXq.out.drew.alloc (.cells #[.string s] 9)) hgrow (fun k hk => own_ge HGq.out.names hk)
          have hbw8 := (HBWq.out.drew.alloc HBWq.out.size (.cells #[.string s] 9)).grown hgrow (by have := HBWq.out.size; simp; omega) (fun k hk => by have := own_ge HGq.out.names hk; have := HB1.out.size; omega)
          obtain ⟨an', cn', rfl⟩ := row_form hown'
          have c8 := hb8.cell 1
          have f8 := hb8.frozen 1
          have v8 := hb8.lt
          simp at c8
          have HG8 := Lib.hid hg8; have HB8 := Lib.hid hb8; have HOX8 := Lib.hid hox8; have HBW8 := Lib.hid hbw8
          clear hg8 hb8 hox8 hbw8 hown' hgrow hor hne8
          refine hK.out _ _ HBW8.out (fun hHeld => ?_)
          clear hK K
          try simp only [Act.put, List.setIfInBounds_toArray, List.set_cons_zero, List.set_cons_succ]
          refine held_take (i := 9) (d := some 67) (v := ?_) rfl rfl (by kernel_rfl) (by kernel_rfl) (by kernel_rfl) (fun _ _ _ h => h) (by rfl) ?_ hHeld ?_
          rotate_left
          · (intro w hSw; (try dsimp only at hSw); go_simp; try with_reducible rfl)
          try simp only [Act.put, List.setIfInBounds_toArray, List.set_cons_zero, List.set_cons_succ]
          refine held_only (i := 10) (by kernel_rfl) rfl (by rfl) (fun K hK => ?_)
          go_simp
          refine hK.out _ _ (HBW8.out.setCell (p := ⟨O, 1, none⟩) hWO _) (fun hHeld => ?_)
          clear hK K
          try simp only [Act.put, List.setIfInBounds_toArray, List.set_cons_zero, List.set_cons_succ]
          refine wpAnyH_done (by kernel_rfl) ?_ _
          have HB9 := Lib.hid (HB8.out.set_ 1 (.slice an' (ns.length + 1) cn'))
          have HG9 := Lib.hid (HG8.out.set_ (p := ⟨O, 1, none⟩) (fun b hb => by have := HPP.out b hb; have := HJ.out.size; show b ≠ O; omega) (by have := HO1.out.lt; exact this) (.slice an' (ns.length + 1) cn'))
          have HOX9 := Lib.hid (HOX8.out.set_ (p := ⟨O, 1, none⟩) (.inl rfl) (.slice an' (ns.length + 1) cn'))
          have HBW9 := Lib.hid (HBW8.out.setCell (p := ⟨O, 1, none⟩) hWO (.slice an' (ns.length + 1) cn'))
          go_wp2
          go_meet
          exact ⟨rfl, an', cn', by simpa using HB9, by simpa using HG9, HOX9, HBW9⟩
      case rest =>
      obtain ⟨rfl, an', cn', HO', HG', HOX', HBW'⟩ := hcut
      obtain ⟨v9, hv9⟩ : ∃ v9 : World, v9 = wc := ⟨_, rfl⟩
      subst hv9
      obtain ⟨RJ, hRJ⟩ : ∃ RJ, RJ = x.joinT y := ⟨_, rfl⟩
      rw [← hRJ] at HC
      have HRJ := Lib.hid hRJ
      clear hRJ
      go_upto_region 15 with fail
      try clear a0 a1 a2 b1 b2 fo2
      try clear o0 o1 o2
      go_cut [7, 8, 9] (fun iv p8 p9 wx => iv = .int .i64 (i : Int) ∧ RItem v9 P RJ p8 p9 wx)
      case first =>
        refine wp_region_held_drew (S := (fun X => Below W.heap.size W X)) (by kernel_rfl) (HBW'.out.drew) (fun hHeld => ?_)
        refine held_take (i := 0) (d := some 69) (v := ?_) rfl rfl (by kernel_rfl) (by kernel_rfl) (by kernel_rfl) (fun _ _ _ h => h) (by rfl) ?_ hHeld ?_
        rotate_left
        · (intro w hSw; (try dsimp only at hSw); have hS2 := (hSw.cell (p := ⟨A, 2, none⟩) hAlt).trans HA2.out; have hS3 := (hSw.cell (p := ⟨A + 1, 2, none⟩) hA1lt).trans HB2.out; have hS4 := (hSw.cell (p := ⟨xb, xo + i * 3, none⟩) hxbW).trans HU0.out; have hS5 := (hSw.cell (p := ⟨xb, xo + i * 3 + 1, none⟩) hxbW).trans HU1.out; have hS6 := (hSw.cell (p := ⟨xb, xo + i * 3 + 2, none⟩) hxbW).trans HU2.out; have hS7 := (hSw.cell (p := ⟨yb, yo + i * 3, none⟩) hybW).trans HV0.out; have hS8 := (hSw.cell (p := ⟨yb, yo + i * 3 + 1, none⟩) hybW).trans HV1.out; have hS9 := (hSw.cell (p := ⟨yb, yo + i * 3 + 2, none⟩) hybW).trans HV2.out; go_simp; try with_reducible rfl)
        try simp only [Act.put, List.setIfInBounds_toArray, List.set_cons_zero, List.set_cons_succ]
        refine held_take (i := 1) (d := some 70) (v := ?_) rfl rfl (by kernel_rfl) (by kernel_rfl) (by kernel_rfl) (fun _ _ _ h => h) (by rfl) ?_ hHeld ?_
        rotate_left
        · (intro w hSw; (try dsimp only at hSw); have hS2 := (hSw.cell (p := ⟨A, 2, none⟩) hAlt).trans HA2.out; have hS3 := (hSw.cell (p := ⟨A + 1, 2, none⟩) hA1lt).trans HB2.out; have hS4 := (hSw.cell (p := ⟨xb, xo + i * 3, none⟩) hxbW).trans HU0.out; have hS5 := (hSw.cell (p := ⟨xb, xo + i * 3 + 1, none⟩) hxbW).trans HU1.out; have hS6 := (hSw.cell (p := ⟨xb, xo + i * 3 + 2, none⟩) hxbW).trans HU2.out; have hS7 := (hSw.cell (p := ⟨yb, yo + i * 3, none⟩) hybW).trans HV0.out; have hS8 := (hSw.cell (p := ⟨yb, yo + i * 3 + 1, none⟩) hybW).trans HV1.out; have hS9 := (hSw.cell (p := ⟨yb, yo + i * 3 + 2, none⟩) hybW).trans HV2.out; go_simp; try with_reducible rfl)
        try simp only [Act.put, List.setIfInBounds_toArray, List.set_cons_zero, List.set_cons_succ]
        refine held_take (i := 2) (d := some 71) (v := ?_) rfl rfl (by kernel_rfl) (by kernel_rfl) (by kernel_rfl) (fun _ _ _ h => h) (by rfl) ?_ hHeld ?_
        rotate_left
        · (intro w hSw; (try dsimp only at hSw); have hS2 := (hSw.cell (p := ⟨A, 2, none⟩) hAlt).trans HA2.out; have hS3 := (hSw.cell (p := ⟨A + 1, 2, none⟩) hA1lt).trans HB2.out; have hS4 := (hSw.cell (p := ⟨xb, xo + i * 3, none⟩) hxbW).trans HU0.out; have hS5 := (hSw.cell (p := ⟨xb, xo + i * 3 + 1, none⟩) hxbW).trans HU1.out; have hS6 := (hSw.cell (p := ⟨xb, xo + i * 3 + 2, none⟩) hxbW).trans HU2.out; have hS7 := (hSw.cell (p := ⟨yb, yo + i * 3, none⟩) hybW).trans HV0.out; have hS8 := (hSw.cell (p := ⟨yb, yo + i * 3 + 1, none⟩) hybW).trans HV1.out; have hS9 := (hSw.cell (p := ⟨yb, yo + i * 3 + 2, none⟩) hybW).trans HV2.out; go_simp; try with_reducible rfl)
        try simp only [Act.put, List.setIfInBounds_toArray, List.set_cons_zero, List.set_cons_succ]
        refine held_take (i := 3) (d := some 72) (v := ?_) rfl rfl (by kernel_rfl) (by kernel_rfl) (by kernel_rfl) (fun _ _ _ h => h) (by rfl) ?_ hHeld ?_
        rotate_left
        · (intro w hSw; (try dsimp only at hSw); have hS2 := (hSw.cell (p := ⟨A, 2, none⟩) hAlt).trans HA2.out; have hS3 := (hSw.cell (p := ⟨A + 1, 2, none⟩) hA1lt).trans HB2.out; have hS4 := (hSw.cell (p := ⟨xb, xo + i * 3, none⟩) hxbW).trans HU0.out; have hS5 := (hSw.cell (p := ⟨xb, xo + i * 3 + 1, none⟩) hxbW).trans HU1.out; have hS6 := (hSw.cell (p := ⟨xb, xo + i * 3 + 2, none⟩) hxbW).trans HU2.out; have hS7 := (hSw.cell (p := ⟨yb, yo + i * 3, none⟩) hybW).trans HV0.out; have hS8 := (hSw.cell (p := ⟨yb, yo + i * 3 + 1, none⟩) hybW).trans HV1.out; have hS9 := (hSw.cell (p := ⟨yb, yo + i * 3 + 2, none⟩) hybW).trans HV2.out; go_simp; try with_reducible rfl)
        try simp only [Act.put, List.setIfInBounds_toArray, List.set_cons_zero, List.set_cons_succ]
        refine held_take (i := 4) (d := some 73) (v := ?_) rfl rfl (by kernel_rfl) (by kernel_rfl) (by kernel_rfl) (fun _ _ _ h => h) (by rfl) ?_ hHeld ?_
        rotate_left
        · (intro w hSw; (try dsimp only at hSw); have hS2 := (hSw.cell (p := ⟨A, 2, none⟩) hAlt).trans HA2.out; have hS3 := (hSw.cell (p := ⟨A + 1, 2, none⟩) hA1lt).trans HB2.out; have hS4 := (hSw.cell (p := ⟨xb, xo + i * 3, none⟩) hxbW).trans HU0.out; have hS5 := (hSw.cell (p := ⟨xb, xo + i * 3 + 1, none⟩) hxbW).trans HU1.out; have hS6 := (hSw.cell (p := ⟨xb, xo + i * 3 + 2, none⟩) hxbW).trans HU2.out; have hS7 := (hSw.cell (p := ⟨yb, yo + i * 3, none⟩) hybW).trans HV0.out; have hS8 := (hSw.cell (p := ⟨yb, yo + i * 3 + 1, none⟩) hybW).trans HV1.out; have hS9 := (hSw.cell (p := ⟨yb, yo + i * 3 + 2, none⟩) hybW).trans HV2.out; go_simp; try with_reducible rfl)
        try simp only [Act.put, List.setIfInBounds_toArray, List.set_cons_zero, List.set_cons_succ]
        refine held_take (i := 5) (d := some 74) (v := ?_) rfl rfl (by kernel_rfl) (by kernel_rfl) (by kernel_rfl) (fun _ _ _ h => h) (by rfl) ?_ hHeld ?_
        rotate_left
        · (intro w hSw; (try dsimp only at hSw); have hS2 := (hSw.cell (p := ⟨A, 2, none⟩) hAlt).trans HA2.out; have hS3 := (hSw.cell (p := ⟨A + 1, 2, none⟩) hA1lt).trans HB2.out; have hS4 := (hSw.cell (p := ⟨xb, xo + i * 3, none⟩) hxbW).trans HU0.out; have hS5 := (hSw.cell (p := ⟨xb, xo + i * 3 + 1, none⟩) hxbW).trans HU1.out; have hS6 := (hSw.cell (p := ⟨xb, xo + i * 3 + 2, none⟩) hxbW).trans HU2.out; have hS7 := (hSw.cell (p := ⟨yb, yo + i * 3, none⟩) hybW).trans HV0.out; have hS8 := (hSw.cell (p := ⟨yb, yo + i * 3 + 1, none⟩) hybW).trans HV1.out; have hS9 := (hSw.cell (p := ⟨yb, yo + i * 3 + 2, none⟩) hybW).trans HV2.out; go_simp; try with_reducible rfl)
        try simp only [Act.put, List.setIfInBounds_toArray, List.set_cons_zero, List.set_cons_succ]
        refine held_take (i := 6) (d := some 75) (v := ?_) rfl rfl (by kernel_rfl) (by kernel_rfl) (by kernel_rfl) (fun _ _ _ h => h) (by rfl) ?_ hHeld ?_
        rotate_left
        · (intro w hSw; (try dsimp only at hSw); have hS2 := (hSw.cell (p := ⟨A, 2, none⟩) hAlt).trans HA2.out; have hS3 := (hSw.cell (p := ⟨A + 1, 2, none⟩) hA1lt).trans HB2.out; have hS4 := (hSw.cell (p := ⟨xb, xo + i * 3, none⟩) hxbW).trans HU0.out; have hS5 := (hSw.cell (p := ⟨xb, xo + i * 3 + 1, none⟩) hxbW).trans HU1.out; have hS6 := (hSw.cell (p := ⟨xb, xo + i * 3 + 2, none⟩) hxbW).trans HU2.out; have hS7 := (hSw.cell (p := ⟨yb, yo + i * 3, none⟩) hybW).trans HV0.out; have hS8 := (hSw.cell (p := ⟨yb, yo + i * 3 + 1, none⟩) hybW).trans HV1.out; have hS9 := (hSw.cell (p := ⟨yb, yo + i * 3 + 2, none⟩) hybW).trans HV2.out; go_simp; try with_reducible rfl)
        try simp only [Act.put, List.setIfInBounds_toArray, List.set_cons_zero, List.set_cons_succ]
        refine held_take (i := 7) (d := some 76) (v := ?_) rfl rfl (by kernel_rfl) (by kernel_rfl) (by kernel_rfl) (fun _ _ _ h => h) (by rfl) ?_ hHeld ?_
        rotate_left
        · (intro w hSw; (try dsimp only at hSw); have hS2 := (hSw.cell (p := ⟨A, 2, none⟩) hAlt).trans HA2.out; have hS3 := (hSw.cell (p := ⟨A + 1, 2, none⟩) hA1lt).trans HB2.out; have hS4 := (hSw.cell (p := ⟨xb, xo + i * 3, none⟩) hxbW).trans HU0.out; have hS5 := (hSw.cell (p := ⟨xb, xo + i * 3 + 1, none⟩) hxbW).trans HU1.out; have hS6 := (hSw.cell (p := ⟨xb, xo + i * 3 + 2, none⟩) hxbW).trans HU2.out; have hS7 := (hSw.cell (p := ⟨yb, yo + i * 3, none⟩) hybW).trans HV0.out; have hS8 := (hSw.cell (p := ⟨yb, yo + i * 3 + 1, none⟩) hybW).trans HV1.out; have hS9 := (hSw.cell (p := ⟨yb, yo + i * 3 + 2, none⟩) hybW).trans HV2.out; go_simp; try with_reducible rfl)
        try simp only [Act.put, List.setIfInBounds_toArray, List.set_cons_zero, List.set_cons_succ]
        refine held_take (i := 8) (d := some 77) (v := ?_) rfl rfl (by kernel_rfl) (by kernel_rfl) (by kernel_rfl) (fun _ _ _ h => h) (by rfl) ?_ hHeld ?_
        rotate_left
        · (intro w hSw; (try dsimp only at hSw); have hS2 := (hSw.cell (p := ⟨A, 2, none⟩) hAlt).trans HA2.out; have hS3 := (hSw.cell (p := ⟨A + 1, 2, none⟩) hA1lt).trans HB2.out; have hS4 := (hSw.cell (p := ⟨xb, xo + i * 3, none⟩) hxbW).trans HU0.out; have hS5 := (hSw.cell (p := ⟨xb, xo + i * 3 + 1, none⟩) hxbW).trans HU1.out; have hS6 := (hSw.cell (p := ⟨xb, xo + i * 3 + 2, none⟩) hxbW).trans HU2.out; have hS7 := (hSw.cell (p := ⟨yb, yo + i * 3, none⟩) hybW).trans HV0.out; have hS8 := (hSw.cell (p := ⟨yb, yo + i * 3 + 1, none⟩) hybW).trans HV1.out; have hS9 := (hSw.cell (p := ⟨yb, yo + i * 3 + 2, none⟩) hybW).trans HV2.out; go_simp; try with_reducible rfl)
        try simp only [Act.put, List.setIfInBounds_toArray, List.set_cons_zero, List.set_cons_succ]
        refine held_take (i := 9) (d := some 78) (v := ?_) rfl rfl (by kernel_rfl) (by kernel_rfl) (by kernel_rfl) (fun _ _ _ h => h) (by rfl) ?_ hHeld ?_
        rotate_left
        · (intro w hSw; (try dsimp only at hSw); have hS2 := (hSw.cell (p := ⟨A, 2, none⟩) hAlt).trans HA2.out; have hS3 := (hSw.cell (p := ⟨A + 1, 2, none⟩) hA1lt).trans HB2.out; have hS4 := (hSw.cell (p := ⟨xb, xo + i * 3, none⟩) hxbW).trans HU0.out; have hS5 := (hSw.cell (p := ⟨xb, xo + i * 3 + 1, none⟩) hxbW).trans HU1.out; have hS6 := (hSw.cell (p := ⟨xb, xo + i * 3 + 2, none⟩) hxbW).trans HU2.out; have hS7 := (hSw.cell (p := ⟨yb, yo + i * 3, none⟩) hybW).trans HV0.out; have hS8 := (hSw.cell (p := ⟨yb, yo + i * 3 + 1, none⟩) hybW).trans HV1.out; have hS9 := (hSw.cell (p := ⟨yb, yo + i * 3 + 2, none⟩) hybW).trans HV2.out; go_simp; try with_reducible rfl)
        try simp only [Act.put, List.setIfInBounds_toArray, List.set_cons_zero, List.set_cons_succ]
        refine held_two (i := 10) (j := 14) (by kernel_rfl) rfl rfl (by rfl) (by rfl) (fun K hK => ?_) (fun K hK => ?_)
        · go_simp
          go_at_call 21
          refine (HC.out _ HBW'.out.drew).mono ?_
          rintro e w6 ⟨hb6, u, rfl, hui, hus, hue⟩
          obtain ⟨a4, b4, k4⟩ := hui.nslice
          obtain ⟨a5, b5, k5⟩ := hui.xslice
          unfold Ty.agg
          rw [k4, k5]
          have hb6' : Below v9.heap.size v9 w6 := (Below.refl v9.heap.size v9).drew.trans hb6
          have hbW6 : Below W.heap.size W w6 := HBW'.out.trans (hb6'.mono HBW'.out.size)
          have HB6 := Lib.hid hb6'; have HUI := Lib.hid hui; have HUS := Lib.hid hus; have HUE := Lib.hid hue; have HBW6 := Lib.hid hbW6; have HK4 := Lib.hid k4; have HK5 := Lib.hid k5
          clear hb6 hb6' hui hus hue hbW6 k4 k5
          refine hK.out _ _ HBW6.out (fun hHeld => ?_)
          clear hK K
          try simp only [Act.put, List.setIfInBounds_toArray, List.set_cons_zero, List.set_cons_succ]
          refine held_take (i := 11) (d := some 68) (v := ?_) rfl rfl (by kernel_rfl) (by kernel_rfl) (by kernel_rfl) (fun _ _ _ h => h) (by rfl) ?_ hHeld ?_
          rotate_left
          · (intro w hSw; (try dsimp only at hSw); go_simp; try with_reducible rfl)
          try simp only [Act.put, List.setIfInBounds_toArray, List.set_cons_zero, List.set_cons_succ]
          refine held_take (i := 12) (d := some 80) (v := ?_) rfl rfl (by kernel_rfl) (by kernel_rfl) (by kernel_rfl) (fun _ _ _ h => h) (by rfl) ?_ hHeld ?_
          rotate_left
          · (intro w hSw; (try dsimp only at hSw); go_simp; try with_reducible rfl)
          try simp only [Act.put, List.setIfInBounds_toArray, List.set_cons_zero, List.set_cons_succ]
          refine held_take (i := 13) (d := some 81) (v := ?_) rfl rfl (by kernel_rfl) (by kernel_rfl) (by kernel_rfl) (fun _ _ _ h => h) (by rfl) ?_ hHeld ?_
          rotate_left
          · (intro w hSw; (try dsimp only at hSw); go_simp; try with_reducible rfl)
          try simp only [Act.put, List.setIfInBounds_toArray, List.set_cons_zero, List.set_cons_succ]
          refine held_only (i := 14) (by kernel_rfl) rfl (by rfl) (fun K hK => ?_)
          go_simp
          refine hK.out _ _ (HBW6.out.alloc HBW6.out.size _) (fun hHeld => ?_)
          clear hK K
          try simp only [Act.put, List.setIfInBounds_toArray, List.set_cons_zero, List.set_cons_succ]
          have hn6 := Blk.new w6 36 #[.int .i64 0, .slice none 0 0, .slice none 0 0]
          have z0 := hn6.cell 0; have z1 := hn6.cell 1; have z2 := hn6.cell 2
          have y0 := hn6.frozen 0; have y1 := hn6.frozen 1; have y2 := hn6.frozen 2
          simp at z0 z1 z2
          clear hn6
          refine held_only (i := 15) (by kernel_rfl) rfl (by rfl) (fun K hK => ?_)
          go_simp
          refine hK.out _ _ (HBW6.out.alloc HBW6.out.size _) (fun hHeld => ?_)
          clear hK K
          try simp only [Act.put, List.setIfInBounds_toArray, List.set_cons_zero, List.set_cons_succ]
          clear z0 z1 z2 y0 y1 y2
          refine held_take (i := 16) (d := some 9) (v := ?_) rfl rfl (by kernel_rfl) (by kernel_rfl) (by kernel_rfl) (fun _ _ _ h => h) (by rfl) ?_ hHeld ?_
          rotate_left
          · (intro w hSw; (try dsimp only at hSw); go_simp; try with_reducible rfl)
          try simp only [Act.put, List.setIfInBounds_toArray, List.set_cons_zero, List.set_cons_succ]
          refine wpAnyH_done (by kernel_rfl) ?_ _
          go_wp2
          go_meet
          exact ⟨rfl, ritem_new HB6.out HK4.out HK5.out HUI.out HUS.out HUE.out⟩
        · go_simp
          refine hK.out _ _ (HBW'.out.drew.alloc HBW'.out.size _) (fun hHeld => ?_)
          clear hK K
          try simp only [Act.put, List.setIfInBounds_toArray, List.set_cons_zero, List.set_cons_succ]
          refine held_only (i := 10) (by kernel_rfl) rfl (by rfl) (fun K hK => ?_)
          go_simp
          go_at_call 21
          refine (HC.out _ (HBW'.out.drew.alloc HBW'.out.size _)).mono ?_
          rintro e w6 ⟨hb6, u, rfl, hui, hus, hue⟩
          obtain ⟨a4, b4, k4⟩ := hui.nslice
          obtain ⟨a5, b5, k5⟩ := hui.xslice
          unfold Ty.agg
          rw [k4, k5]
          have hbA : Below v9.heap.size v9 (v9.drew.alloc (.cells #[.int .i64 0, .slice none 0 0, .slice none 0 0] 36)) := (Below.refl v9.heap.size v9).drew.alloc (Nat.le_refl _) _
          have hb6' : Below v9.heap.size v9 w6 := hbA.trans (hb6.mono hbA.size)
          have hX6 : Blk w6 v9.heap.size 36 #[.int .i64 0, .slice none 0 0, .slice none 0 0] := (Blk.new v9.drew 36 _).below hb6 (by simp)
          have hus' : u.Sep (fun b => (P b ∨ v9.heap.size ≤ b) ∧ b ≠ v9.heap.size) := hus.mono (fun b hb => by
            have hz' : (v9.drew.alloc (.cells #[.int .i64 0, .slice none 0 0, .slice none 0 0] 36)).heap.size = v9.heap.size + 1 := by simp
            have := HJ.out.size
            have := HBW'.out.size
            rcases hb with hb | hb
            · exact ⟨.inl hb, by have := HPP.out b hb; omega⟩
            · rw [hz'] at hb
              exact ⟨.inr (by omega), by omega⟩)
          have HX6 := Lib.hid hX6; have HUS' := Lib.hid hus'
          clear hbA hX6 hus' 
          have hbW6 : Below W.heap.size W w6 := HBW'.out.trans (hb6'.mono HBW'.out.size)
          have HB6 := Lib.hid hb6'; have HUI := Lib.hid hui; have HUS := Lib.hid hus; have HUE := Lib.hid hue; have HBW6 := Lib.hid hbW6; have HK4 := Lib.hid k4; have HK5 := Lib.hid k5
          clear hb6 hb6' hui hus hue hbW6 k4 k5
          refine hK.out _ _ HBW6.out (fun hHeld => ?_)
          clear hK K
          try simp only [Act.put, List.setIfInBounds_toArray, List.set_cons_zero, List.set_cons_succ]
          refine held_take (i := 11) (d := some 68) (v := ?_) rfl rfl (by kernel_rfl) (by kernel_rfl) (by kernel_rfl) (fun _ _ _ h => h) (by rfl) ?_ hHeld ?_
          rotate_left
          · (intro w hSw; (try dsimp only at hSw); go_simp; try with_reducible rfl)
          try simp only [Act.put, List.setIfInBounds_toArray, List.set_cons_zero, List.set_cons_succ]
          refine held_take (i := 12) (d := some 80) (v := ?_) rfl rfl (by kernel_rfl) (by kernel_rfl) (by kernel_rfl) (fun _ _ _ h => h) (by rfl) ?_ hHeld ?_
          rotate_left
          · (intro w hSw; (try dsimp only at hSw); go_simp; try with_reducible rfl)
          try simp only [Act.put, List.setIfInBounds_toArray, List.set_cons_zero, List.set_cons_succ]
          refine held_take (i := 13) (d := some 81) (v := ?_) rfl rfl (by kernel_rfl) (by kernel_rfl) (by kernel_rfl) (fun _ _ _ h => h) (by rfl) ?_ hHeld ?_
          rotate_left
          · (intro w hSw; (try dsimp only at hSw); go_simp; try with_reducible rfl)
          try simp only [Act.put, List.setIfInBounds_toArray, List.set_cons_zero, List.set_cons_succ]
          have hXW : W.heap.size ≤ v9.heap.size := HBW'.out.size
          have z0 := HX6.out.cell 0; have z1 := HX6.out.cell 1; have z2 := HX6.out.cell 2
          have y0 := HX6.out.frozen 0; have y1 := HX6.out.frozen 1; have y2 := HX6.out.frozen 2
          simp at z0 z1 z2
          refine held_only (i := 15) (by kernel_rfl) rfl (by rfl) (fun K hK => ?_)
          go_simp
          refine hK.out _ _ (below3_set HBW6.out hXW _ _ _) (fun hHeld => ?_)
          clear hK K
          try simp only [Act.put, List.setIfInBounds_toArray, List.set_cons_zero, List.set_cons_succ]
          clear z0 z1 z2 y0 y1 y2
          refine held_take (i := 16) (d := some 9) (v := ?_) rfl rfl (by kernel_rfl) (by kernel_rfl) (by kernel_rfl) (fun _ _ _ h => h) (by rfl) ?_ hHeld ?_
          rotate_left
          · (intro w hSw; (try dsimp only at hSw); go_simp; try with_reducible rfl)
          try simp only [Act.put, List.setIfInBounds_toArray, List.set_cons_zero, List.set_cons_succ]
          refine wpAnyH_done (by kernel_rfl) ?_ _
          go_wp2
          go_meet
          exact ⟨rfl, ritem_set HB6.out (Nat.le_refl _) HX6.out HK4.out HK5.out HUI.out HUS'.out HUE.out⟩
      case rest =>
      obtain ⟨rfl, X, u, rfl, rfl, hbx, hbX, hui, hus, hue⟩ := hcut
      have hO2 := HO'.out.below hbx HO'.out.lt
      have hG2 := HG'.out.below hbx
      have hOX2 := HOX'.out.trans (Only.of_below hbx O)
      have hBW2 := HBW'.out.trans (hbx.mono HBW'.out.size)
      have hbr := BR.out.below hBW2 BR.out.lt
      obtain ⟨a4, b4, k4⟩ := hui.nslice
      obtain ⟨a5, b5, k5⟩ := hui.xslice
      rw [k4, k5] at hbX
      have o0 := hO2.cell 0; have o1 := hO2.cell 1; have o2 := hO2.cell 2; have fo2 := hO2.frozen 2
      have x0 := hbX.cell 0; have x1 := hbX.cell 1; have x2 := hbX.cell 2
      simp at o0 o1 o2 x0 x1 x2
      have HO2 := Lib.hid hO2; have HG2 := Lib.hid hG2; have HOX2 := Lib.hid hOX2; have HBW2 := Lib.hid hBW2; have HBR := Lib.hid hbr; have HUI := Lib.hid hui; have HUS := Lib.hid hus; have HUE := Lib.hid hue; have HK4 := Lib.hid k4; have HK5 := Lib.hid k5
      have hzw := hbx.size
      have hzX := hbX.lt
      clear hO2 hG2 hOX2 hBW2 hbr hui hus hue k4 k5 hbX hbx
      cases RJ with
      | none =>
        have HF : Hid (a.joinT b = none) := Lib.hid (by
          rw [HE.out]
          split
          · rw [HNO.out HRJ.out.symm]; rfl
          · rfl)
        simp only [Option.isSome_none]
        have r0 := HBR.out.cell 0; have r1 := HBR.out.cell 1; have r2 := HBR.out.cell 2
        have s0 := HBR.out.frozen 0; have s1 := HBR.out.frozen 1; have s2 := HBR.out.frozen 2
        simp at r0 r1 r2
        have HBL := Lib.hid (below3_set (HJ.out.trans (HBW2.out.mono HJ.out.size)) (show w.heap.size ≤ A + 1 + 1 by have := HA.out; omega) (.int .i64 0) (.slice none 0 0) (.slice none 0 0))
        have hF := blk3_set HBR.out (.int .i64 0) (.slice none 0 0) (.slice none 0 0)
        have f0 := hF.cell 0; have f1 := hF.cell 1; have f2 := hF.cell 2
        simp at f0 f1 f2
        have F0 := Lib.hid f0; have F1 := Lib.hid f1; have F2 := Lib.hid f2
        clear hF f0 f1 f2
        go_wp2_with fail
        have f0 := F0.out; have f1 := F1.out; have f2 := F2.out
        refine bodyPost_ret (v := .tuple #[.agg #[.int .i64 0, .slice none 0 0, .slice none 0 0], .bool false]) (by simp [results, Tryz.results21, go_sem, f0, f1, f2]) rfl ?_
        exact rjoined_none HF.out HBL.out
      | some v =>
        simp only [Option.isSome_some]
        have HR2 := Lib.hid (HSO.out v HRJ.out.symm)
        have HUE2 : Hid (u.erase = v) := Lib.hid HUE.out
        have hred : Reads (wc.alloc (.cells #[.int .i64 u.k, .slice a4 u.ns.length b4, .slice a5 u.xs.length b5] 36)) (wc.heap.size + 1) 3 (some ⟨wc.heap.size, 0, none⟩) 1 u.cells := by
          unfold Ty.cells; rw [HK4.out, HK5.out]; exact row_reads wc _ 36
        have hown6 := HG2.out.items.alloc (.cells #[.int .i64 u.k, .slice a4 u.ns.length b4, .slice a5 u.xs.length b5] 36)
        have HRED := Lib.hid hred; have HOWN6 := Lib.hid hown6
        have HZS2 := Lib.hid (fun b (hb : (Value.slice an' (ns ++ [s]).length cn').ownBlock = some b) => (HG'.out.names.lt b hb).2)
        have HZX2 := Lib.hid (fun b (hb : (Value.slice ax us.length cx).ownBlock = some b) => (HG'.out.items.lt b hb).2)
        clear hred hown6
        have hW19 : W1.heap.size ≤ v9.heap.size := HOX'.out.size
        go_wp2_with (at_builtin; refine wpList_append_any _ rfl _ _ 34 rfl W1.heap.size 36 i0 (.agg #[.int .i64 0, .slice none 0 0, .slice none 0 0]) 3 56 Tryz.underlying34 hi0 hz0 hz1 hz2 rfl (by decide) _ us.length (tyE.row us) rfl HOWN6.out (wc.heap.size + 1) _ 1 _ u.cells rfl HRED.out (tyE.one u) ?c1 ?c2 ?c3 ?_)
        case c1 => unfold maxLen; omega
        case c2 => omega
        case c3 => simp; omega
        intro v' w8 hown' hgrow hor
        have hg8 := RGath.item (RGath.below HG2.out ((Below.refl _ wc).alloc (Nat.le_refl _) (.cells #[.int .i64 u.k, .slice a4 u.ns.length b4, .slice a5 u.xs.length b5] 36))) hPW (by simp; omega) (HUI.out.below ((Below.refl _ wc).alloc (Nat.le_refl _) (.cells #[.int .i64 u.k, .slice a4 u.ns.length b4, .slice a5 u.xs.length b5] 36))) HUS.out hW19 HZS2.out HZX2.out hown' hgrow (by simpa using hor)
        have hne8 : some O ≠ (Value.slice ax us.length cx).ownBlock := fun e => by have := own_ge HG2.out.items e.symm; have := HO1.out.lt; omega
        have hb8 := Blk.grown (HO2.out.alloc (.cells #[.int .i64 u.k, .slice a4 u.ns.length b4, .slice a5 u.xs.length b5] 36)) hgrow hne8
        have hox8 := only_grown (HOX2.out.alloc (.cells #[.int .i64 u.k, .slice a4 u.ns.length b4, .slice a5 u.xs.length b5] 36)) hgrow (fun k hk => own_ge HG2.out.items hk)
        obtain ⟨ax', cx', rfl⟩ := row_form hown'
        have c8 := hb8.cell 2
        have f8 := hb8.frozen 2
        have v8 := hb8.lt
        simp at c8
        have HG8 := Lib.hid hg8; have HB8 := Lib.hid hb8; have HOX8 := Lib.hid hox8
        clear hg8 hb8 hox8 hown' hgrow hor hne8 o0 o1 o2 fo2 x0 x1 x2
        have HB9 := Lib.hid (HB8.out.set_ 2 (.slice ax' (us.length + 1) cx'))
        have HG9 := Lib.hid (HG8.out.set_ (p := ⟨O, 2, none⟩) (fun b hb => by have := HPP.out b hb; have := HJ.out.size; show b ≠ O; omega) (by have := HO1.out.lt; exact this) (.slice ax' (us.length + 1) cx'))
        have HOX9 := Lib.hid (HOX8.out.set_ (p := ⟨O, 2, none⟩) (.inl rfl) (.slice ax' (us.length + 1) cx'))
        go_wp2
        go_roundw
        case rel => exact ⟨i + 1, (ns ++ [s]), us ++ [u], an', ax', cn', cx', by go_num, by omega, Lib.hid (by simp [HUL.out]), Lib.hid (by rw [List.map_append, List.map_cons, List.map_nil, HUE2.out]; exact HR2.out), HNS2, by simpa using HB9, by simpa using HG9, by simpa using HOX9⟩
        case measure => simp [intOf]; omega
    · obtain rfl : i = M := by omega
      have hdone : J = some (us.map Ty.erase) := by
        rw [HR.out, List.drop_eq_nil_of_le (by rw [← HM.out]; exact Nat.le_refl _)]
        simp [Ty.joinAll]
      have hnsa : ns = a.ns := by
        rw [HNS.out.1]
        exact List.take_of_length_le (by rw [← HL1.out, HLM.out]; exact Nat.le_refl _)
      have hnab : a.ns = b.ns := by
        have h := HNS.out.2
        unfold NamesTo at h
        rw [List.take_of_length_le (by rw [← HL1.out, HLM.out]; exact Nat.le_refl _), List.take_of_length_le (by rw [← HL2.out, HLM2.out]; exact Nat.le_refl _)] at h
        exact h
      have hjt : a.joinT b = some (.mk K .no ns .no (us.map Ty.erase)) := by
        rw [HE.out, if_pos ⟨by trivial, hnab⟩, hdone, hnsa]
        rfl
      have hbr := BR.out.below HBW.out BR.out.lt
      have r0 := hbr.cell 0; have r1 := hbr.cell 1; have r2 := hbr.cell 2
      have s0 := hbr.frozen 0; have s1 := hbr.frozen 1; have s2 := hbr.frozen 2
      simp at r0 r1 r2
      obtain ⟨WF, hWF⟩ : ∃ WF, WF = ((wr.setCell ⟨A + 1 + 1, 0, none⟩ (.int .i64 K)).setCell ⟨A + 1 + 1, 1, none⟩ (.slice an ns.length cn)).setCell ⟨A + 1 + 1, 2, none⟩ (.slice ax us.length cx) := ⟨_, rfl⟩
      have hbF : Blk WF (A + 1 + 1) 36 #[.int .i64 K, .slice an ns.length cn, .slice ax us.length cx] := by rw [hWF]; exact blk3_set hbr _ _ _
      have hBF : Below w.heap.size w WF := by
        rw [hWF]
        exact below3_set (HJ.out.trans (HBW.out.mono HJ.out.size)) (by have := HA.out; omega) _ _ _
      obtain ⟨u, hu1, hu2, hu3, hu4⟩ := rjoin_end HA.out (by have := HWS.out; have := HB1.out.size; omega) HPP.out hWF HG.out HKR.out (by rw [hnsa]; exact HOK.out.2.1) (by rw [HUL.out]; omega) (by rw [hnsa]; exact HOK.out.2.2.2)
      have HWF := Lib.hid hWF; have HBF := Lib.hid hbF; have HBL := Lib.hid hBF; have HU1 := Lib.hid hu1; have HU2 := Lib.hid hu2; have HU3 := Lib.hid hu3; have HU4 := Lib.hid hu4; have HDN := Lib.hid hjt
      have t1 : decide ((i : Int) < (i : Int)) = false := by simp
      clear hWF hbF hBF hu1 hu2 hu3 hu4 hdone hjt hbr hlt hnsa hnab
      go_wp2_with fail
      rw [← HWF.out]
      clear r0 r1 r2 s0 s1 s2
      have f0 := HBF.out.cell 0; have f1 := HBF.out.cell 1; have f2 := HBF.out.cell 2
      simp at f0 f1 f2
      refine bodyPost_ret (v := .tuple #[.agg #[.int .i64 K, .slice an ns.length cn, .slice ax us.length cx], .bool true]) (by simp [results, Tryz.results21, go_sem, f0, f1, f2]) rfl ?_
      refine ⟨HBL.out, ?_⟩
      rw [HDN.out]
      exact ⟨u, by rw [HU1.out]; rfl, HU3.out, HU4.out, HU2.out⟩

set_option maxHeartbeats 4000000 in
set_option maxRecDepth 100000 in
theorem rjoin_oth (d : Nat) (ih : ∀ (a b : Ty) (P : Nat → Prop) (w : World), a.sz ≤ d → (∀ b, P b → b < w.heap.size) → a.In w → b.In w → (∃ n, a.rightB n = true) → (∃ n, b.rightB n = true) → a.Sep P → b.Sep P → Calls Tryz.prog 21 #[a.agg, b.agg] w fun e w' => RJoined (a.joinT b) P w e w')
    (a b : Ty) (P : Nat → Prop) (w : World) (hd : a.sz ≤ d + 1) (hP : ∀ b, P b → b < w.heap.size) (ha : a.In w) (hb : b.In w) (hra : ∃ n, a.rightB n = true) (hrb : ∃ n, b.rightB n = true) (hsa : a.Sep P) (hsb : b.Sep P) (hk : a.k ≠ 7) (hk2 : b.k ≠ 7) (hkk : a.k = b.k) (hk6 : a.k ≠ 6) (hlen : b.xs.length = a.xs.length) :
    Calls Tryz.prog 21 #[a.agg, b.agg] w fun e w' => RJoined (a.joinT b) P w e w' := by
  have hE := Ty.joinT_eq a b
  rw [if_neg hk, if_neg hk2] at hE
  obtain ⟨W, hW⟩ : ∃ W, W = ((w.alloc (.cells #[.int .i64 a.k, a.na.val a.ns.length, a.xa.val a.xs.length] 36)).alloc (.cells #[.int .i64 b.k, b.na.val b.ns.length, b.xa.val b.xs.length] 36)).alloc (.cells #[.int .i64 0, .slice none 0 0, .slice none 0 0] 36) := ⟨_, rfl⟩
  have hj : J0 w W a b #[.int .i64 0, .slice none 0 0, .slice none 0 0] := by rw [hW]; exact j0_start w a b _
  have hIa := ha.below hj.below
  have hIb := hb.below hj.below
  obtain ⟨p4, q4, e4, hna⟩ := names_in (TNamesAt.of hIa)
  obtain ⟨p5, q5, e5, hxa⟩ := titems_at hIa
  obtain ⟨r4, t4, g4, hnb⟩ := names_in (TNamesAt.of hIb)
  obtain ⟨r5, t5, g5, hxb⟩ := titems_at hIb
  obtain ⟨A, hA⟩ : ∃ A, A = w.heap.size := ⟨_, rfl⟩
  have ba := hj.ba; have bb := hj.bb; have br := hj.br
  rw [← hA] at ba bb br
  rw [e4, e5] at ba
  rw [g4, g5] at bb
  rw [e4, e5, g4, g5] at hW
  unfold Ty.agg
  rw [e4, e5, g4, g5]
  have hrn := hra
  obtain ⟨na, hna'⟩ := hrn
  have hrn2 := hrb
  obtain ⟨nb, hnb'⟩ := hrn2
  have hra6 := right_names hna'
  have hrb6 := right_names hnb'
  obtain ⟨K, hK⟩ : ∃ K, K = a.k := ⟨_, rfl⟩
  have hkb : b.k = K := by rw [hK, hkk]
  rw [← hK] at ba hW hE hk hk6 hra6 ⊢
  rw [hkb] at bb hW hk2 hrb6 ⊢
  obtain ⟨M, hM⟩ : ∃ M, M = a.xs.length := ⟨_, rfl⟩
  rw [hlen, ← hM] at bb hW hrb6 ⊢
  rw [← hM] at ba hra6
  obtain ⟨L1, hL1⟩ : ∃ L1, L1 = a.ns.length := ⟨_, rfl⟩
  obtain ⟨L2, hL2⟩ : ∃ L2, L2 = b.ns.length := ⟨_, rfl⟩
  rw [← hL1] at ba hW hra6 ⊢
  rw [← hL2] at bb hW hrb6 ⊢
  have hMb : M ≤ 2513169434843 := by rw [hM]; exact ha.ok.2.2.1
  have a0 := ba.cell 0; have a1 := ba.cell 1; have a2 := ba.cell 2
  have b0 := bb.cell 0; have b1 := bb.cell 1; have b2 := bb.cell 2
  simp at a0 a1 a2 b0 b1 b2
  have j1 : (K == 7) = false := by simpa using hk
  have j3 : (K != K) = false := by simp
  have j4 : ((M : Int) != (M : Int)) = false := by simp
  obtain ⟨J, hJJ⟩ : ∃ J, J = Ty.joinAll a.xs b.xs := ⟨_, rfl⟩
  rw [← hJJ, hkb] at hE
  obtain ⟨W1, hW1⟩ : ∃ W1, W1 = W.alloc (.cells #[.int .i64 K, .slice none 0 0, .slice none 0 0] 36) := ⟨_, rfl⟩
  have hB1 : Below W.heap.size W W1 := by rw [hW1]; exact (Below.refl _ _).alloc (Nat.le_refl _) _
  have hO1 : Blk W1 W.heap.size 36 #[.int .i64 K, .slice none 0 0, .slice none 0 0] := by rw [hW1]; exact Blk.new W 36 _
  have hWS : W.heap.size = A + 1 + 1 + 1 := by rw [hW, hA]; simp
  obtain ⟨O, hO⟩ : ∃ O, O = A + 1 + 1 + 1 := ⟨_, rfl⟩
  rw [hWS, ← hO] at hO1
  have HWS := Lib.hid hWS
  have hzA : A + 1 + 1 < W.heap.size := br.lt
  have hKr : i64r K := by rw [hK]; exact ha.ok.1
  obtain ⟨i0, hi0, hz0, hz1, hz2⟩ := info_parts tty_facts'
  obtain ⟨i1, hi1, hy0, hy1, hy2⟩ := info_parts str_facts
  have HW := Lib.hid hW; have HA := Lib.hid hA; have HJ := Lib.hid hj.below; have BA := Lib.hid ba; have BB := Lib.hid bb; have BR := Lib.hid br; have HE := Lib.hid hE
  have HSA := Lib.hid hsa; have HSB := Lib.hid hsb; have HW1 := Lib.hid hW1; have HB1 := Lib.hid hB1; have HO1 := Lib.hid hO1; have HOO := Lib.hid hO; have HKR := Lib.hid hKr
  have HOK := Lib.hid ha.ok; have HM := Lib.hid hM; have HL1 := Lib.hid hL1; have HL2 := Lib.hid hL2; have HNA := Lib.hid hna; have HNB := Lib.hid hnb; have HXA := Lib.hid hxa; have HXB := Lib.hid hxb; have HJJ := Lib.hid hJJ; have HPP := Lib.hid hP
  have HIH := Lib.hid ih; have HLEN := Lib.hid (hlen.trans hM.symm); have HRA := Lib.hid hra; have HRB := Lib.hid hrb; have HD := Lib.hid hd
  have j6 : (K == 6) = false := by simpa using hk6
  have HAN := Lib.hid (hra6.2 hk6); have HBN := Lib.hid (hrb6.2 hk6)
  clear ih hlen hra hrb hd ha hb hna hnb hxa hxb hM hL1 hL2 hJJ hKr hW hA hj ba bb br hE hIa hIb e4 e5 g4 g5 hsa hsb hk hk2 hkk hk6 hK hkb hna' hnb' hra6 hrb6 hW1 hB1 hO1 hO hWS
  go_enter Tryz.func21, Tryz.ntmps21
  go_wp2_with fail
  rw [← HW.out, ← HA.out, ← HW1.out, ← HOO.out]
  clear a0 a1 a2 b0 b1 b2
  go_loopw [7] (fun iv wr => ∃ (i : Nat) (ns : List ByteArray) (us : List Ty) (an ax : Option Addr) (cn cx : Nat), iv = .int .i64 (i : Int) ∧ i ≤ M ∧ Hid (us.length = i) ∧ Hid (J = (Ty.joinAll (a.xs.drop i) (b.xs.drop i)).map (fun r => us.map Ty.erase ++ r)) ∧ Hid (ns = []) ∧ Hid (Blk wr O 36 #[.int .i64 K, .slice an ns.length cn, .slice ax us.length cx]) ∧
    Hid (RGath tyE P W1.heap.size 36 wr ns us (.slice an ns.length cn) (.slice ax us.length cx)) ∧ Hid (Only W1 wr O)) (fun iv _ => M - (intOf iv).toNat)
  case atStart => exact ⟨0, [], [], none, none, 0, 0, rfl, by omega, Lib.hid rfl, Lib.hid (by rw [HJJ.out]; simp), Lib.hid (by simp [NamesTo]), HO1, Lib.hid (rgath_start _), Lib.hid (Only.refl _ _)⟩
  case round =>
    obtain ⟨i, ns, us, an, ax, cn, cx, rfl, hi, HUL, HR, HNS, HO, HG, HOX⟩ := hrel
    have hOX := HOX.out
    have hOb : W1.heap.size ≤ wr.heap.size := hOX.size
    have hOlt := HO.out.lt
    have hBW : Below W.heap.size W wr := Go.Proofs.YtjpdbhhjlnmacaaGreat.Below.only HB1.out hOX (by have := HOO.out; have := HWS.out; omega) HB1.out.size
    have hxA := BA.out.below hBW BA.out.lt
    have hxB := BB.out.below hBW BB.out.lt
    have a0 := hxA.cell 0; have a1 := hxA.cell 1; have a2 := hxA.cell 2; have b1 := hxB.cell 1; have b2 := hxB.cell 2
    have o0 := HO.out.cell 0; have o1 := HO.out.cell 1; have o2 := HO.out.cell 2; have fo2 := HO.out.frozen 2
    simp at a0 a1 a2 b1 b2 o0 o1 o2
    have HBW := Lib.hid hBW
    clear hOX hBW hxA hxB
    by_cases hlt : i < M
    · have hil1 : i < a.xs.length := by rw [← HM.out]; exact hlt
      have hil2 : i < b.xs.length := by rw [HLEN.out]; exact hlt
      obtain ⟨xb, xo, rfl, hpx0, hlc⟩ := HXA.out i hil1
      obtain ⟨yb, yo, rfl, hpy0, hlc2⟩ := HXB.out i hil2
      obtain ⟨x, hx⟩ : ∃ x, x = a.xs[i]'hil1 := ⟨_, rfl⟩
      obtain ⟨y, hy⟩ : ∃ y, y = b.xs[i]'hil2 := ⟨_, rfl⟩
      have hxm : x ∈ a.xs := by rw [hx]; simp
      have hym : y ∈ b.xs := by rw [hy]; simp
      have hxs : x.sz ≤ d := by
        have := Ty.size_mem hxm
        have := HD.out
        omega
      have hrx : ∃ n, x.rightB n = true := by obtain ⟨n, h⟩ := HRA.out; exact right_items h x hxm
      have hry : ∃ n, y.rightB n = true := by obtain ⟨n, h⟩ := HRB.out; exact right_items h y hym
      have hsx : x.Sep P := ((Ty.sep_iff _ _).1 HSA.out).2.2 x hxm
      have hsy : y.Sep P := ((Ty.sep_iff _ _).1 HSB.out).2.2 y hym
      have hnone := fun (h : x.joinT y = none) => joinAll_none HR.out hil1 hil2 (by rw [← hx, ← hy]; exact h)
      have hsome := fun (v : Ty) (h : x.joinT y = some v) => joinAll_some (v := v) HR.out hil1 hil2 (by rw [← hx, ← hy]; exact h)
      rw [← hx] at hpx0
      rw [← hy] at hpy0
      have hxbW := hpx0.2.1
      have hybW := hpy0.2.1
      have wu0 := hpx0.c0; have wu1 := hpx0.c1; have wu2 := hpx0.c2
      have wv0 := hpy0.c0; have wv1 := hpy0.c1; have wv2 := hpy0.c2
      obtain ⟨k4, l4, f4⟩ := hpx0.in.nslice
      obtain ⟨k5, l5, f5⟩ := hpx0.in.xslice
      obtain ⟨m4, n4, h4⟩ := hpy0.in.nslice
      obtain ⟨m5, n5, h5⟩ := hpy0.in.xslice
      rw [f4] at wu1; rw [f5] at wu2; rw [h4] at wv1; rw [h5] at wv2
      have HU0 := Lib.hid wu0; have HU1 := Lib.hid wu1; have HU2 := Lib.hid wu2; have HV0 := Lib.hid wv0; have HV1 := Lib.hid wv1; have HV2 := Lib.hid wv2
      have hc := fun (W' : World) (hb' : Below W.heap.size W W') => HIH.out x y P W' hxs (fun b hb => by have := HPP.out b hb; have := HJ.out.size; have := hb'.size; omega) (hpx0.in.below hb') (hpy0.in.below hb') hrx hry hsx hsy
      unfold Ty.agg at hc
      rw [f4, f5, h4, h5] at hc
      have hk0 : (0 : Int) ≤ (i : Int) := by omega
      have hk1 : (i : Int) < (M : Int) := by omega
      have hlm : M ≤ q5 := by rw [HM.out]; exact hlc
      have hlm2 : M ≤ t5 := by rw [← HLEN.out]; exact hlc2
      have HC := Lib.hid hc; have HNO := Lib.hid hnone; have HSO := Lib.hid hsome
      have HA2 : Hid (W.cell? ⟨A, 2, none⟩ = some (.slice (some ⟨xb, xo, none⟩) M q5)) := Lib.hid (by have := BA.out.cell 2; simpa using this)
      have HB2 : Hid (W.cell? ⟨A + 1, 2, none⟩ = some (.slice (some ⟨yb, yo, none⟩) M t5)) := Lib.hid (by have := BB.out.cell 2; simpa using this)
      have hAlt := BA.out.lt
      have hA1lt := BB.out.lt
      have hWO : W.heap.size ≤ O := by have := HOO.out; have := HWS.out; omega
      have hPW : ∀ b, P b → b < W1.heap.size := fun b hb => by have := HPP.out b hb; have := HJ.out.size; have := HB1.out.size; omega
      have hul : us.length ≤ M := by rw [HUL.out]; exact hi
      have HZX := Lib.hid (fun b (hb : (Value.slice ax us.length cx).ownBlock = some b) => (HG.out.items.lt b hb).2)
      have HZS := Lib.hid (fun b (hb : (Value.slice an ns.length cn).ownBlock = some b) => (HG.out.names.lt b hb).2)
      clear hc hnone hsome hpx0 hpy0 hx hy hxm hym hxs hrx hry hsx hsy f4 f5 h4 h5 wu0 wu1 wu2 wv0 wv1 wv2 hlc hlc2
      have HO' := HO; have HG' := HG; have HOX' := HOX; have HBW' := HBW
      clear hil1 hil2
      obtain ⟨RJ, hRJ⟩ : ∃ RJ, RJ = x.joinT y := ⟨_, rfl⟩
      rw [← hRJ] at HC
      have HRJ := Lib.hid hRJ
      clear hRJ
      go_upto_region 15 with fail
      try clear a0 a1 a2 b1 b2 fo2
      try clear o0 o1 o2
      go_cut [7, 8, 9] (fun iv p8 p9 wx => iv = .int .i64 (i : Int) ∧ RItem wr P RJ p8 p9 wx)
      case first =>
        refine wp_region_held_drew (S := (fun X => Below W.heap.size W X)) (by kernel_rfl) (HBW'.out.drew) (fun hHeld => ?_)
        refine held_take (i := 0) (d := some 69) (v := ?_) rfl rfl (by kernel_rfl) (by kernel_rfl) (by kernel_rfl) (fun _ _ _ h => h) (by rfl) ?_ hHeld ?_
        rotate_left
        · (intro w hSw; (try dsimp only at hSw); have hS2 := (hSw.cell (p := ⟨A, 2, none⟩) hAlt).trans HA2.out; have hS3 := (hSw.cell (p := ⟨A + 1, 2, none⟩) hA1lt).trans HB2.out; have hS4 := (hSw.cell (p := ⟨xb, xo + i * 3, none⟩) hxbW).trans HU0.out; have hS5 := (hSw.cell (p := ⟨xb, xo + i * 3 + 1, none⟩) hxbW).trans HU1.out; have hS6 := (hSw.cell (p := ⟨xb, xo + i * 3 + 2, none⟩) hxbW).trans HU2.out; have hS7 := (hSw.cell (p := ⟨yb, yo + i * 3, none⟩) hybW).trans HV0.out; have hS8 := (hSw.cell (p := ⟨yb, yo + i * 3 + 1, none⟩) hybW).trans HV1.out; have hS9 := (hSw.cell (p := ⟨yb, yo + i * 3 + 2, none⟩) hybW).trans HV2.out; go_simp; try with_reducible rfl)
        try simp only [Act.put, List.setIfInBounds_toArray, List.set_cons_zero, List.set_cons_succ]
        refine held_take (i := 1) (d := some 70) (v := ?_) rfl rfl (by kernel_rfl) (by kernel_rfl) (by kernel_rfl) (fun _ _ _ h => h) (by rfl) ?_ hHeld ?_
        rotate_left
        · (intro w hSw; (try dsimp only at hSw); have hS2 := (hSw.cell (p := ⟨A, 2, none⟩) hAlt).trans HA2.out; have hS3 := (hSw.cell (p := ⟨A + 1, 2, none⟩) hA1lt).trans HB2.out; have hS4 := (hSw.cell (p := ⟨xb, xo + i * 3, none⟩) hxbW).trans HU0.out; have hS5 := (hSw.cell (p := ⟨xb, xo + i * 3 + 1, none⟩) hxbW).trans HU1.out; have hS6 := (hSw.cell (p := ⟨xb, xo + i * 3 + 2, none⟩) hxbW).trans HU2.out; have hS7 := (hSw.cell (p := ⟨yb, yo + i * 3, none⟩) hybW).trans HV0.out; have hS8 := (hSw.cell (p := ⟨yb, yo + i * 3 + 1, none⟩) hybW).trans HV1.out; have hS9 := (hSw.cell (p := ⟨yb, yo + i * 3 + 2, none⟩) hybW).trans HV2.out; go_simp; try with_reducible rfl)
        try simp only [Act.put, List.setIfInBounds_toArray, List.set_cons_zero, List.set_cons_succ]
        refine held_take (i := 2) (d := some 71) (v := ?_) rfl rfl (by kernel_rfl) (by kernel_rfl) (by kernel_rfl) (fun _ _ _ h => h) (by rfl) ?_ hHeld ?_
        rotate_left
        · (intro w hSw; (try dsimp only at hSw); have hS2 := (hSw.cell (p := ⟨A, 2, none⟩) hAlt).trans HA2.out; have hS3 := (hSw.cell (p := ⟨A + 1, 2, none⟩) hA1lt).trans HB2.out; have hS4 := (hSw.cell (p := ⟨xb, xo + i * 3, none⟩) hxbW).trans HU0.out; have hS5 := (hSw.cell (p := ⟨xb, xo + i * 3 + 1, none⟩) hxbW).trans HU1.out; have hS6 := (hSw.cell (p := ⟨xb, xo + i * 3 + 2, none⟩) hxbW).trans HU2.out; have hS7 := (hSw.cell (p := ⟨yb, yo + i * 3, none⟩) hybW).trans HV0.out; have hS8 := (hSw.cell (p := ⟨yb, yo + i * 3 + 1, none⟩) hybW).trans HV1.out; have hS9 := (hSw.cell (p := ⟨yb, yo + i * 3 + 2, none⟩) hybW).trans HV2.out; go_simp; try with_reducible rfl)
        try simp only [Act.put, List.setIfInBounds_toArray, List.set_cons_zero, List.set_cons_succ]
        refine held_take (i := 3) (d := some 72) (v := ?_) rfl rfl (by kernel_rfl) (by kernel_rfl) (by kernel_rfl) (fun _ _ _ h => h) (by rfl) ?_ hHeld ?_
        rotate_left
        · (intro w hSw; (try dsimp only at hSw); have hS2 := (hSw.cell (p := ⟨A, 2, none⟩) hAlt).trans HA2.out; have hS3 := (hSw.cell (p := ⟨A + 1, 2, none⟩) hA1lt).trans HB2.out; have hS4 := (hSw.cell (p := ⟨xb, xo + i * 3, none⟩) hxbW).trans HU0.out; have hS5 := (hSw.cell (p := ⟨xb, xo + i * 3 + 1, none⟩) hxbW).trans HU1.out; have hS6 := (hSw.cell (p := ⟨xb, xo + i * 3 + 2, none⟩) hxbW).trans HU2.out; have hS7 := (hSw.cell (p := ⟨yb, yo + i * 3, none⟩) hybW).trans HV0.out; have hS8 := (hSw.cell (p := ⟨yb, yo + i * 3 + 1, none⟩) hybW).trans HV1.out; have hS9 := (hSw.cell (p := ⟨yb, yo + i * 3 + 2, none⟩) hybW).trans HV2.out; go_simp; try with_reducible rfl)
        try simp only [Act.put, List.setIfInBounds_toArray, List.set_cons_zero, List.set_cons_succ]
        refine held_take (i := 4) (d := some 73) (v := ?_) rfl rfl (by kernel_rfl) (by kernel_rfl) (by kernel_rfl) (fun _ _ _ h => h) (by rfl) ?_ hHeld ?_
        rotate_left
        · (intro w hSw; (try dsimp only at hSw); have hS2 := (hSw.cell (p := ⟨A, 2, none⟩) hAlt).trans HA2.out; have hS3 := (hSw.cell (p := ⟨A + 1, 2, none⟩) hA1lt).trans HB2.out; have hS4 := (hSw.cell (p := ⟨xb, xo + i * 3, none⟩) hxbW).trans HU0.out; have hS5 := (hSw.cell (p := ⟨xb, xo + i * 3 + 1, none⟩) hxbW).trans HU1.out; have hS6 := (hSw.cell (p := ⟨xb, xo + i * 3 + 2, none⟩) hxbW).trans HU2.out; have hS7 := (hSw.cell (p := ⟨yb, yo + i * 3, none⟩) hybW).trans HV0.out; have hS8 := (hSw.cell (p := ⟨yb, yo + i * 3 + 1, none⟩) hybW).trans HV1.out; have hS9 := (hSw.cell (p := ⟨yb, yo + i * 3 + 2, none⟩) hybW).trans HV2.out; go_simp; try with_reducible rfl)
        try simp only [Act.put, List.setIfInBounds_toArray, List.set_cons_zero, List.set_cons_succ]
        refine held_take (i := 5) (d := some 74) (v := ?_) rfl rfl (by kernel_rfl) (by kernel_rfl) (by kernel_rfl) (fun _ _ _ h => h) (by rfl) ?_ hHeld ?_
        rotate_left
        · (intro w hSw; (try dsimp only at hSw); have hS2 := (hSw.cell (p := ⟨A, 2, none⟩) hAlt).trans HA2.out; have hS3 := (hSw.cell (p := ⟨A + 1, 2, none⟩) hA1lt).trans HB2.out; have hS4 := (hSw.cell (p := ⟨xb, xo + i * 3, none⟩) hxbW).trans HU0.out; have hS5 := (hSw.cell (p := ⟨xb, xo + i * 3 + 1, none⟩) hxbW).trans HU1.out; have hS6 := (hSw.cell (p := ⟨xb, xo + i * 3 + 2, none⟩) hxbW).trans HU2.out; have hS7 := (hSw.cell (p := ⟨yb, yo + i * 3, none⟩) hybW).trans HV0.out; have hS8 := (hSw.cell (p := ⟨yb, yo + i * 3 + 1, none⟩) hybW).trans HV1.out; have hS9 := (hSw.cell (p := ⟨yb, yo + i * 3 + 2, none⟩) hybW).trans HV2.out; go_simp; try with_reducible rfl)
        try simp only [Act.put, List.setIfInBounds_toArray, List.set_cons_zero, List.set_cons_succ]
        refine held_take (i := 6) (d := some 75) (v := ?_) rfl rfl (by kernel_rfl) (by kernel_rfl) (by kernel_rfl) (fun _ _ _ h => h) (by rfl) ?_ hHeld ?_
        rotate_left
        · (intro w hSw; (try dsimp only at hSw); have hS2 := (hSw.cell (p := ⟨A, 2, none⟩) hAlt).trans HA2.out; have hS3 := (hSw.cell (p := ⟨A + 1, 2, none⟩) hA1lt).trans HB2.out; have hS4 := (hSw.cell (p := ⟨xb, xo + i * 3, none⟩) hxbW).trans HU0.out; have hS5 := (hSw.cell (p := ⟨xb, xo + i * 3 + 1, none⟩) hxbW).trans HU1.out; have hS6 := (hSw.cell (p := ⟨xb, xo + i * 3 + 2, none⟩) hxbW).trans HU2.out; have hS7 := (hSw.cell (p := ⟨yb, yo + i * 3, none⟩) hybW).trans HV0.out; have hS8 := (hSw.cell (p := ⟨yb, yo + i * 3 + 1, none⟩) hybW).trans HV1.out; have hS9 := (hSw.cell (p := ⟨yb, yo + i * 3 + 2, none⟩) hybW).trans HV2.out; go_simp; try with_reducible rfl)
        try simp only [Act.put, List.setIfInBounds_toArray, List.set_cons_zero, List.set_cons_succ]
        refine held_take (i := 7) (d := some 76) (v := ?_) rfl rfl (by kernel_rfl) (by kernel_rfl) (by kernel_rfl) (fun _ _ _ h => h) (by rfl) ?_ hHeld ?_
        rotate_left
        · (intro w hSw; (try dsimp only at hSw); have hS2 := (hSw.cell (p := ⟨A, 2, none⟩) hAlt).trans HA2.out; have hS3 := (hSw.cell (p := ⟨A + 1, 2, none⟩) hA1lt).trans HB2.out; have hS4 := (hSw.cell (p := ⟨xb, xo + i * 3, none⟩) hxbW).trans HU0.out; have hS5 := (hSw.cell (p := ⟨xb, xo + i * 3 + 1, none⟩) hxbW).trans HU1.out; have hS6 := (hSw.cell (p := ⟨xb, xo + i * 3 + 2, none⟩) hxbW).trans HU2.out; have hS7 := (hSw.cell (p := ⟨yb, yo + i * 3, none⟩) hybW).trans HV0.out; have hS8 := (hSw.cell (p := ⟨yb, yo + i * 3 + 1, none⟩) hybW).trans HV1.out; have hS9 := (hSw.cell (p := ⟨yb, yo + i * 3 + 2, none⟩) hybW).trans HV2.out; go_simp; try with_reducible rfl)
        try simp only [Act.put, List.setIfInBounds_toArray, List.set_cons_zero, List.set_cons_succ]
        refine held_take (i := 8) (d := some 77) (v := ?_) rfl rfl (by kernel_rfl) (by kernel_rfl) (by kernel_rfl) (fun _ _ _ h => h) (by rfl) ?_ hHeld ?_
        rotate_left
        · (intro w hSw; (try dsimp only at hSw); have hS2 := (hSw.cell (p := ⟨A, 2, none⟩) hAlt).trans HA2.out; have hS3 := (hSw.cell (p := ⟨A + 1, 2, none⟩) hA1lt).trans HB2.out; have hS4 := (hSw.cell (p := ⟨xb, xo + i * 3, none⟩) hxbW).trans HU0.out; have hS5 := (hSw.cell (p := ⟨xb, xo + i * 3 + 1, none⟩) hxbW).trans HU1.out; have hS6 := (hSw.cell (p := ⟨xb, xo + i * 3 + 2, none⟩) hxbW).trans HU2.out; have hS7 := (hSw.cell (p := ⟨yb, yo + i * 3, none⟩) hybW).trans HV0.out; have hS8 := (hSw.cell (p := ⟨yb, yo + i * 3 + 1, none⟩) hybW).trans HV1.out; have hS9 := (hSw.cell (p := ⟨yb, yo + i * 3 + 2, none⟩) hybW).trans HV2.out; go_simp; try with_reducible rfl)
        try simp only [Act.put, List.setIfInBounds_toArray, List.set_cons_zero, List.set_cons_succ]
        refine held_take (i := 9) (d := some 78) (v := ?_) rfl rfl (by kernel_rfl) (by kernel_rfl) (by kernel_rfl) (fun _ _ _ h => h) (by rfl) ?_ hHeld ?_
        rotate_left
        · (intro w hSw; (try dsimp only at hSw); have hS2 := (hSw.cell (p := ⟨A, 2, none⟩) hAlt).trans HA2.out; have hS3 := (hSw.cell (p := ⟨A + 1, 2, none⟩) hA1lt).trans HB2.out; have hS4 := (hSw.cell (p := ⟨xb, xo + i * 3, none⟩) hxbW).trans HU0.out; have hS5 := (hSw.cell (p := ⟨xb, xo + i * 3 + 1, none⟩) hxbW).trans HU1.out; have hS6 := (hSw.cell (p := ⟨xb, xo + i * 3 + 2, none⟩) hxbW).trans HU2.out; have hS7 := (hSw.cell (p := ⟨yb, yo + i * 3, none⟩) hybW).trans HV0.out; have hS8 := (hSw.cell (p := ⟨yb, yo + i * 3 + 1, none⟩) hybW).trans HV1.out; have hS9 := (hSw.cell (p := ⟨yb, yo + i * 3 + 2, none⟩) hybW).trans HV2.out; go_simp; try with_reducible rfl)
        try simp only [Act.put, List.setIfInBounds_toArray, List.set_cons_zero, List.set_cons_succ]
        refine held_two (i := 10) (j := 14) (by kernel_rfl) rfl rfl (by rfl) (by rfl) (fun K hK => ?_) (fun K hK => ?_)
        · go_simp
          go_at_call 21
          refine (HC.out _ HBW'.out.drew).mono ?_
          rintro e w6 ⟨hb6, u, rfl, hui, hus, hue⟩
          obtain ⟨a4, b4, k4⟩ := hui.nslice
          obtain ⟨a5, b5, k5⟩ := hui.xslice
          unfold Ty.agg
          rw [k4, k5]
          have hb6' : Below wr.heap.size wr w6 := (Below.refl wr.heap.size wr).drew.trans hb6
          have hbW6 : Below W.heap.size W w6 := HBW'.out.trans (hb6'.mono HBW'.out.size)
          have HB6 := Lib.hid hb6'; have HUI := Lib.hid hui; have HUS := Lib.hid hus; have HUE := Lib.hid hue; have HBW6 := Lib.hid hbW6; have HK4 := Lib.hid k4; have HK5 := Lib.hid k5
          clear hb6 hb6' hui hus hue hbW6 k4 k5
          refine hK.out _ _ HBW6.out (fun hHeld => ?_)
          clear hK K
          try simp only [Act.put, List.setIfInBounds_toArray, List.set_cons_zero, List.set_cons_succ]
          refine held_take (i := 11) (d := some 68) (v := ?_) rfl rfl (by kernel_rfl) (by kernel_rfl) (by kernel_rfl) (fun _ _ _ h => h) (by rfl) ?_ hHeld ?_
          rotate_left
          · (intro w hSw; (try dsimp only at hSw); go_simp; try with_reducible rfl)
          try simp only [Act.put, List.setIfInBounds_toArray, List.set_cons_zero, List.set_cons_succ]
          refine held_take (i := 12) (d := some 80) (v := ?_) rfl rfl (by kernel_rfl) (by kernel_rfl) (by kernel_rfl) (fun _ _ _ h => h) (by rfl) ?_ hHeld ?_
          rotate_left
          · (intro w hSw; (try dsimp only at hSw); go_simp; try with_reducible rfl)
          try simp only [Act.put, List.setIfInBounds_toArray, List.set_cons_zero, List.set_cons_succ]
          refine held_take (i := 13) (d := some 81) (v := ?_) rfl rfl (by kernel_rfl) (by kernel_rfl) (by kernel_rfl) (fun _ _ _ h => h) (by rfl) ?_ hHeld ?_
          rotate_left
          · (intro w hSw; (try dsimp only at hSw); go_simp; try with_reducible rfl)
          try simp only [Act.put, List.setIfInBounds_toArray, List.set_cons_zero, List.set_cons_succ]
          refine held_only (i := 14) (by kernel_rfl) rfl (by rfl) (fun K hK => ?_)
          go_simp
          refine hK.out _ _ (HBW6.out.alloc HBW6.out.size _) (fun hHeld => ?_)
          clear hK K
          try simp only [Act.put, List.setIfInBounds_toArray, List.set_cons_zero, List.set_cons_succ]
          have hn6 := Blk.new w6 36 #[.int .i64 0, .slice none 0 0, .slice none 0 0]
          have z0 := hn6.cell 0; have z1 := hn6.cell 1; have z2 := hn6.cell 2
          have y0 := hn6.frozen 0; have y1 := hn6.frozen 1; have y2 := hn6.frozen 2
          simp at z0 z1 z2
          clear hn6
          refine held_only (i := 15) (by kernel_rfl) rfl (by rfl) (fun K hK => ?_)
          go_simp
          refine hK.out _ _ (HBW6.out.alloc HBW6.out.size _) (fun hHeld => ?_)
          clear hK K
          try simp only [Act.put, List.setIfInBounds_toArray, List.set_cons_zero, List.set_cons_succ]
          clear z0 z1 z2 y0 y1 y2
          refine held_take (i := 16) (d := some 9) (v := ?_) rfl rfl (by kernel_rfl) (by kernel_rfl) (by kernel_rfl) (fun _ _ _ h => h) (by rfl) ?_ hHeld ?_
          rotate_left
          · (intro w hSw; (try dsimp only at hSw); go_simp; try with_reducible rfl)
          try simp only [Act.put, List.setIfInBounds_toArray, List.set_cons_zero, List.set_cons_succ]
          refine wpAnyH_done (by kernel_rfl) ?_ _
          go_wp2
          go_meet
          exact ⟨rfl, ritem_new HB6.out HK4.out HK5.out HUI.out HUS.out HUE.out⟩
        · go_simp
          refine hK.out _ _ (HBW'.out.drew.alloc HBW'.out.size _) (fun hHeld => ?_)
          clear hK K
          try simp only [Act.put, List.setIfInBounds_toArray, List.set_cons_zero, List.set_cons_succ]
          refine held_only (i := 10) (by kernel_rfl) rfl (by rfl) (fun K hK => ?_)
          go_simp
          go_at_call 21
          refine (HC.out _ (HBW'.out.drew.alloc HBW'.out.size _)).mono ?_
          rintro e w6 ⟨hb6, u, rfl, hui, hus, hue⟩
          obtain ⟨a4, b4, k4⟩ := hui.nslice
          obtain ⟨a5, b5, k5⟩ := hui.xslice
          unfold Ty.agg
          rw [k4, k5]
          have hbA : Below wr.heap.size wr (wr.drew.alloc (.cells #[.int .i64 0, .slice none 0 0, .slice none 0 0] 36)) := (Below.refl wr.heap.size wr).drew.alloc (Nat.le_refl _) _
          have hb6' : Below wr.heap.size wr w6 := hbA.trans (hb6.mono hbA.size)
          have hX6 : Blk w6 wr.heap.size 36 #[.int .i64 0, .slice none 0 0, .slice none 0 0] := (Blk.new wr.drew 36 _).below hb6 (by simp)
          have hus' : u.Sep (fun b => (P b ∨ wr.heap.size ≤ b) ∧ b ≠ wr.heap.size) := hus.mono (fun b hb => by
            have hz' : (wr.drew.alloc (.cells #[.int .i64 0, .slice none 0 0, .slice none 0 0] 36)).heap.size = wr.heap.size + 1 := by simp
            have := HJ.out.size
            have := HBW'.out.size
            rcases hb with hb | hb
            · exact ⟨.inl hb, by have := HPP.out b hb; omega⟩
            · rw [hz'] at hb
              exact ⟨.inr (by omega), by omega⟩)
          have HX6 := Lib.hid hX6; have HUS' := Lib.hid hus'
          clear hbA hX6 hus' 
          have hbW6 : Below W.heap.size W w6 := HBW'.out.trans (hb6'.mono HBW'.out.size)
          have HB6 := Lib.hid hb6'; have HUI := Lib.hid hui; have HUS := Lib.hid hus; have HUE := Lib.hid hue; have HBW6 := Lib.hid hbW6; have HK4 := Lib.hid k4; have HK5 := Lib.hid k5
          clear hb6 hb6' hui hus hue hbW6 k4 k5
          refine hK.out _ _ HBW6.out (fun hHeld => ?_)
          clear hK K
          try simp only [Act.put, List.setIfInBounds_toArray, List.set_cons_zero, List.set_cons_succ]
          refine held_take (i := 11) (d := some 68) (v := ?_) rfl rfl (by kernel_rfl) (by kernel_rfl) (by kernel_rfl) (fun _ _ _ h => h) (by rfl) ?_ hHeld ?_
          rotate_left
          · (intro w hSw; (try dsimp only at hSw); go_simp; try with_reducible rfl)
          try simp only [Act.put, List.setIfInBounds_toArray, List.set_cons_zero, List.set_cons_succ]
          refine held_take (i := 12) (d := some 80) (v := ?_) rfl rfl (by kernel_rfl) (by kernel_rfl) (by kernel_rfl) (fun _ _ _ h => h) (by rfl) ?_ hHeld ?_
          rotate_left
          · (intro w hSw; (try dsimp only at hSw); go_simp; try with_reducible rfl)
          try simp only [Act.put, List.setIfInBounds_toArray, List.set_cons_zero, List.set_cons_succ]
          refine held_take (i := 13) (d := some 81) (v := ?_) rfl rfl (by kernel_rfl) (by kernel_rfl) (by kernel_rfl) (fun _ _ _ h => h) (by rfl) ?_ hHeld ?_
          rotate_left
          · (intro w hSw; (try dsimp only at hSw); go_simp; try with_reducible rfl)
          try simp only [Act.put, List.setIfInBounds_toArray, List.set_cons_zero, List.set_cons_succ]
          have hXW : W.heap.size ≤ wr.heap.size := HBW'.out.size
          have z0 := HX6.out.cell 0; have z1 := HX6.out.cell 1; have z2 := HX6.out.cell 2
          have y0 := HX6.out.frozen 0; have y1 := HX6.out.frozen 1; have y2 := HX6.out.frozen 2
          simp at z0 z1 z2
          refine held_only (i := 15) (by kernel_rfl) rfl (by rfl) (fun K hK => ?_)
          go_simp
          refine hK.out _ _ (below3_set HBW6.out hXW _ _ _) (fun hHeld => ?_)
          clear hK K
          try simp only [Act.put, List.setIfInBounds_toArray, List.set_cons_zero, List.set_cons_succ]
          clear z0 z1 z2 y0 y1 y2
          refine held_take (i := 16) (d := some 9) (v := ?_) rfl rfl (by kernel_rfl) (by kernel_rfl) (by kernel_rfl) (fun _ _ _ h => h) (by rfl) ?_ hHeld ?_
          rotate_left
          · (intro w hSw; (try dsimp only at hSw); go_simp; try with_reducible rfl)
          try simp only [Act.put, List.setIfInBounds_toArray, List.set_cons_zero, List.set_cons_succ]
          refine wpAnyH_done (by kernel_rfl) ?_ _
          go_wp2
          go_meet
          exact ⟨rfl, ritem_set HB6.out (Nat.le_refl _) HX6.out HK4.out HK5.out HUI.out HUS'.out HUE.out⟩
      case rest =>
      obtain ⟨rfl, X, u, rfl, rfl, hbx, hbX, hui, hus, hue⟩ := hcut
      have hO2 := HO'.out.below hbx HO'.out.lt
      have hG2 := HG'.out.below hbx
      have hOX2 := HOX'.out.trans (Only.of_below hbx O)
      have hBW2 := HBW'.out.trans (hbx.mono HBW'.out.size)
      have hbr := BR.out.below hBW2 BR.out.lt
      obtain ⟨a4, b4, k4⟩ := hui.nslice
      obtain ⟨a5, b5, k5⟩ := hui.xslice
      rw [k4, k5] at hbX
      have o0 := hO2.cell 0; have o1 := hO2.cell 1; have o2 := hO2.cell 2; have fo2 := hO2.frozen 2
      have x0 := hbX.cell 0; have x1 := hbX.cell 1; have x2 := hbX.cell 2
      simp at o0 o1 o2 x0 x1 x2
      have HO2 := Lib.hid hO2; have HG2 := Lib.hid hG2; have HOX2 := Lib.hid hOX2; have HBW2 := Lib.hid hBW2; have HBR := Lib.hid hbr; have HUI := Lib.hid hui; have HUS := Lib.hid hus; have HUE := Lib.hid hue; have HK4 := Lib.hid k4; have HK5 := Lib.hid k5
      have hzw := hbx.size
      have hzX := hbX.lt
      clear hO2 hG2 hOX2 hBW2 hbr hui hus hue k4 k5 hbX hbx
      cases RJ with
      | none =>
        have HF : Hid (a.joinT b = none) := Lib.hid (by
          rw [HE.out]
          split
          · rw [HNO.out HRJ.out.symm]; rfl
          · rfl)
        simp only [Option.isSome_none]
        have r0 := HBR.out.cell 0; have r1 := HBR.out.cell 1; have r2 := HBR.out.cell 2
        have s0 := HBR.out.frozen 0; have s1 := HBR.out.frozen 1; have s2 := HBR.out.frozen 2
        simp at r0 r1 r2
        have HBL := Lib.hid (below3_set (HJ.out.trans (HBW2.out.mono HJ.out.size)) (show w.heap.size ≤ A + 1 + 1 by have := HA.out; omega) (.int .i64 0) (.slice none 0 0) (.slice none 0 0))
        have hF := blk3_set HBR.out (.int .i64 0) (.slice none 0 0) (.slice none 0 0)
        have f0 := hF.cell 0; have f1 := hF.cell 1; have f2 := hF.cell 2
        simp at f0 f1 f2
        have F0 := Lib.hid f0; have F1 := Lib.hid f1; have F2 := Lib.hid f2
        clear hF f0 f1 f2
        go_wp2_with fail
        have f0 := F0.out; have f1 := F1.out; have f2 := F2.out
        refine bodyPost_ret (v := .tuple #[.agg #[.int .i64 0, .slice none 0 0, .slice none 0 0], .bool false]) (by simp [results, Tryz.results21, go_sem, f0, f1, f2]) rfl ?_
        exact rjoined_none HF.out HBL.out
      | some v =>
        simp only [Option.isSome_some]
        have HR2 := Lib.hid (HSO.out v HRJ.out.symm)
        have HUE2 : Hid (u.erase = v) := Lib.hid HUE.out
        have hred : Reads (wc.alloc (.cells #[.int .i64 u.k, .slice a4 u.ns.length b4, .slice a5 u.xs.length b5] 36)) (wc.heap.size + 1) 3 (some ⟨wc.heap.size, 0, none⟩) 1 u.cells := by
          unfold Ty.cells; rw [HK4.out, HK5.out]; exact row_reads wc _ 36
        have hown6 := HG2.out.items.alloc (.cells #[.int .i64 u.k, .slice a4 u.ns.length b4, .slice a5 u.xs.length b5] 36)
        have HRED := Lib.hid hred; have HOWN6 := Lib.hid hown6
        have HZS2 := Lib.hid (fun b (hb : (Value.slice an ns.length cn).ownBlock = some b) => (HG'.out.names.lt b hb).2)
        have HZX2 := Lib.hid (fun b (hb : (Value.slice ax us.length cx).ownBlock = some b) => (HG'.out.items.lt b hb).2)
        clear hred hown6
        have hW19 : W1.heap.size ≤ wr.heap.size := HOX'.out.size
        go_wp2_with (at_builtin; refine wpList_append_any _ rfl _ _ 34 rfl W1.heap.size 36 i0 (.agg #[.int .i64 0, .slice none 0 0, .slice none 0 0]) 3 56 Tryz.underlying34 hi0 hz0 hz1 hz2 rfl (by decide) _ us.length (tyE.row us) rfl HOWN6.out (wc.heap.size + 1) _ 1 _ u.cells rfl HRED.out (tyE.one u) ?c1 ?c2 ?c3 ?_)
        case c1 => unfold maxLen; omega
        case c2 => omega
        case c3 => simp; omega
        intro v' w8 hown' hgrow hor
        have hg8 := RGath.item (RGath.below HG2.out ((Below.refl _ wc).alloc (Nat.le_refl _) (.cells #[.int .i64 u.k, .slice a4 u.ns.length b4, .slice a5 u.xs.length b5] 36))) hPW (by simp; omega) (HUI.out.below ((Below.refl _ wc).alloc (Nat.le_refl _) (.cells #[.int .i64 u.k, .slice a4 u.ns.length b4, .slice a5 u.xs.length b5] 36))) HUS.out hW19 HZS2.out HZX2.out hown' hgrow (by simpa using hor)
        have hne8 : some O ≠ (Value.slice ax us.length cx).ownBlock := fun e => by have := own_ge HG2.out.items e.symm; have := HO1.out.lt; omega
        have hb8 := Blk.grown (HO2.out.alloc (.cells #[.int .i64 u.k, .slice a4 u.ns.length b4, .slice a5 u.xs.length b5] 36)) hgrow hne8
        have hox8 := only_grown (HOX2.out.alloc (.cells #[.int .i64 u.k, .slice a4 u.ns.length b4, .slice a5 u.xs.length b5] 36)) hgrow (fun k hk => own_ge HG2.out.items hk)
        obtain ⟨ax', cx', rfl⟩ := row_form hown'
        have c8 := hb8.cell 2
        have f8 := hb8.frozen 2
        have v8 := hb8.lt
        simp at c8
        have HG8 := Lib.hid hg8; have HB8 := Lib.hid hb8; have HOX8 := Lib.hid hox8
        clear hg8 hb8 hox8 hown' hgrow hor hne8 o0 o1 o2 fo2 x0 x1 x2
        have HB9 := Lib.hid (HB8.out.set_ 2 (.slice ax' (us.length + 1) cx'))
        have HG9 := Lib.hid (HG8.out.set_ (p := ⟨O, 2, none⟩) (fun b hb => by have := HPP.out b hb; have := HJ.out.size; show b ≠ O; omega) (by have := HO1.out.lt; exact this) (.slice ax' (us.length + 1) cx'))
        have HOX9 := Lib.hid (HOX8.out.set_ (p := ⟨O, 2, none⟩) (.inl rfl) (.slice ax' (us.length + 1) cx'))
        go_wp2
        go_roundw
        case rel => exact ⟨i + 1, ns, us ++ [u], an, ax', cn, cx', by go_num, by omega, Lib.hid (by simp [HUL.out]), Lib.hid (by rw [List.map_append, List.map_cons, List.map_nil, HUE2.out]; exact HR2.out), HNS, by simpa using HB9, by simpa using HG9, by simpa using HOX9⟩
        case measure => simp [intOf]; omega
    · obtain rfl : i = M := by omega
      have hdone : J = some (us.map Ty.erase) := by
        rw [HR.out, List.drop_eq_nil_of_le (by rw [← HM.out]; exact Nat.le_refl _)]
        simp [Ty.joinAll]
      have hnsa : ns = a.ns := by rw [HNS.out, HAN.out]
      have hnab : a.ns = b.ns := by rw [HAN.out, HBN.out]
      have hjt : a.joinT b = some (.mk K .no ns .no (us.map Ty.erase)) := by
        rw [HE.out, if_pos ⟨by trivial, hnab⟩, hdone, hnsa]
        rfl
      have hbr := BR.out.below HBW.out BR.out.lt
      have r0 := hbr.cell 0; have r1 := hbr.cell 1; have r2 := hbr.cell 2
      have s0 := hbr.frozen 0; have s1 := hbr.frozen 1; have s2 := hbr.frozen 2
      simp at r0 r1 r2
      obtain ⟨WF, hWF⟩ : ∃ WF, WF = ((wr.setCell ⟨A + 1 + 1, 0, none⟩ (.int .i64 K)).setCell ⟨A + 1 + 1, 1, none⟩ (.slice an ns.length cn)).setCell ⟨A + 1 + 1, 2, none⟩ (.slice ax us.length cx) := ⟨_, rfl⟩
      have hbF : Blk WF (A + 1 + 1) 36 #[.int .i64 K, .slice an ns.length cn, .slice ax us.length cx] := by rw [hWF]; exact blk3_set hbr _ _ _
      have hBF : Below w.heap.size w WF := by
        rw [hWF]
        exact below3_set (HJ.out.trans (HBW.out.mono HJ.out.size)) (by have := HA.out; omega) _ _ _
      obtain ⟨u, hu1, hu2, hu3, hu4⟩ := rjoin_end HA.out (by have := HWS.out; have := HB1.out.size; omega) HPP.out hWF HG.out HKR.out (by rw [hnsa]; exact HOK.out.2.1) (by rw [HUL.out]; omega) (by rw [hnsa]; exact HOK.out.2.2.2)
      have HWF := Lib.hid hWF; have HBF := Lib.hid hbF; have HBL := Lib.hid hBF; have HU1 := Lib.hid hu1; have HU2 := Lib.hid hu2; have HU3 := Lib.hid hu3; have HU4 := Lib.hid hu4; have HDN := Lib.hid hjt
      have t1 : decide ((i : Int) < (i : Int)) = false := by simp
      clear hWF hbF hBF hu1 hu2 hu3 hu4 hdone hjt hbr hlt hnsa hnab
      go_wp2_with fail
      rw [← HWF.out]
      clear r0 r1 r2 s0 s1 s2
      have f0 := HBF.out.cell 0; have f1 := HBF.out.cell 1; have f2 := HBF.out.cell 2
      simp at f0 f1 f2
      refine bodyPost_ret (v := .tuple #[.agg #[.int .i64 K, .slice an ns.length cn, .slice ax us.length cx], .bool true]) (by simp [results, Tryz.results21, go_sem, f0, f1, f2]) rfl ?_
      refine ⟨HBL.out, ?_⟩
      rw [HDN.out]
      exact ⟨u, by rw [HU1.out]; rfl, HU3.out, HU4.out, HU2.out⟩
theorem rjoin_any : ∀ (d : Nat) (a b : Ty) (P : Nat → Prop) (w : World), a.sz ≤ d → (∀ b, P b → b < w.heap.size) → a.In w → b.In w → (∃ n, a.rightB n = true) → (∃ n, b.rightB n = true) → a.Sep P → b.Sep P →
    Calls Tryz.prog 21 #[a.agg, b.agg] w fun e w' => RJoined (a.joinT b) P w e w'
  | 0, a, _, _, _, hd, _, _, _, _, _, _, _ => by rw [Ty.sz_eq] at hd; omega
  | d + 1, a, b, P, w, hd, hP, ha, hb, hra, hrb, hsa, hsb => by
    by_cases h1 : a.k = 7
    · exact rjoin_none a b P w hP ha hb hsa hsb (.inl h1)
    · by_cases h2 : b.k = 7
      · exact rjoin_none a b P w hP ha hb hsa hsb (.inr ⟨h1, h2⟩)
      · by_cases h3 : a.k = b.k ∧ a.xs.length = b.xs.length
        · by_cases h6 : a.k = 6
          · exact rjoin_rec d (fun a b P w => rjoin_any d a b P w) a b P w hd hP ha hb hra hrb hsa hsb h1 h2 h3.1 h6 h3.2.symm
          · exact rjoin_oth d (fun a b P w => rjoin_any d a b P w) a b P w hd hP ha hb hra hrb hsa hsb h1 h2 h3.1 h6 h3.2.symm
        · exact rjoin_diff a b P w hP ha hb hra hrb h1 h2 h3
end Go.Proofs.YtjpdbhhjlnmacaaGreat
