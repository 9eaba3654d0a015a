/- (*Wheel).take; a wheel as it lies in memory. -/
import Derived.Test.YtbngcepekaicjaaTmDown
namespace Go.Proofs.Ytbngcepekaicjaa
set_option linter.unusedVariables false
open Go.RowKit

/-- A wheel at g with the heap l, as it lies in block v leads to. -/
def WhAt (w : World) (g base : Nat) (v : Value) (l : List Wt) : Prop := Blk w g 54 #[v] ∧ w.ownsRow base 57 2 v l.length (wc l)
/-- Blocks but g and that of v are as they were. -/
structure Kept (w w' : World) (g : Nat) (v : Value) : Prop where
  os : w'.os = w.os
  tape : w'.tape = w.tape
  output : w'.output = w.output
  size : w.heap.size ≤ w'.heap.size
  block : ∀ i, i < w.heap.size → i ≠ g → some i ≠ v.ownBlock → w'.heap[i]? = w.heap[i]?
/-- The wheel at g has become so. -/
def Turned (g base : Nat) (v : Value) (l : List Wt) (w w' : World) : Prop := ∃ v', WhAt w' g base v' l ∧ Kept w w' g v ∧ (v'.ownBlock = v.ownBlock ∨ ∃ k, w.heap.size ≤ k ∧ v'.ownBlock = some k)
section
variable {w w' w'' : World} {g base : Nat} {v v' : Value} {l : List Wt}
theorem Kept.refl (w : World) (g : Nat) (v : Value) : Kept w w g v := ⟨rfl, rfl, rfl, Nat.le_refl _, fun _ _ _ _ => rfl⟩
theorem Kept.of_below (h : Below w.heap.size w w') (g : Nat) (v : Value) : Kept w w' g v := ⟨h.os, h.tape, h.output, h.size, fun i hi _ _ => h.block i hi⟩
theorem Kept.trans (h : Kept w w' g v) (k : Kept w' w'' g v') (hv : v'.ownBlock = v.ownBlock ∨ ∃ k, w.heap.size ≤ k ∧ v'.ownBlock = some k) : Kept w w'' g v :=
  ⟨k.os.trans h.os, k.tape.trans h.tape, k.output.trans h.output, Nat.le_trans h.size k.size, fun i hi h1 h2 => (k.block i (Nat.lt_of_lt_of_le hi h.size) h1 (by
    rcases hv with e | ⟨x, hx, e⟩
    · rw [e]; exact h2
    · rw [e]; intro e'; injection e' with e'; omega)).trans (h.block i hi h1 h2)⟩
theorem Kept.only {b : Nat} (h : Kept w w' g v) (k : Only w' w'' b) (hb : v.ownBlock = some b) : Kept w w'' g v :=
  ⟨k.os.trans h.os, k.tape.trans h.tape, k.output.trans h.output, Nat.le_trans h.size k.size, fun i hi h1 h2 => (k.block i (Nat.lt_of_lt_of_le hi h.size) (by rw [← hb]; exact h2)).trans (h.block i hi h1 h2)⟩
theorem Kept.onlyg (h : Kept w w' g v) (k : Only w' w'' g) : Kept w w'' g v :=
  ⟨k.os.trans h.os, k.tape.trans h.tape, k.output.trans h.output, Nat.le_trans h.size k.size, fun i hi h1 h2 => (k.block i (Nat.lt_of_lt_of_le hi h.size) (fun e => h1 (by injection e))).trans (h.block i hi h1 h2)⟩
/-- A heap that is not empty. -/
theorem WhAt.row (h : WhAt w g base v l) (hl : 0 < l.length) : ∃ b cap r, v = .slice (some ⟨b, 0, none⟩) l.length cap ∧ base ≤ b ∧ HBk w b l r ∧ l.length ≤ cap ∧ (wc l ++ r).length = cap * 2 ∧ cap ≤ maxLen := by
  rcases h.2.2 with ⟨_, h0⟩ | ⟨b, cap, cur, rfl, hb, hg, hn, hm, hs, ht⟩
  · exact absurd h0 (by omega)
  · have hwl := wc_len l
    refine ⟨b, cap, cur.toList.drop (wc l).length, rfl, hb, ?_, hn, ?_, hm⟩
    · have e : wc l ++ cur.toList.drop (wc l).length = cur.toList := by
        rw [← ht, List.length_take_of_le (by simp; omega)]
        exact List.take_append_drop _ _
      unfold HBk Blk
      rw [e]
      simpa using hg
    · rw [List.length_append, List.length_drop, hwl]
      simp
      omega
/-- Made anew from what is known of the block. -/
theorem WhAt.mk' {b cap : Nat} {r : List Value} (h1 : Blk w g 54 #[.slice (some ⟨b, 0, none⟩) l.length cap]) (h2 : HBk w b l r) (hb : base ≤ b) (hc : l.length ≤ cap) (hm : cap ≤ maxLen) (hs : (wc l ++ r).length = cap * 2) :
    WhAt w g base (.slice (some ⟨b, 0, none⟩) l.length cap) l := by
  refine ⟨h1, by rw [wc_len]; omega, .inr ⟨b, cap, (wc l ++ r).toArray, rfl, hb, h2, hc, hm, by simpa using hs, ?_⟩⟩
  simp [wc_len, Nat.mul_comm]
end
theorem cut_cells {l : List Wt} {i : Nat} (hi : i < l.length) (r : List Value) : wc (l.set i (gW l (l.length - 1))) ++ r = wc (cutF l i) ++ (.int .i64 (gW l (l.length - 1)).1 :: .int .i64 (gW l (l.length - 1)).2 :: r) ∨ i = l.length - 1 := by
  by_cases h : i = l.length - 1
  · exact .inr h
  · left
    have e : l.set i (gW l (l.length - 1)) = cutF l i ++ [gW l (l.length - 1)] := by
      unfold cutF
      have h1 := (List.take_append_drop (l.length - 1) (l.set i (gW l (l.length - 1)))).symm
      have h2 : (l.set i (gW l (l.length - 1))).drop (l.length - 1) = [gW l (l.length - 1)] := by
        apply List.ext_getElem?
        intro t
        rw [List.getElem?_drop, List.getElem?_set]
        rcases Nat.eq_zero_or_pos t with rfl | ht
        · rw [if_neg (by omega), gW_some (by omega)]; rfl
        · rw [if_neg (by omega), List.getElem?_eq_none (by omega), List.getElem?_eq_none (by simp; omega)]
      rw [h2] at h1
      exact h1
    rw [e, wc_app]
    simp [wc]
theorem cut_cells' {l : List Wt} {i : Nat} (hi : i < l.length) (r : List Value) : ∃ r', wc (l.set i (gW l (l.length - 1))) ++ r = wc (cutF l i) ++ r' ∧ r'.length = r.length + 2 := by
  rcases cut_cells hi r with h | h
  · exact ⟨_, h, by simp⟩
  · have e : l.set i (gW l (l.length - 1)) = cutF l i ++ [gW l (l.length - 1)] := by
      unfold cutF
      have h1 := (List.take_append_drop (l.length - 1) (l.set i (gW l (l.length - 1)))).symm
      have h2 : (l.set i (gW l (l.length - 1))).drop (l.length - 1) = [gW l (l.length - 1)] := by
        apply List.ext_getElem?
        intro t
        rw [List.getElem?_drop, List.getElem?_set]
        rcases Nat.eq_zero_or_pos t with rfl | ht
        · rw [if_pos (by omega), if_pos (by omega)]; rfl
        · rw [if_neg (by omega), List.getElem?_eq_none (by omega), List.getElem?_eq_none (by simp; omega)]
      rw [h2] at h1
      exact h1
    exact ⟨[.int .i64 (gW l (l.length - 1)).1, .int .i64 (gW l (l.length - 1)).2] ++ r, by rw [e, wc_app]; simp [wc], by simp⟩
/-- One was taken out of the heap in block b. -/
def TakenOut (g b cap i : Nat) (l : List Wt) (r : List Value) (w : World) (e : Ending) (w' : World) : Prop :=
  e = .returned (.tuple #[]) ∧ Blk w' g 54 #[.slice (some ⟨b, 0, none⟩) (l.length - 1) cap] ∧ (∃ r', HBk w' b (takeF l i) r' ∧ r'.length = r.length + 2) ∧ Kept w w' g (.slice (some ⟨b, 0, none⟩) l.length cap)

set_option maxHeartbeats 2000000 in
set_option maxRecDepth 100000 in
theorem take_any (g b cap i : Nat) (l : List Wt) (r : List Value) (w : World) (hg : Blk w g 54 #[.slice (some ⟨b, 0, none⟩) l.length cap]) (hb : HBk w b l r) (hi : i < l.length) (hl : l.length ≤ 300) (hc : l.length ≤ cap) :
    Calls Try.prog 24 #[.pointer (some ⟨g, 0, none⟩), .int .i64 i] w fun e w' => TakenOut g b cap i l r w e w' := by
  have hne : g ≠ b := hg.ne_ hb (by decide)
  have hlast : l.length - 1 < l.length := by omega
  obtain ⟨m, hm⟩ : ∃ m, l.length = m + 1 := ⟨l.length - 1, by omega⟩
  have hml : l.length - 1 = m := by omega
  have em : ((l.length : Nat) : Int) - 1 = (m : Int) := by omega
  obtain ⟨n, hn⟩ : ∃ n, n = l.length := ⟨_, rfl⟩
  have cg := hg.cell 0
  have x0 := hb.c0 hlast; have x1 := hb.c1 hlast
  rw [hml] at x0 x1
  simp only [List.getElem?_toArray, List.getElem?_cons_zero] at cg
  have fg := hg.frozen 0
  have i0 : w.cell? ⟨b, i * 2, none⟩ = some (.int .i64 (gW l i).1) := hb.c0 hi
  have i1 : w.cell? ⟨b, i * 2 + 1, none⟩ = some (.int .i64 (gW l i).2) := hb.c1 hi
  have f0 := Blk.frozen hb (i * 2); have f1 := Blk.frozen hb (i * 2 + 1)
  obtain ⟨y, hy⟩ : ∃ y, y = gW l m := ⟨_, rfl⟩
  rw [← hy] at x0 x1
  have hset := (hb.set2 hi y).drew
  have hgs : Blk (((w.setCell ⟨b, i * 2, none⟩ (.int .i64 y.1)).setCell ⟨b, i * 2 + 1, none⟩ (.int .i64 y.2)).drew) g 54 #[.slice (some ⟨b, 0, none⟩) l.length cap] :=
    ((hg.far (p := ⟨b, i * 2, none⟩) hne _).far (p := ⟨b, i * 2 + 1, none⟩) hne _).drew
  rw [← hn] at hg hl hc em cg hgs
  have hii : (i : Int) < (n : Int) := by omega
  have hi0 : (0 : Int) ≤ (i : Int) := by omega
  have hm0 : (0 : Int) ≤ (m : Int) := by omega
  have hmn : (m : Int) < (n : Int) := by omega
  have hn3 : (n : Int) ≤ 300 := by omega
  have hmc : (m : Int) ≤ (cap : Int) := by omega
  have HG := Lib.hid hg; have HB := Lib.hid hb; have HN := Lib.hid hn; have HM := Lib.hid hm; have EM := Lib.hid em; have HY := Lib.hid hy; have HML := Lib.hid hml
  have HX := Lib.hid (And.intro hgs (And.intro hset (((Only.refl w b).set_ (p := ⟨b, i * 2, none⟩) (.inl rfl) (.int .i64 y.1)).set_ (p := ⟨b, i * 2 + 1, none⟩) (.inl rfl) (.int .i64 y.2)).drew))
  clear hg hb hn hm em hy hset hgs hml
  go_enter Try.func24, Try.ntmps24
  go_wp2_with fail
  rw [EM.out]
  go_region
  have hX := HX.out
  clear x0 x1 i0 i1 f0 f1 cg fg HX
  generalize ((w.setCell ⟨b, i * 2, none⟩ (.int .i64 y.1)).setCell ⟨b, i * 2 + 1, none⟩ (.int .i64 y.2)).drew = w1 at hX ⊢
  obtain ⟨hg1, hb1, ho1⟩ := hX
  have hcut : ∃ r', HBk w1 b (cutF l i) r' ∧ r'.length = r.length + 2 := by
    obtain ⟨r', e1, e2⟩ := cut_cells' hi r
    refine ⟨r', ?_, e2⟩
    unfold HBk
    rw [HML.out, ← HY.out] at e1
    rw [← e1]; exact hb1
  obtain ⟨r', hb1', hr'⟩ := hcut
  have cg := hg1.cell 0
  simp only [List.getElem?_toArray, List.getElem?_cons_zero] at cg
  have fg := hg1.frozen 0
  have hg2 : Blk (w1.setCell ⟨g, 0, none⟩ (.slice (some ⟨b, 0, none⟩) m cap)) g 54 #[.slice (some ⟨b, 0, none⟩) m cap] := hg1.set_ 0 _
  have hb2 : HBk (w1.setCell ⟨g, 0, none⟩ (.slice (some ⟨b, 0, none⟩) m cap)) b (cutF l i) r' := Blk.far hb1' (p := ⟨g, 0, none⟩) (fun e => hne e.symm) _
  have hk2 : Kept w (w1.setCell ⟨g, 0, none⟩ (.slice (some ⟨b, 0, none⟩) m cap)) g (.slice (some ⟨b, 0, none⟩) n cap) :=
    ((Kept.refl w g (.slice (some ⟨b, 0, none⟩) n cap)).only ho1 rfl).onlyg ((Only.refl w1 g).set_ (.inl rfl) _)
  have HX := Lib.hid (And.intro hg2 (And.intro hb2 hk2)); have HR := Lib.hid hr'
  clear hg1 hb1 ho1 hb1' hg2 hb2 hk2 hr'
  have hcl : (cutF l i).length = m := by rw [cutF_len]; exact HML.out
  have HCL := Lib.hid hcl
  have hm3 : m ≤ 300 := by omega
  have hmc' : m ≤ cap := by omega
  clear hcl
  by_cases him : i < m
  · have himi : (i : Int) < (m : Int) := by omega
    have HI := Lib.hid him
    clear him
    go_wp2_with fail
    have hX := HX.out
    clear cg fg HX
    generalize (w1.setCell ⟨g, 0, none⟩ (.slice (some ⟨b, 0, none⟩) m cap)) = w2 at hX ⊢
    obtain ⟨hg2, hb2, hk2⟩ := hX
    have hup := up_any g b cap i (cutF l i) r' w2 (by rw [HCL.out]; exact hg2) hb2 (by rw [HCL.out]; exact HI.out) (by rw [HCL.out]; exact hm3)
    have HUP := Lib.hid hup; have HK2 := Lib.hid hk2; have HG2 := Lib.hid hg2
    clear hup hk2 hg2 hb2
    refine HUP.out.mono ?_
    rintro e w3 ⟨rfl, ho3, hb3⟩
    have hg3 := HG2.out.grown ho3 (by intro e; injection e with e; exact hne e)
    have hul : (upF (cutF l i) i).length = m := by rw [upF_len]; exact HCL.out
    have HUL := Lib.hid hul
    have hdn := down_any g b cap i (upF (cutF l i) i) r' w3 (by rw [HUL.out]; exact hg3) hb3 (by rw [HUL.out]; exact HI.out) (by rw [HUL.out]; exact hm3)
    have HDN := Lib.hid hdn; have HK3 := Lib.hid (HK2.out.only ho3 rfl); have HG3 := Lib.hid hg3
    clear hdn hg3 hb3 ho3 HUP HK2 HG2 hul
    go_wp2_with fail
    refine HDN.out.mono ?_
    rintro e w4 ⟨rfl, ho4, hb4⟩
    have hg4 := HG3.out.grown ho4 (by intro e; injection e with e; exact hne e)
    have HE := Lib.hid (And.intro hg4 (And.intro hb4 (HK3.out.only ho4 rfl)))
    clear hg4 hb4 ho4 HDN HK3 HG3
    go_wp2
    go_end0
    refine ⟨rfl, by rw [HML.out]; exact HE.out.1, ⟨r', ?_, HR.out⟩, by rw [← HN.out]; exact HE.out.2.2⟩
    unfold takeF
    rw [if_pos (by rw [HML.out]; exact HI.out)]
    exact HE.out.2.1
  · have himi : (m : Int) ≤ (i : Int) := by omega
    have HI := Lib.hid him
    clear him
    go_wp2_with fail
    go_end0
    refine ⟨rfl, by rw [HML.out]; exact HX.out.1, ⟨r', ?_, HR.out⟩, by rw [← HN.out]; exact HX.out.2.2⟩
    unfold takeF
    rw [if_neg (by rw [HML.out]; exact HI.out)]
    exact HX.out.2.1
end Go.Proofs.Ytbngcepekaicjaa
