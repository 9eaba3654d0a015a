/- (*Wheel).up. -/
import Derived.Test.YtbngcepekaicjaaTmOrd
namespace Go.Proofs.Ytbngcepekaicjaa
set_option linter.unusedVariables false
open Go.RowKit

/-- The cells of those that wait. -/
def wc (l : List Wt) : List Value := l.flatMap fun x => [.int .i64 x.1, .int .i64 x.2]
theorem wc_len : ∀ l : List Wt, (wc l).length = 2 * l.length
  | [] => rfl
  | x :: l => by have := wc_len l; simp only [wc, List.flatMap_cons, List.length_append] at this ⊢; rw [this]; simp; omega
theorem wc_app (l m : List Wt) : wc (l ++ m) = wc l ++ wc m := by simp [wc]
theorem wc_0 : ∀ (l : List Wt) (i : Nat) (r : List Value), i < l.length → (wc l ++ r)[i * 2]? = some (.int .i64 (gW l i).1)
  | x :: l, 0, r, _ => rfl
  | x :: l, i + 1, r, h => by
    have := wc_0 l i r (by simpa using h)
    rw [show (i + 1) * 2 = i * 2 + 1 + 1 from by omega]
    exact this
theorem wc_1 : ∀ (l : List Wt) (i : Nat) (r : List Value), i < l.length → (wc l ++ r)[i * 2 + 1]? = some (.int .i64 (gW l i).2)
  | x :: l, 0, r, _ => rfl
  | x :: l, i + 1, r, h => by
    have := wc_1 l i r (by simpa using h)
    rw [show (i + 1) * 2 + 1 = i * 2 + 1 + 1 + 1 from by omega]
    exact this
theorem wc_set : ∀ (l : List Wt) (i : Nat) (r : List Value) (x : Wt), i < l.length → ((wc l ++ r).set (i * 2) (.int .i64 x.1)).set (i * 2 + 1) (.int .i64 x.2) = wc (l.set i x) ++ r
  | y :: l, 0, r, x, _ => rfl
  | y :: l, i + 1, r, x, h => by
    have := wc_set l i r x (by simpa using h)
    rw [show (i + 1) * 2 = i * 2 + 1 + 1 from by omega]
    show Value.int .i64 y.1 :: Value.int .i64 y.2 :: (((wc l ++ r).set (i * 2) (.int .i64 x.1)).set (i * 2 + 1) (.int .i64 x.2)) = _
    rw [this]
    rfl

theorem Blk.setl {w : World} {g i : Nat} {t : TypeId} {l : List Value} (h : Blk w g t l.toArray) (u : Value) : Blk (w.setCell ⟨g, i, none⟩ u) g t (l.set i u).toArray := by
  have := h.set_ i u
  simpa using this
/-- Those that wait lie in block b. -/
def HBk (w : World) (b : Nat) (l : List Wt) (r : List Value) : Prop := Blk w b 57 (wc l ++ r).toArray
section
variable {w : World} {b : Nat} {l : List Wt} {r : List Value}
theorem HBk.c0 (h : HBk w b l r) {i : Nat} (hi : i < l.length) : w.cell? ⟨b, i * 2, none⟩ = some (.int .i64 (gW l i).1) := by
  have := Blk.cell h (i * 2)
  rw [this, List.getElem?_toArray]; exact wc_0 l i r hi
theorem HBk.c1 (h : HBk w b l r) {i : Nat} (hi : i < l.length) : w.cell? ⟨b, i * 2 + 1, none⟩ = some (.int .i64 (gW l i).2) := by
  have := Blk.cell h (i * 2 + 1)
  rw [this, List.getElem?_toArray]; exact wc_1 l i r hi
theorem HBk.set2 (h : HBk w b l r) {i : Nat} (hi : i < l.length) (x : Wt) : HBk ((w.setCell ⟨b, i * 2, none⟩ (.int .i64 x.1)).setCell ⟨b, i * 2 + 1, none⟩ (.int .i64 x.2)) b (l.set i x) r := by
  have := (Blk.setl (i := i * 2) h (.int .i64 x.1)).setl (i := i * 2 + 1) (.int .i64 x.2)
  rw [wc_set l i r x hi] at this
  exact this
theorem HBk.swp (h : HBk w b l r) {p i : Nat} (hp : p < l.length) (hi : i < l.length) :
    HBk ((((w.setCell ⟨b, p * 2, none⟩ (.int .i64 (gW l i).1)).setCell ⟨b, p * 2 + 1, none⟩ (.int .i64 (gW l i).2)).setCell ⟨b, i * 2, none⟩ (.int .i64 (gW l p).1)).setCell ⟨b, i * 2 + 1, none⟩ (.int .i64 (gW l p).2)) b (swp l p i) r :=
  (h.set2 hp (gW l i)).set2 (by simpa using hi) (gW l p)
theorem only4 {w a : World} {b : Nat} (h : Only a w b) (o1 o2 o3 o4 : Nat) (u1 u2 u3 u4 : Value) : Only a ((((w.setCell ⟨b, o1, none⟩ u1).setCell ⟨b, o2, none⟩ u2).setCell ⟨b, o3, none⟩ u3).setCell ⟨b, o4, none⟩ u4) b :=
  (((h.set_ (.inl rfl) _).set_ (.inl rfl) _).set_ (.inl rfl) _).set_ (.inl rfl) _
end
def UpP (l : List Wt) (i : Nat) (l' : List Wt) (k : Nat) : Prop := upF l' k = upF l i ∧ l'.length = l.length
/-- Behind the call the heap's block is so; nothing else has changed. -/
def Moved (w : World) (b : Nat) (l : List Wt) (r : List Value) (e : Ending) (w' : World) : Prop := e = .returned (.tuple #[]) ∧ Only w w' b ∧ HBk w' b l r

set_option maxHeartbeats 2000000 in
set_option maxRecDepth 100000 in
theorem up_any (g b cap i : Nat) (l : List Wt) (r : List Value) (w : World) (hg : Blk w g 54 #[.slice (some ⟨b, 0, none⟩) l.length cap]) (hb : HBk w b l r) (hi : i < l.length) (hl : l.length ≤ 300) :
    Calls Try.prog 23 #[.pointer (some ⟨g, 0, none⟩), .int .i64 i] w fun e w' => Moved w b (upF l i) r e w' := by
  have hne : g ≠ b := hg.ne_ hb (by decide)
  obtain ⟨n, hn⟩ : ∃ n, n = l.length := ⟨_, rfl⟩
  rw [← hn] at hg hl hi
  have HG := Lib.hid hg; have HB := Lib.hid hb; have HN := Lib.hid hn
  have hii : (i : Int) < 300 := by omega
  clear hg hb hn
  go_enter Try.func23, Try.ntmps23
  go_wp2
  go_loopw [1] (fun iv wr => ∃ (k : Nat) (l' : List Wt), k < n ∧ UpP l i l' k ∧ iv = .int .i64 k ∧ HBk wr b l' r ∧ Only w wr b) (fun iv _ => (intOf iv).toNat)
  case atStart => exact ⟨i, l, hi, ⟨rfl, rfl⟩, rfl, HB.out, Only.refl _ _⟩
  case round =>
    obtain ⟨k, l', hk, hup, rfl, hbk, ho⟩ := hrel
    have HU := Lib.hid hup; have HBK := Lib.hid hbk; have HO := Lib.hid ho
    clear hup hbk ho HB
    have hl' : k < l'.length := by rw [HU.out.2, ← HN.out]; exact hk
    by_cases h0 : 0 < k
    · have h0' : (0 : Int) < (k : Int) := by omega
      have hk' : (k : Int) < 300 := by omega
      obtain ⟨p, hp⟩ : ∃ p, p = (k - 1) / 2 := ⟨_, rfl⟩
      have hpk : p < k := by omega
      have hpl : p < l'.length := by omega
      have ep : ((k : Int) - 1) / 2 = (p : Int) := by omega
      have hpn : (p : Int) < (n : Int) := by omega
      have hkn : (k : Int) < (n : Int) := by omega
      have hp0 : (0 : Int) ≤ (p : Int) := by omega
      have HP := Lib.hid hp
      clear hp
      have cg := (HG.out.grown HO.out (by intro e; injection e with e; exact hne e)).cell 0
      simp only [List.getElem?_toArray, List.getElem?_cons_zero] at cg
      have x0 := HBK.out.c0 hpl; have x1 := HBK.out.c1 hpl; have y0 := HBK.out.c0 hl'; have y1 := HBK.out.c1 hl'
      go_wp2_with fail
      rw [ep]
      have hs0 : wr.drew.cell? ⟨g, 0, none⟩ = some (.slice (some ⟨b, 0, none⟩) n cap) ∧ wr.drew.cell? ⟨b, p * 2, none⟩ = some (.int .i64 (gW l' p).1) ∧ wr.drew.cell? ⟨b, p * 2 + 1, none⟩ = some (.int .i64 (gW l' p).2) ∧ wr.drew.cell? ⟨b, k * 2, none⟩ = some (.int .i64 (gW l' k).1) ∧ wr.drew.cell? ⟨b, k * 2 + 1, none⟩ = some (.int .i64 (gW l' k).2) := ⟨cg, x0, x1, y0, y1⟩
      have HS0 := Lib.hid hs0
      have HC := Lib.hid (order_any (gW l' p) (gW l' k) wr.drew)
      have gl := (HG.out.grown HO.out (by intro e; injection e with e; exact hne e)).lt
      have bl := Blk.lt HBK.out
      have EP := Lib.hid ep
      clear hs0 cg x0 x1 y0 y1 ep
      obtain ⟨c, hc⟩ : ∃ c, c = ordW (gW l' p) (gW l' k) := ⟨_, rfl⟩
      rw [← hc] at HC
      have HCC := Lib.hid hc
      clear hc
      by_cases hs : c ≤ 0
      all_goals
        go_region_held3 (fun W => W.cell? ⟨g, 0, none⟩ = some (.slice (some ⟨b, 0, none⟩) n cap) ∧ W.cell? ⟨b, p * 2, none⟩ = some (.int .i64 (gW l' p).1) ∧ W.cell? ⟨b, p * 2 + 1, none⟩ = some (.int .i64 (gW l' p).2) ∧ W.cell? ⟨b, k * 2, none⟩ = some (.int .i64 (gW l' k).1) ∧ W.cell? ⟨b, k * 2 + 1, none⟩ = some (.int .i64 (gW l' k).2)) (first | with_reducible exact HS0.out | with_reducible exact HS1.out | fail)
          (first
            | (go_at_call 26; refine HC.out.mono ?_; rintro e w1 ⟨rfl, hl⟩;
               have HL := Lib.hid ((Below.refl wr.heap.size wr).drew.trans hl);
               have HS1 : Hid (w1.cell? ⟨g, 0, none⟩ = some (.slice (some ⟨b, 0, none⟩) n cap) ∧ w1.cell? ⟨b, p * 2, none⟩ = some (.int .i64 (gW l' p).1) ∧ w1.cell? ⟨b, p * 2 + 1, none⟩ = some (.int .i64 (gW l' p).2) ∧ w1.cell? ⟨b, k * 2, none⟩ = some (.int .i64 (gW l' k).1) ∧ w1.cell? ⟨b, k * 2 + 1, none⟩ = some (.int .i64 (gW l' k).2)) := Lib.hid (by obtain ⟨q0, q1, q2, q3, q4⟩ := HS0.out; exact ⟨(hl.cell (p := ⟨g, _, none⟩) gl).trans q0, (hl.cell (p := ⟨b, _, none⟩) bl).trans q1, (hl.cell (p := ⟨b, _, none⟩) bl).trans q2, (hl.cell (p := ⟨b, _, none⟩) bl).trans q3, (hl.cell (p := ⟨b, _, none⟩) bl).trans q4⟩);
               clear hl))
        clear HS0 HC
      · have HSS := Lib.hid hs
        clear HS1
        go_wp2
        refine bodyPost_ret (results_none rfl _ _ _) rfl ⟨rfl, HO.out.trans (Only.of_below HL.out b), ?_⟩
        have e : upF l i = l' := by rw [← HU.out.1]; exact upF_stop (by rw [← HP.out, ← HCC.out]; exact HSS.out)
        rw [e]
        exact Blk.below HBK.out HL.out bl
      · have hcc : 0 < c := by omega
        have HB1 := Lib.hid (Blk.below HBK.out HL.out bl)
        obtain ⟨q0, q1, q2, q3, q4⟩ := HS1.out
        have f1 := Blk.frozen HB1.out (p * 2); have f2 := Blk.frozen HB1.out (p * 2 + 1); have f3 := Blk.frozen HB1.out (k * 2); have f4 := Blk.frozen HB1.out (k * 2 + 1)
        clear HS1 hs
        go_wp2_with fail
        go_region
        have HX := Lib.hid (And.intro (HBk.swp (show HBk w1 b l' r from HB1.out) hpl hl') (only4 (HO.out.trans (Only.of_below HL.out b)) (p * 2) (p * 2 + 1) (k * 2) (k * 2 + 1) (.int .i64 (gW l' k).1) (.int .i64 (gW l' k).2) (.int .i64 (gW l' p).1) (.int .i64 (gW l' p).2)))
        have HCN := Lib.hid hcc
        clear q0 q1 q2 q3 q4 f1 f2 f3 f4 hcc
        go_wp2
        go_roundw
        case rel => exact ⟨p, swp l' p k, by omega, ⟨by rw [← HU.out.1, upF_go h0 (by rw [← HP.out, ← HCC.out]; have := HCN.out; omega), ← HP.out], by rw [swp_len]; exact HU.out.2⟩, by go_num, Blk.drew HX.out.1, HX.out.2.drew⟩
        case measure => simp [intOf]; omega
    · obtain rfl : k = 0 := by omega
      go_wp2
      go_end0
      refine ⟨rfl, HO.out, ?_⟩
      have e : upF l i = l' := by rw [← HU.out.1]; exact upF_zero _
      rw [e]
      exact HBK.out
end Go.Proofs.Ytbngcepekaicjaa
