/- Contracts of frame.All, of the reference's All, and of its Same. -/
import Derived.Test.YtiemfdglejenpaaFrameRefNext
namespace Go.Proofs.Ytiemfdglejenpaa
set_option linter.unusedVariables false
open Go.RowKit Go.Proofs.Ytiemfdglejenpaa.Crc

theorem str_info16 : (Try.prog.info? 9).map (fun i => (i.zero, i.size, i.bytes)) = some (some (.string ByteArray.empty), 1, 16) := by kernel_rfl

/-- The payloads from a place on, and where they end; so many at most. -/
def allF (s : ByteArray) : Nat → Int → List ByteArray × Int
  | 0, i => ([], i)
  | f + 1, i => if nextE s i = 0 then (nextP s i :: (allF s f (nextTo s i)).1, (allF s f (nextTo s i)).2) else ([], i)
def allOf (s : ByteArray) : List ByteArray × Int := allF s (s.size + 1) 0

theorem next_yes {s : ByteArray} {i : Int} (h : nextE s i = 0) : 0 ≤ i ∧ i ≤ s.size ∧ frameAt (restAt s i) = true ∧ nextP s i = payload (restAt s i) ∧ nextTo s i = i + lenAt (restAt s i) + 6 := by
  unfold nextE at h
  cases hi : inside s i
  · rw [hi] at h; simp at h
  · cases hf : frameAt (restAt s i)
    · rw [hi, hf] at h; simp at h
    · have : 0 ≤ i ∧ i ≤ (s.size : Int) := by simpa [inside] using hi
      exact ⟨this.1, this.2, rfl, by simp [nextP, hi, hf], by simp [nextTo, hi, hf]⟩
theorem frameAt_yes {r : ByteArray} (h : frameAt r = true) : 2 ≤ r.size ∧ 1 ≤ lenAt r ∧ lenAt r ≤ 2000 ∧ lenAt r + 6 ≤ r.size ∧ tailOk r = true := by
  unfold frameAt at h
  simp only [Bool.and_eq_true, decide_eq_true_eq] at h
  exact ⟨h.1.1, h.1.2.1, h.1.2.2.1, h.1.2.2.2, h.2⟩
theorem next_goes {s : ByteArray} {i : Int} (h : nextE s i = 0) : i + 7 ≤ nextTo s i ∧ nextTo s i ≤ s.size := by
  obtain ⟨h0, h1, hf, _, ht⟩ := next_yes h
  obtain ⟨_, h2, h3, h4, _⟩ := frameAt_yes hf
  have hz : (restAt s i).size = s.size - i.toNat := by unfold restAt; simp
  rw [ht]
  omega

/-- What holds at each round of All: so many are gathered, so much fuel is left. -/
structure AllInv (s : ByteArray) (acc : List ByteArray) (i : Int) (f : Nat) : Prop where
  i0 : 0 ≤ i
  i1 : i ≤ s.size
  len : (acc.length : Int) ≤ i
  enough : (s.size : Int) < i + f
  all : allOf s = (acc ++ (allF s f i).1, (allF s f i).2)
section
variable {s : ByteArray} {acc : List ByteArray} {i : Int} {f : Nat}
theorem AllInv.start (s : ByteArray) : AllInv s [] 0 (s.size + 1) := ⟨by omega, by omega, by simp, by omega, rfl⟩
theorem AllInv.fuel (h : AllInv s acc i f) (he : nextE s i = 0) : ∃ f', f = f' + 1 := by
  have := h.enough; have := h.i1
  exact ⟨f - 1, by omega⟩
theorem AllInv.more (h : AllInv s acc i (f + 1)) (he : nextE s i = 0) : AllInv s (acc ++ [nextP s i]) (nextTo s i) f := by
  have hg := next_goes he
  have := h.i0; have := h.len; have := h.enough
  refine ⟨by omega, hg.2, by simp; omega, by omega, ?_⟩
  rw [h.all]
  conv => lhs; unfold allF
  simp [he]
theorem AllInv.small (h : AllInv s acc i f) : acc.length ≤ s.size := by have := h.len; have := h.i1; omega
theorem AllInv.grows (h : AllInv s acc i f) (he : nextE s i = 0) : 0 ≤ i ∧ i < nextTo s i ∧ nextTo s i ≤ s.size := by
  have hg := next_goes he
  have := h.i0
  omega
theorem AllInv.fin (h : AllInv s acc i f) (he : ¬ nextE s i = 0) : acc = (allOf s).1 ∧ i = (allOf s).2 := by
  have hf : allF s f i = ([], i) := by
    cases f with
    | zero => rfl
    | succ f => unfold allF; rw [if_neg he]
  rw [h.all, hf]
  simp
end

theorem allF_len (s : ByteArray) : ∀ (f : Nat) (i : Int), ((allF s f i).1.length : Int) ≤ f
  | 0, i => by simp [allF]
  | f + 1, i => by
    unfold allF
    split
    · have := allF_len s f (nextTo s i)
      simp; omega
    · simp; omega
theorem all_len (s : ByteArray) : (allOf s).1.length ≤ s.size + 1 := by
  have := allF_len s (s.size + 1) 0
  unfold allOf; omega

theorem own_later {w w1 : World} {base n size : Nat} {e : TypeId} {v : Value} {xs : List Value} (h : w.ownsRow base e size v n xs) (hl : Below w.heap.size w w1) : w1.ownsRow base e size v n xs := by
  obtain ⟨h1, h2⟩ := h
  refine ⟨h1, ?_⟩
  rcases h2 with h2 | ⟨g, cap, cur, hv, hg, hh, r⟩
  · exact .inl h2
  · refine .inr ⟨g, cap, cur, hv, hg, ?_, r⟩
    rw [hl.block g (by
      rcases Nat.lt_or_ge g w.heap.size with hlt | hge
      · exact hlt
      · rw [Array.getElem?_eq_none hge] at hh; cases hh)]
    exact hh

/-- All's answer: a list of its own, and where it ended. -/
def Alled (s : ByteArray) (w : World) (e : Ending) (w' : World) : Prop :=
  ∃ v, e = .returned (.tuple #[v, .int .i64 (allOf s).2]) ∧ w'.ownsRow w.heap.size 9 1 v (allOf s).1.length ((allOf s).1.map Value.string) ∧ Below w.heap.size w w'

set_option maxHeartbeats 1000000 in
theorem all_any (s : ByteArray) (w : World) (hs : s.size ≤ 10000) : Calls Try.prog 34 #[.string s] w fun e w' => Alled s w e w' := by
  obtain ⟨i0, hi0, hz0, hz1, hz2⟩ := info_parts str_info16
  go_enter Try.func34, Try.ntmps34
  go_wp2_with fail
  go_loopw [2, 3] (fun v gd wr => ∃ (acc : List ByteArray) (i : Int) (f : Nat), gd = .int .i64 i ∧ AllInv s acc i f ∧ wr.ownsRow w.heap.size 9 1 v acc.length (acc.map Value.string) ∧ Below w.heap.size w wr) (fun _ gd _ => (s.size - intOf gd).toNat)
  case atStart => exact ⟨[], 0, s.size + 1, rfl, AllInv.start s, ⟨rfl, .inl ⟨rfl, rfl⟩⟩, Below.refl _ _⟩
  case round =>
    obtain ⟨acc, i, f, rfl, hI, hown, hb⟩ := hrel
    by_cases he : nextE s i = 0
    · obtain ⟨f', rfl⟩ := hI.fuel he
      have hJ := hI.more he
      have hn := next_any s i
      rw [he] at hn
      have HN := Lib.hid hn
      have hsm := hI.small
      have hgo := hI.grows he
      have HI := Lib.hid hI
      have HJ := Lib.hid hJ
      clear hn hI hJ
      go_wp2_with fail
      refine (HN.out _ (by omega)).mono ?_
      rintro e w1 ⟨rfl, hl1⟩
      have hown1 := own_later hown hl1
      have hb1 := hb.trans (hl1.mono hb.size)
      clear hown hb hl1
      obtain ⟨p, hp⟩ : ∃ p, p = nextP s i := ⟨_, rfl⟩
      obtain ⟨t, ht⟩ : ∃ t, t = nextTo s i := ⟨_, rfl⟩
      rw [← hp, ← ht]
      rw [← ht] at hgo
      have HP := Lib.hid hp; have HT := Lib.hid ht
      clear hp ht he
      go_wp2_with (at_builtin; refine wpList_append_own _ rfl (.tmp 18) (.tmp 20) 51 rfl w.heap.size 9 i0 (.string ByteArray.empty) 1 16 Try.underlying51 hi0 hz0 hz1 hz2 rfl (by decide) _ _ _ rfl (hown1.alloc _) ⟨w1.heap.size, 0, none⟩ 1 1 [_] rfl rfl (cells_new w1 _ _) (by intro u hu; simp at hu; subst hu; rfl) (by unfold maxLen; omega) (by omega) (by have := hb1.size; simp; omega) ?_; intro v2 w2 hown2 hg2 _)
      have hba := hb1.alloc hb1.size (.cells #[.string p] 9)
      have hb2 := Below.own hba (hown1.alloc _) hg2 hba.size
      go_roundw
      case rel => exact ⟨acc ++ [p], t, f', rfl, by rw [HP.out, HT.out]; exact HJ.out, by simpa using hown2, hb2⟩
      case measure => simp [intOf]; omega
    · have hn := next_any s i
      have hsm := hI.small
      have hfin := hI.fin he
      have hne : (nextE s i == 0) = false := by simpa using he
      have hne' : (nextE s i != 0) = true := by simpa using he
      have HN := Lib.hid hn
      have HF := Lib.hid hfin
      clear hn hI hfin he
      go_wp2_with fail
      refine (HN.out _ (by omega)).mono ?_
      rintro e w1 ⟨rfl, hl1⟩
      go_wp2
      go_ret2
      refine ⟨_, ?_, HF.out.1 ▸ own_later hown hl1, hb.trans (hl1.mono hb.size)⟩
      rw [HF.out.2]
      rfl

set_option maxHeartbeats 1000000 in
theorem rall_any (s : ByteArray) (w : World) (hs : s.size ≤ 10000) : Calls Try.prog 35 #[.string s] w fun e w' => Alled s w e w' := by
  obtain ⟨i0, hi0, hz0, hz1, hz2⟩ := info_parts str_info16
  go_enter Try.func35, Try.ntmps35
  go_wp2_with fail
  go_loopw [4, 5] (fun v gd wr => ∃ (acc : List ByteArray) (i : Int) (f : Nat), gd = .int .i64 i ∧ AllInv s acc i f ∧ wr.ownsRow w.heap.size 9 1 v acc.length (acc.map Value.string) ∧ Below w.heap.size w wr) (fun _ gd _ => (s.size - intOf gd).toNat)
  case atStart => exact ⟨[], 0, s.size + 1, rfl, AllInv.start s, ⟨rfl, .inl ⟨rfl, rfl⟩⟩, Below.refl _ _⟩
  case round =>
    obtain ⟨acc, i, f, rfl, hI, hown, hb⟩ := hrel
    by_cases he : nextE s i = 0
    · obtain ⟨f', rfl⟩ := hI.fuel he
      have hJ := hI.more he
      have hn := Ref06.next_any s i
      rw [he] at hn
      have HN := Lib.hid hn
      have hsm := hI.small
      have hgo := hI.grows he
      have HI := Lib.hid hI
      have HJ := Lib.hid hJ
      clear hn hI hJ
      go_wp2_with fail
      refine (HN.out _ (by omega)).mono ?_
      rintro e w1 ⟨rfl, hl1⟩
      have hown1 := own_later hown hl1
      have hb1 := hb.trans (hl1.mono hb.size)
      clear hown hb hl1
      obtain ⟨p, hp⟩ : ∃ p, p = nextP s i := ⟨_, rfl⟩
      obtain ⟨t, ht⟩ : ∃ t, t = nextTo s i := ⟨_, rfl⟩
      rw [← hp, ← ht]
      rw [← ht] at hgo
      have HP := Lib.hid hp; have HT := Lib.hid ht
      clear hp ht he
      go_wp2_with (at_builtin; refine wpList_append_own _ rfl (.tmp 20) (.tmp 22) 51 rfl w.heap.size 9 i0 (.string ByteArray.empty) 1 16 Try.underlying51 hi0 hz0 hz1 hz2 rfl (by decide) _ _ _ rfl (hown1.alloc _) ⟨w1.heap.size, 0, none⟩ 1 1 [_] rfl rfl (cells_new w1 _ _) (by intro u hu; simp at hu; subst hu; rfl) (by unfold maxLen; omega) (by omega) (by have := hb1.size; simp; omega) ?_; intro v2 w2 hown2 hg2 _)
      have hba := hb1.alloc hb1.size (.cells #[.string p] 9)
      have hb2 := Below.own hba (hown1.alloc _) hg2 hba.size
      go_roundw
      case rel => exact ⟨acc ++ [p], t, f', rfl, by rw [HP.out, HT.out]; exact HJ.out, by simpa using hown2, hb2⟩
      case measure => simp [intOf]; omega
    · have hn := Ref06.next_any s i
      have hsm := hI.small
      have hfin := hI.fin he
      have hne : (nextE s i == 0) = false := by simpa using he
      have hne' : (nextE s i != 0) = true := by simpa using he
      have HN := Lib.hid hn
      have HF := Lib.hid hfin
      clear hn hI hfin he
      go_wp2_with fail
      refine (HN.out _ (by omega)).mono ?_
      rintro e w1 ⟨rfl, hl1⟩
      go_wp2
      go_ret2
      refine ⟨_, ?_, HF.out.1 ▸ own_later hown hl1, hb.trans (hl1.mono hb.size)⟩
      rw [HF.out.2]
      rfl

end Go.Proofs.Ytiemfdglejenpaa
