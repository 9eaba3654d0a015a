/- Frames behind one another, in plain terms: what All finds is just the frames that stand there. No program in sight. -/
import Derived.Test.YtiemfdglejenpaaFrameAll
import Derived.Test.YtiemfdglejenpaaTurnPlain
namespace Go.Proofs.Ytiemfdglejenpaa
open Go.Proofs.Ytiemfdglejenpaa.Crc
set_option linter.unusedVariables false

def Ok (p : ByteArray) : Prop := 1 ≤ p.size ∧ p.size ≤ 2000
def cat : List ByteArray → ByteArray
  | [] => ByteArray.empty
  | p :: ps => frameOf p ++ cat ps
theorem cat_append (ps qs : List ByteArray) : cat (ps ++ qs) = cat ps ++ cat qs := by
  induction ps with
  | nil => simp [cat]
  | cons p ps ih => simp [cat, ih, ByteArray.append_assoc]

theorem drop_front {a b : ByteArray} : (a ++ b).extract a.size (a ++ b).size = b := by
  apply WideShapes.bytes_inj
  rw [Lib.extract_data]
  have e : a.size = a.data.toList.length := by simp
  rw [show (a ++ b).data.toList = a.data.toList ++ b.data.toList by simp, e, List.drop_left, List.take_of_length_le]
  simp [ByteArray.size_append]

theorem lenAt_front {p r : ByteArray} (h : p.size ≤ 2000) : lenAt (frameOf p ++ r) = p.size := by
  have hhl : (headOf p).data.toList = [UInt8.ofNat (p.size / 256), UInt8.ofNat (p.size % 256)] := by
    unfold headOf; rw [strOfNums_data]; rfl
  unfold lenAt
  rw [show (frameOf p ++ r).data.toList = (frameOf p).data.toList ++ r.data.toList by simp, frameOf_list, hhl]
  simp
  omega
theorem take_front {a b : ByteArray} : (a ++ b).extract 0 a.size = a := ByteArray.extract_append_eq_left rfl
theorem extract_front {a b : ByteArray} {i j : Nat} (h : j ≤ a.size) : (a ++ b).extract i j = a.extract i j := by
  apply WideShapes.bytes_inj
  rw [Lib.extract_data, Lib.extract_data]
  have e : a.data.toList.length = a.size := by simp
  rw [show (a ++ b).data.toList = a.data.toList ++ b.data.toList by simp]
  by_cases hij : i ≤ j
  · rw [List.drop_append_of_le_length (by omega), List.take_append_of_le_length (by simp; omega)]
  · rw [show j - i = 0 by omega]; simp

theorem frame_front {p r : ByteArray} (h : Ok p) : frameAt (frameOf p ++ r) = true ∧ payload (frameOf p ++ r) = p ∧ lenAt (frameOf p ++ r) = p.size := by
  have hl := lenAt_front (p := p) (r := r) h.2
  have hs := frame_lenAt h.2
  have h1 := h.1
  have h2 := h.2
  have hpay : payload (frameOf p ++ r) = p := by
    unfold payload
    rw [hl, extract_front (by omega)]
    apply WideShapes.bytes_inj
    rw [Lib.extract_data, frameOf_list]
    have hhl : (headOf p).data.toList.length = 2 := by unfold headOf; rw [strOfNums_data]; rfl
    have e : p.data.toList.length = p.size := by simp
    rw [List.append_assoc, ← hhl, List.drop_left, hhl, show p.size + 2 - 2 = p.size by omega, ← e, List.take_left]
  refine ⟨?_, hpay, hl⟩
  have hz : (frameOf p ++ r).size = p.size + 6 + r.size := by rw [ByteArray.size_append, hs]
  unfold frameAt
  rw [hl, decide_eq_true ⟨by omega, by omega, by omega, by omega⟩, Bool.true_and]
  refine (Ref06.frame_eq (by rw [hl]; omega) (by rw [hl, hz]; omega)).1 ?_
  rw [hpay, hl, extract_front (by omega), ← hs]
  simp

theorem frame_back {r : ByteArray} (h : frameAt r = true) : ∃ r', r = frameOf (payload r) ++ r' ∧ Ok (payload r) ∧ (payload r).size = lenAt r := by
  obtain ⟨h0, h1, h2, h3, h4⟩ := frameAt_yes h
  have hps : (payload r).size = lenAt r := by unfold payload; simp; omega
  refine ⟨r.extract (lenAt r + 6) r.size, ?_, ⟨by omega, by omega⟩, hps⟩
  rw [(Ref06.frame_eq h2 h3).2 h4, ByteArray.extract_append_extract]
  rw [show min 0 (lenAt r + 6) = 0 by omega, show max (lenAt r + 6) r.size = r.size by omega]
  simp

theorem restAt_size (s : ByteArray) (i : Int) : (restAt s i).size = s.size - i.toNat := by unfold restAt; simp
theorem restAt_zero (s : ByteArray) : restAt s 0 = s := by
  unfold restAt
  exact ByteArray.extract_zero_size
theorem restAt_add {s a b : ByteArray} {i : Int} (h0 : 0 ≤ i) (h : restAt s i = a ++ b) : restAt s (i + a.size) = b := by
  have hz := restAt_size s i
  rw [h, ByteArray.size_append] at hz
  have e : restAt s (i + a.size) = (restAt s i).extract a.size (restAt s i).size := by
    unfold restAt
    rw [ByteArray.extract_extract]
    congr 1
    · omega
    · simp; omega
  rw [e, h, drop_front]

theorem next_none_at {s : ByteArray} {i : Int} (h : frameAt (restAt s i) = false) : ¬ nextE s i = 0 := by
  unfold nextE
  rw [h]
  cases inside s i <;> simp
theorem next_some_at {s : ByteArray} {i : Int} (h0 : 0 ≤ i) (h1 : i ≤ s.size) (h : frameAt (restAt s i) = true) : nextE s i = 0 := by
  have hi : inside s i = true := by simp [inside, h0, h1]
  simp [nextE, hi, h]

theorem all_from : ∀ (ps : List ByteArray) (f : Nat) (i : Int) (s r : ByteArray), 0 ≤ i → i ≤ s.size → restAt s i = cat ps ++ r → frameAt r = false → (∀ p ∈ ps, Ok p) → (s.size : Int) < i + f → allF s f i = (ps, i + (cat ps).size)
  | [], f, i, s, r, h0, h1, hr, hf, _, he => by
    rw [show cat [] ++ r = r by simp [cat]] at hr
    have hn := next_none_at (s := s) (i := i) (by rw [hr]; exact hf)
    cases f with
    | zero => simp [allF, cat]
    | succ f => unfold allF; rw [if_neg hn]; simp [cat]
  | p :: ps, f, i, s, r, h0, h1, hr, hf, hok, he => by
    have hr' : restAt s i = frameOf p ++ (cat ps ++ r) := by rw [hr]; simp [cat, ByteArray.append_assoc]
    have hp := hok p (by simp)
    obtain ⟨g1, g2, g3⟩ := frame_front (r := cat ps ++ r) hp
    have hs := frame_lenAt hp.2
    rw [← hr'] at g1 g2 g3
    have hn := next_some_at h0 h1 g1
    obtain ⟨_, _, _, e1, e2⟩ := next_yes hn
    have hg := next_goes hn
    have e3 : nextTo s i = i + (frameOf p).size := by rw [e2, g3, hs]; omega
    cases f with
    | zero => omega
    | succ f =>
      unfold allF
      rw [if_pos hn, e1, g2]
      have ih := all_from ps f (nextTo s i) s r (by omega) hg.2 (by rw [e3]; exact restAt_add h0 hr') hf (fun q hq => hok q (by simp [hq])) (by omega)
      rw [ih]
      simp only [cat, ByteArray.size_append, e3]
      congr 1
      omega

theorem all_of_cat {ps : List ByteArray} {r : ByteArray} (hf : frameAt r = false) (hok : ∀ p ∈ ps, Ok p) : allOf (cat ps ++ r) = (ps, ((cat ps).size : Int)) := by
  have := all_from ps ((cat ps ++ r).size + 1) 0 (cat ps ++ r) r (by omega) (by omega) (restAt_zero _) hf hok (by omega)
  unfold allOf
  rw [this]
  simp

theorem all_back : ∀ (f : Nat) (i : Int) (s : ByteArray), 0 ≤ i → i ≤ s.size → (s.size : Int) < i + f → ∃ ps r, restAt s i = cat ps ++ r ∧ frameAt r = false ∧ (∀ p ∈ ps, Ok p) ∧ allF s f i = (ps, i + (cat ps).size)
  | 0, i, s, h0, h1, he => by omega
  | f + 1, i, s, h0, h1, he => by
    cases hf : frameAt (restAt s i)
    · exact ⟨[], restAt s i, by simp [cat], hf, by simp, by unfold allF; rw [if_neg (next_none_at hf)]; simp [cat]⟩
    · have hn := next_some_at h0 h1 hf
      obtain ⟨r', hr', hok, hps⟩ := frame_back hf
      obtain ⟨_, _, _, e1, e2⟩ := next_yes hn
      have hg := next_goes hn
      generalize payload (restAt s i) = q at *
      have hs := frame_lenAt hok.2
      have e3 : nextTo s i = i + (frameOf q).size := by rw [e2, hs, hps]; omega
      obtain ⟨ps, r, a1, a2, a3, a4⟩ := all_back f (nextTo s i) s (by omega) hg.2 (by omega)
      have hr2 : restAt s (nextTo s i) = r' := by rw [e3]; exact restAt_add h0 hr'
      rw [hr2] at a1
      refine ⟨q :: ps, r, ?_, a2, ?_, ?_⟩
      · rw [hr', a1]
        simp only [cat, ByteArray.append_assoc]
      · intro p hp
        rcases List.mem_cons.1 hp with e | hp
        · rw [e]; exact hok
        · exact a3 p hp
      · unfold allF
        rw [if_pos hn, e1, a4]
        simp only [cat, ByteArray.size_append, e3]
        congr 1
        omega

theorem all_is (s : ByteArray) : ∃ ps r, s = cat ps ++ r ∧ frameAt r = false ∧ (∀ p ∈ ps, Ok p) ∧ allOf s = (ps, ((cat ps).size : Int)) := by
  obtain ⟨ps, r, a1, a2, a3, a4⟩ := all_back (s.size + 1) 0 s (by omega) (by omega) (by omega)
  refine ⟨ps, r, ?_, a2, a3, ?_⟩
  · rw [← a1, restAt_zero]
  · unfold allOf; rw [a4]; simp

/-- JOINS. -/
theorem all_joins (s t : ByteArray) : allOf (s.extract 0 (allOf s).2.toNat ++ t) = ((allOf s).1 ++ (allOf t).1, (allOf s).2 + (allOf t).2) := by
  obtain ⟨ps, r, a1, a2, a3, a4⟩ := all_is s
  obtain ⟨qs, u, b1, b2, b3, b4⟩ := all_is t
  rw [a4, b4]
  have e : s.extract 0 ((cat ps).size : Int).toNat = cat ps := by
    conv => lhs; arg 1; rw [a1]
    exact take_front
  simp only []
  rw [e]
  conv => lhs; rw [b1]
  rw [← ByteArray.append_assoc, ← cat_append, all_of_cat b2 (by
    intro p hp
    rcases List.mem_append.1 hp with hp | hp
    · exact a3 p hp
    · exact b3 p hp)]
  rw [cat_append, ByteArray.size_append]
  simp

/-- A piece of a frame is none. -/
theorem piece_none {p : ByteArray} (h : Ok p) {k : Nat} (hk : k < (frameOf p).size) : frameAt ((frameOf p).extract 0 k) = false := by
  have hs := frame_lenAt h.2
  unfold frameAt
  by_cases h2 : 2 ≤ k
  · have hl : lenAt ((frameOf p).extract 0 k) = p.size := by
      have h0 := lenAt_front (p := p) (r := ByteArray.empty) h.2
      rw [ByteArray.append_empty] at h0
      rw [← h0]
      unfold lenAt
      rw [Lib.extract_data]
      simp only [List.drop_zero, List.getD_eq_getElem?_getD, List.getElem?_take]
      rw [if_pos (by omega), if_pos (by omega)]
    rw [hl, decide_eq_false (fun hh => by have := hh.2.2.2; simp at this; omega), Bool.false_and]
  · rw [decide_eq_false (fun hh => by have := hh.1; simp at this; omega), Bool.false_and]
theorem empty_none : frameAt ByteArray.empty = false := by decide +kernel

/-- ROWS: cut anywhere, the whole frames ahead of the cut are read. -/
theorem all_cut {ps : List ByteArray} (hok : ∀ p ∈ ps, Ok p) {n c : Nat} (hn : n ≤ ps.length) (hc : c ≤ (cat ps).size) (h1 : (cat (ps.take n)).size ≤ c) (h2 : n < ps.length → c < (cat (ps.take (n + 1))).size) :
    allOf ((cat ps).extract 0 c) = (ps.take n, ((cat (ps.take n)).size : Int)) := by
  by_cases hlt : n < ps.length
  · have hp := hok ps[n] (List.getElem_mem hlt)
    have e1 : cat ps = cat (ps.take n) ++ (frameOf ps[n] ++ cat (ps.drop (n + 1))) := by
      conv => lhs; rw [← List.take_append_drop n ps, List.drop_eq_getElem_cons hlt]
      rw [cat_append]; rfl
    have e2 : cat (ps.take (n + 1)) = cat (ps.take n) ++ frameOf ps[n] := by
      rw [List.take_succ_eq_append_getElem hlt, cat_append]; simp [cat]
    have h2' := h2 hlt
    rw [e2, ByteArray.size_append] at h2'
    have e3 : (cat ps).extract 0 c = cat (ps.take n) ++ (frameOf ps[n]).extract 0 (c - (cat (ps.take n)).size) := by
      apply WideShapes.bytes_inj
      rw [Lib.extract_data, e1]
      have hl : (cat (ps.take n)).data.toList.length = (cat (ps.take n)).size := by simp
      have hl2 : (frameOf ps[n]).data.toList.length = (frameOf ps[n]).size := by simp
      rw [show (cat (ps.take n) ++ (frameOf ps[n] ++ cat (ps.drop (n + 1)))).data.toList = (cat (ps.take n)).data.toList ++ ((frameOf ps[n]).data.toList ++ (cat (ps.drop (n + 1))).data.toList) by simp]
      rw [show (cat (ps.take n) ++ (frameOf ps[n]).extract 0 (c - (cat (ps.take n)).size)).data.toList = (cat (ps.take n)).data.toList ++ ((frameOf ps[n]).extract 0 (c - (cat (ps.take n)).size)).data.toList by simp, Lib.extract_data]
      rw [List.drop_zero, List.drop_zero, Nat.sub_zero, Nat.sub_zero, List.take_append, hl, List.take_of_length_le (by omega), List.take_append_of_le_length (by omega)]
    rw [e3]
    exact all_of_cat (piece_none hp (by omega)) (fun p hp => hok p (List.mem_of_mem_take hp))
  · have e : ps.take n = ps := List.take_of_length_le (by omega)
    rw [e] at h1 ⊢
    have : c = (cat ps).size := by omega
    subst this
    have := all_of_cat (r := ByteArray.empty) empty_none hok
    rw [ByteArray.append_empty] at this
    simpa using this
end Go.Proofs.Ytiemfdglejenpaa
