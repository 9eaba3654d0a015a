/- The contract of the reference's Next: it answers as the program's. -/
import Derived.Test.YtiemfdglejenpaaFrameNext
import Derived.Test.YtiemfdglejenpaaFrameRef
import Derived.Deep.RegionHeld3
namespace Go.Proofs.Ytiemfdglejenpaa.Ref06
set_option linter.unusedVariables false
open Go.RowKit Go.Proofs.Ytiemfdglejenpaa.Crc Go.Proofs.Ytiemfdglejenpaa

theorem take2 (l : List UInt8) (n : Nat) (h : 2 ≤ l.length) : [l.getD 0 0, l.getD 1 0] ++ (l.drop 2).take n = l.take (n + 2) := by
  match l, h with
  | x :: y :: t, _ => simp [List.take_succ_cons]
/-! A frame at the beginning is the frame of its payload. -/
theorem head_pay {r : ByteArray} (h2 : lenAt r ≤ 2000) (h3 : lenAt r + 6 ≤ r.size) : headOf (payload r) ++ payload r = r.extract 0 (lenAt r + 2) := by
  obtain ⟨n, hn⟩ : ∃ n, n = lenAt r := ⟨_, rfl⟩
  have hps : (payload r).size = n := by unfold payload; rw [← hn]; simp; omega
  have hl : r.data.toList.length = r.size := by simp
  have b0 := (r.data.toList.getD 0 0).toNat_lt
  have b1 := (r.data.toList.getD 1 0).toNat_lt
  have e0 : r.data.toList.getD 0 0 = r.data.toList[0]'(by rw [hl]; omega) := by rw [List.getD_eq_getElem?_getD, List.getElem?_eq_getElem (by rw [hl]; omega)]; rfl
  have e1 : r.data.toList.getD 1 0 = r.data.toList[1]'(by rw [hl]; omega) := by rw [List.getD_eq_getElem?_getD, List.getElem?_eq_getElem (by rw [hl]; omega)]; rfl
  have hn' : n = (r.data.toList.getD 0 0).toNat * 256 + (r.data.toList.getD 1 0).toNat := hn
  apply WideShapes.bytes_inj
  have hd : (headOf (payload r)).data.toList = [r.data.toList.getD 0 0, r.data.toList.getD 1 0] := by
    unfold headOf
    rw [strOfNums_data, hps]
    simp only [List.map_cons, List.map_nil]
    rw [u8_eq (a := r.data.toList.getD 0 0) (n := n / 256) (by omega), u8_eq (a := r.data.toList.getD 1 0) (n := n % 256) (by omega)]
    congr 2
  have hp : (payload r).data.toList = (r.data.toList.drop 2).take n := by
    unfold payload
    rw [Lib.extract_data, ← hn, show n + 2 - 2 = n by omega]
  rw [show (headOf (payload r) ++ payload r).data.toList = (headOf (payload r)).data.toList ++ (payload r).data.toList by simp, hd, hp, Lib.extract_data, ← hn]
  rw [List.drop_zero, Nat.sub_zero]
  exact take2 _ n (by rw [hl]; omega)
theorem frame_eq {r : ByteArray} (h2 : lenAt r ≤ 2000) (h3 : lenAt r + 6 ≤ r.size) : (frameOf (payload r) = r.extract 0 (lenAt r + 6)) ↔ tailOk r = true := by
  unfold frameOf tailOk
  rw [head_pay h2 h3, decide_eq_true_iff]
  have e : r.extract 0 (lenAt r + 6) = r.extract 0 (lenAt r + 2) ++ r.extract (lenAt r + 2) (lenAt r + 6) := by
    rw [ByteArray.extract_append_extract]
    congr 1
    omega
  rw [e]
  generalize r.extract 0 (lenAt r + 2) = X
  generalize tailOf (sum X.data.toList) = Y
  generalize r.extract (lenAt r + 2) (lenAt r + 6) = Z
  constructor
  · intro h
    apply WideShapes.bytes_inj
    have := congrArg (fun b : ByteArray => b.data.toList) h
    simp at this
    rw [this]
  · intro h; rw [h]

theorem mul_go {r : ByteArray} (h : 2 ≤ r.size) : ((r[0]'(by omega)).toNat : Int) * (256 : Int) + ((r[1]'(by omega)).toNat : Int) = (lenAt r : Int) := by
  rw [byte_at, byte_at]
  simp [lenAt]
theorem wrap_sum {r : ByteArray} (h : 2 ≤ r.size) : IntKind.i64.wrap (((r[0]'(by omega)).toNat : Int) * (256 : Int) + ((r[1]'(by omega)).toNat : Int)) = (lenAt r : Int) := by
  rw [mul_go h]
  have b0 := (r.data.toList.getD 0 0).toNat_lt
  have b1 := (r.data.toList.getD 1 0).toNat_lt
  exact IntWalk.i64_in _ (by unfold lenAt; omega)

theorem wrap_sum64 {r : ByteArray} (h : 2 ≤ r.size) : wrap64 (((r[0]'(by omega)).toNat : Int) * (256 : Int) + ((r[1]'(by omega)).toNat : Int)) = (lenAt r : Int) := by
  rw [← wrap_sum h, IntWalk.i64_left]

set_option maxHeartbeats 400000 in
theorem next_out (s : ByteArray) (i : Int) (w : World) (hs : s.size ≤ 9223372036854775807) (hi : i < 0 ∨ (s.size : Int) < i) :
    Calls Try.prog 33 #[.string s, .int .i64 i] w fun e w' => NextOut ByteArray.empty 0 3 w e w' := by
  by_cases h0 : i < 0
  all_goals
    try have h1 : (s.size : Int) < i := by omega
    try have h2 : decide (i < 0) = false := by simp; omega
    clear hi
    go_enter Try.func33, Try.ntmps33
    go_wp2
    go_ret3
    exact ⟨rfl, Below.refl _ _⟩

set_option maxHeartbeats 1000000 in
theorem next_short (s : ByteArray) (i : Nat) (w : World) (hs : s.size ≤ 140737488355328) (hi : i ≤ s.size) (hr : (s.extract i s.size).size < 2) :
    Calls Try.prog 33 #[.string s, .int .i64 i] w fun e w' => NextOut ByteArray.empty 0 14 w e w' := by
  have hi' : (i : Int) ≤ s.size := by omega
  have h2 : decide ((i : Int) < 0) = false := by simp
  obtain ⟨r, hre⟩ : ∃ r, r = s.extract i s.size := ⟨_, rfl⟩
  have hsl : s.extract i s.size = r := hre.symm
  rw [hsl] at hr
  clear hre
  have hr' : (r.size : Int) < 2 := by omega
  go_enter Try.func33, Try.ntmps33
  go_wp2
  go_ret3
  exact ⟨rfl, Below.refl _ _⟩

set_option maxHeartbeats 1000000 in
theorem next_none (s : ByteArray) (i : Nat) (r : ByteArray) (w : World) (hs : s.size ≤ 140737488355328) (hi : i ≤ s.size) (hsl : s.extract i s.size = r) (hr : 2 ≤ r.size) (hn : ¬ (1 ≤ lenAt r ∧ lenAt r ≤ 2000 ∧ lenAt r + 6 ≤ r.size)) :
    Calls Try.prog 33 #[.string s, .int .i64 i] w fun e w' => NextOut ByteArray.empty 0 14 w e w' := by
  have hi' : (i : Int) ≤ s.size := by omega
  have h2 : decide ((i : Int) < 0) = false := by simp
  have hr' : (2 : Int) ≤ r.size := by omega
  have hlen := wrap_sum hr
  have hlen64 := wrap_sum64 hr
  have hlt : lenAt r < 65536 := by
    have b0 := (r.data.toList.getD 0 0).toNat_lt
    have b1 := (r.data.toList.getD 1 0).toNat_lt
    unfold lenAt; omega
  have hrs : r.size ≤ 140737488355328 := by
    have := congrArg ByteArray.size hsl
    simp at this; omega
  obtain ⟨n, hne⟩ : ∃ n, n = lenAt r := ⟨_, rfl⟩
  rw [← hne] at hn hlen hlen64 hlt
  clear hne
  have b0 : (0 : Int) < r.size := by omega
  have b1 : (1 : Int) < r.size := by omega
  have b0' : 0 < r.size := by omega
  have b1' : 1 < r.size := by omega
  obtain ⟨hw0, hw0', hw1⟩ := wraps hr
  have hcases : (decide ((n : Int) < 1)) = true ∨ ((decide ((n : Int) < 1)) = false ∧ 2000 < (n : Int)) ∨ ((decide ((n : Int) < 1)) = false ∧ (n : Int) ≤ 2000 ∧ (r.size : Int) < (n : Int) + 6) := by
    by_cases e : n = 0
    · exact .inl (by simp [e])
    · by_cases e2 : n ≤ 2000
      · exact .inr (.inr ⟨by simp; omega, by omega, by omega⟩)
      · exact .inr (.inl ⟨by simp; omega, by omega⟩)
  clear hn
  rcases hcases with hg | ⟨hg, hg'⟩ | ⟨hg, hg', hg''⟩
  all_goals
    have HG := Lib.hid hg
    clear hg
    go_enter Try.func33, Try.ntmps33
    go_wp2
    go_quiet (fail)
    clear hw0 hw0' hw1 hlen hlen64
    have hg := HG.out
    go_wp2
    go_ret3
    exact ⟨rfl, below_drewN (Below.refl _ _) _⟩

set_option maxHeartbeats 1000000 in
theorem next_whole (s : ByteArray) (i : Nat) (r : ByteArray) (w : World) (hs : s.size ≤ 140737488355328) (hi : i ≤ s.size) (hsl : s.extract i s.size = r) (hr : 2 ≤ r.size) (h1 : 1 ≤ lenAt r) (h2 : lenAt r ≤ 2000) (h3 : lenAt r + 6 ≤ r.size) :
    Calls Try.prog 33 #[.string s, .int .i64 i] w fun e w' => NextOut (bif tailOk r then payload r else ByteArray.empty) (bif tailOk r then (i + lenAt r + 6 : Nat) else 0) (bif tailOk r then 0 else 14) w e w' := by
  have hi' : (i : Int) ≤ s.size := by omega
  have hd : decide ((i : Int) < 0) = false := by simp
  have hr' : (2 : Int) ≤ r.size := by omega
  have hlen := wrap_sum hr
  have hlen64 := wrap_sum64 hr
  have hrs : r.size ≤ 140737488355328 := by
    have := congrArg ByteArray.size hsl
    simp at this; omega
  have heq := frame_eq h2 h3
  obtain ⟨ok, hok⟩ : ∃ ok, ok = tailOk r := ⟨_, rfl⟩
  rw [← hok] at heq ⊢
  obtain ⟨p, hp⟩ : ∃ p, p = payload r := ⟨_, rfl⟩
  have hps : p.size = lenAt r := by rw [hp]; unfold payload; simp; omega
  have hpx : r.extract 2 (lenAt r + 2) = p := by rw [hp]; rfl
  rw [← hp] at heq ⊢
  obtain ⟨F, hF⟩ : ∃ F, F = frameOf p := ⟨_, rfl⟩
  rw [← hF] at heq
  clear hp hok
  obtain ⟨n, hne⟩ : ∃ n, n = lenAt r := ⟨_, rfl⟩
  rw [← hne] at h1 h2 h3 hlen hlen64 heq hps hpx ⊢
  clear hne
  have hps' : p.size ≤ 2000 := by omega
  have b0 : (0 : Int) < r.size := by omega
  have b1 : (1 : Int) < r.size := by omega
  have b0' : 0 < r.size := by omega
  have b1' : 1 < r.size := by omega
  obtain ⟨hw0, hw0', hw1⟩ := wraps hr
  have hg1 : decide ((n : Int) < 1) = false := by simp; omega
  have hg2 : (n : Int) ≤ 2000 := by omega
  have hg3 : (n : Int) + 6 ≤ (r.size : Int) := by omega
  have HQ := Lib.hid heq
  have HPS := Lib.hid hps
  have HF := Lib.hid hF
  clear heq hps hF
  go_enter Try.func33, Try.ntmps33
  go_wp2
  go_quiet (fail)
  clear hw0 hw0' hw1 hlen hlen64
  go_wp2_with fail
  have x1 : IntKind.i64.wrap ((n : Int) + 6) = n + 6 := IntWalk.i64_in _ (by omega)
  have x2 : ((n : Int) + 6).toNat = n + 6 := by omega
  have x4 : 0 ≤ (n : Int) + 6 := by omega
  have hbeq : ((frameOf p).toList == (r.extract 0 (n + 6)).toList) = ok := by
    rw [← HF.out]
    cases ok
    · have hneq : F.toList ≠ (r.extract 0 (n + 6)).toList := fun e => by
        have h' : F = r.extract 0 (n + 6) := by
          apply WideShapes.bytes_inj
          rw [← Lib.toList_data, ← Lib.toList_data]; exact e
        have := HQ.out.1 h'
        simp at this
      simpa using hneq
    · rw [HQ.out.2 rfl]; simp
  cases ok
  all_goals
    go_region_held3 (fun _ => True) (trivial)
      (first
        | (go_at_call 26; refine (make_any p _ hps').mono ?_; rintro e w5 ⟨rfl, hl5⟩))
    have hl6 := (below_drewN (Below.refl w.heap.size w) nq).trans ((below_drewN (Below.refl w.heap.size (w.drewN nq)) 1).trans (hl5.mono (by simp)))
    clear hl5
    go_wp2
    go_ret3
  · exact ⟨rfl, hl6⟩
  · exact ⟨by rw [show (i : Int) + n + 6 = ((i + n + 6 : Nat) : Int) by omega]; rfl, hl6⟩

theorem next_any (s : ByteArray) (i : Int) (w : World) (hs : s.size ≤ 140737488355328) :
    Calls Try.prog 33 #[.string s, .int .i64 i] w fun e w' => NextOut (nextP s i) (nextTo s i) (nextE s i) w e w' := by
  cases hi : inside s i
  · have h : ¬ (0 ≤ i ∧ i ≤ (s.size : Int)) := by simpa [inside] using hi
    have := next_out s i w (by omega) (by omega)
    simpa [nextP, nextTo, nextE, hi] using this
  · have h : 0 ≤ i ∧ i ≤ (s.size : Int) := by simpa [inside] using hi
    obtain ⟨k, rfl⟩ := Int.eq_ofNat_of_zero_le h.1
    have hk : k ≤ s.size := by omega
    have hr : restAt s (k : Int) = s.extract k s.size := by simp [restAt]
    simp only [nextP, nextTo, nextE, hi, Bool.true_and, cond_true]
    obtain ⟨r, hre⟩ : ∃ r, r = restAt s (k : Int) := ⟨_, rfl⟩
    rw [← hre]
    have hr' : s.extract k s.size = r := by rw [hre, hr]
    by_cases h2 : 2 ≤ r.size
    · by_cases h3 : 1 ≤ lenAt r ∧ lenAt r ≤ 2000 ∧ lenAt r + 6 ≤ r.size
      · have := next_whole s k r w hs hk hr' h2 h3.1 h3.2.1 h3.2.2
        have e : frameAt r = tailOk r := by unfold frameAt; rw [decide_eq_true ⟨h2, h3.1, h3.2.1, h3.2.2⟩, Bool.true_and]
        rw [e]
        rw [show ((k : Int) + lenAt r + 6) = ((k + lenAt r + 6 : Nat) : Int) by omega]
        exact this
      · have := next_none s k r w hs hk hr' h2 h3
        have e : frameAt r = false := by unfold frameAt; rw [decide_eq_false (fun hh => h3 ⟨hh.2.1, hh.2.2.1, hh.2.2.2⟩), Bool.false_and]
        rw [e]
        exact this
    · have := next_short s k w hs hk (by rw [hr']; omega)
      have e : frameAt r = false := by unfold frameAt; rw [decide_eq_false (fun hh => h2 hh.1), Bool.false_and]
      rw [e]
      exact this
end Go.Proofs.Ytiemfdglejenpaa.Ref06
