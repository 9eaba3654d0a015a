/- The document's reader: the beginning of a part, how many items (printed by wip/gen_refrd.py). -/
import Derived.Test.YtemhinagajfemaaCrdM25
import Derived.Test.YtemhinagajfemaaCrdM26
namespace Go.Proofs.Ytemhinagajfemaa
set_option linter.unusedVariables false
open Go.RowKit

def FBegun (s : ByteArray) (p m g : Nat) (k : Int) (w : World) (e : Ending) (w' : World) : Prop := e = .returned (.tuple #[]) ∧ RAt w' g s p k ((m + 1 : Nat) : Int) ∧ Only w w' g

set_option maxHeartbeats 1000000 in
theorem fbegin_ok (s : ByteArray) (p m deep g : Nat) (k : Int) (w : World) (hm : m ≤ 200) (hd : deep ≤ 12) (hm1 : m + 1 ≤ 200) (h : RAt w g s p (0) (m : Int)) :
    Calls Try.prog 109 #[.pointer (some ⟨g, 0, none⟩), .int .i64 deep] w fun e w' => FBegun s p m g (0) w e w' := by
  have hw1 : IntKind.i64.wrap ((m : Int) + 1) = (m : Int) + 1 := IntWalk.i64_in _ (by omega)
  have i1 : decide ((12 : Int) < (deep : Int)) = false := by simp; omega
  have i2 : decide ((200 : Int) < (m : Int) + 1) = false := by simp; omega
  have h3 := h.cell 3
  have f3 := h.frozen 3
  simp at h3
  obtain ⟨W, hW⟩ : ∃ W, W = w.setCell ⟨g, 3, none⟩ (.int .i64 ((m : Int) + 1)) := ⟨_, rfl⟩
  have hA : RAt W g s p (0) ((m + 1 : Nat) : Int) := by
    rw [hW]
    have := Blk.set_ h 3 (.int .i64 ((m : Int) + 1))
    exact this
  have hO : Only w W g := by rw [hW]; exact (Only.refl w g).set_ (p := ⟨g, 3, none⟩) (.inl rfl) _
  have c3 := hA.cell 3
  have c2 := hA.cell 2
  simp at c2 c3
  have HA := Lib.hid hA; have HO := Lib.hid hO; have HW := Lib.hid hW
  clear h hA hO hW
  go_enter Try.func109, Try.ntmps109
  go_upto_region 1 with fail
  rw [← HW.out]
  go_wp2
  go_end0
  exact ⟨rfl, HA.out, HO.out⟩

set_option maxHeartbeats 1000000 in
theorem fbegin_deep (s : ByteArray) (p m deep g : Nat) (k : Int) (w : World) (hm : m ≤ 200) (hd : 12 < deep) (h : RAt w g s p (0) (m : Int)) :
    Calls Try.prog 109 #[.pointer (some ⟨g, 0, none⟩), .int .i64 deep] w fun e w' => FBegun s p m g (5) w e w' := by
  have hw1 : IntKind.i64.wrap ((m : Int) + 1) = (m : Int) + 1 := IntWalk.i64_in _ (by omega)
  have i1 : decide ((12 : Int) < (deep : Int)) = true := by simp; omega
  have h3 := h.cell 3
  have f3 := h.frozen 3
  simp at h3
  obtain ⟨W, hW⟩ : ∃ W, W = w.setCell ⟨g, 3, none⟩ (.int .i64 ((m : Int) + 1)) := ⟨_, rfl⟩
  have hA : RAt W g s p (0) ((m + 1 : Nat) : Int) := by
    rw [hW]
    have := Blk.set_ h 3 (.int .i64 ((m : Int) + 1))
    exact this
  have hO : Only w W g := by rw [hW]; exact (Only.refl w g).set_ (p := ⟨g, 3, none⟩) (.inl rfl) _
  have c3 := hA.cell 3
  have c2 := hA.cell 2
  simp at c2 c3
  have HA := Lib.hid hA; have HO := Lib.hid hO; have HW := Lib.hid hW
  clear h hA hO hW
  go_enter Try.func109, Try.ntmps109
  go_upto_region 1 with fail
  rw [← HW.out]
  go_wp2_with fail
  refine (ffail_any 5 s p ((m + 1 : Nat) : Int) g W HA.out).mono ?_
  rintro e w3 ⟨rfl, ha, ho⟩
  have HA3 := Lib.hid ha; have HO3 := Lib.hid (HO.out.trans ho)
  clear ha ho
  go_wp2
  go_end0
  exact ⟨rfl, HA3.out, HO3.out⟩

set_option maxHeartbeats 1000000 in
theorem fbegin_many (s : ByteArray) (p m deep g : Nat) (k : Int) (w : World) (hm : m ≤ 200) (hd : deep ≤ 12) (hm1 : 200 < m + 1) (h : RAt w g s p (0) (m : Int)) :
    Calls Try.prog 109 #[.pointer (some ⟨g, 0, none⟩), .int .i64 deep] w fun e w' => FBegun s p m g (5) w e w' := by
  have hw1 : IntKind.i64.wrap ((m : Int) + 1) = (m : Int) + 1 := IntWalk.i64_in _ (by omega)
  have i1 : decide ((12 : Int) < (deep : Int)) = false := by simp; omega
  have i2 : decide ((200 : Int) < (m : Int) + 1) = true := by simp; omega
  have h3 := h.cell 3
  have f3 := h.frozen 3
  simp at h3
  obtain ⟨W, hW⟩ : ∃ W, W = w.setCell ⟨g, 3, none⟩ (.int .i64 ((m : Int) + 1)) := ⟨_, rfl⟩
  have hA : RAt W g s p (0) ((m + 1 : Nat) : Int) := by
    rw [hW]
    have := Blk.set_ h 3 (.int .i64 ((m : Int) + 1))
    exact this
  have hO : Only w W g := by rw [hW]; exact (Only.refl w g).set_ (p := ⟨g, 3, none⟩) (.inl rfl) _
  have c3 := hA.cell 3
  have c2 := hA.cell 2
  simp at c2 c3
  have HA := Lib.hid hA; have HO := Lib.hid hO; have HW := Lib.hid hW
  clear h hA hO hW
  go_enter Try.func109, Try.ntmps109
  go_upto_region 1 with fail
  rw [← HW.out]
  go_wp2_with fail
  refine (ffail_any 5 s p ((m + 1 : Nat) : Int) g W HA.out).mono ?_
  rintro e w3 ⟨rfl, ha, ho⟩
  have HA3 := Lib.hid ha; have HO3 := Lib.hid (HO.out.trans ho)
  clear ha ho
  go_wp2
  go_end0
  exact ⟨rfl, HA3.out, HO3.out⟩

set_option maxHeartbeats 1000000 in
theorem fbegin_old1 (s : ByteArray) (p m deep g : Nat) (k : Int) (w : World) (hm : m ≤ 200) (hk : k ≠ 0) (hd : 12 < deep) (h : RAt w g s p (k) (m : Int)) :
    Calls Try.prog 109 #[.pointer (some ⟨g, 0, none⟩), .int .i64 deep] w fun e w' => FBegun s p m g (k) w e w' := by
  have hw1 : IntKind.i64.wrap ((m : Int) + 1) = (m : Int) + 1 := IntWalk.i64_in _ (by omega)
  have i1 : decide ((12 : Int) < (deep : Int)) = true := by simp; omega
  have HK := Lib.hid hk
  clear hk
  have h3 := h.cell 3
  have f3 := h.frozen 3
  simp at h3
  obtain ⟨W, hW⟩ : ∃ W, W = w.setCell ⟨g, 3, none⟩ (.int .i64 ((m : Int) + 1)) := ⟨_, rfl⟩
  have hA : RAt W g s p (k) ((m + 1 : Nat) : Int) := by
    rw [hW]
    have := Blk.set_ h 3 (.int .i64 ((m : Int) + 1))
    exact this
  have hO : Only w W g := by rw [hW]; exact (Only.refl w g).set_ (p := ⟨g, 3, none⟩) (.inl rfl) _
  have c3 := hA.cell 3
  have c2 := hA.cell 2
  simp at c2 c3
  have HA := Lib.hid hA; have HO := Lib.hid hO; have HW := Lib.hid hW
  clear h hA hO hW
  go_enter Try.func109, Try.ntmps109
  go_upto_region 1 with fail
  rw [← HW.out]
  go_wp2_with fail
  refine (ffail_old 5 k s p ((m + 1 : Nat) : Int) g W HA.out HK.out).mono ?_
  rintro e w3 ⟨rfl, rfl⟩
  go_wp2
  go_end0
  exact ⟨rfl, HA.out, HO.out⟩

set_option maxHeartbeats 1000000 in
theorem fbegin_old2 (s : ByteArray) (p m deep g : Nat) (k : Int) (w : World) (hm : m ≤ 200) (hk : k ≠ 0) (hd : deep ≤ 12) (hm1 : 200 < m + 1) (h : RAt w g s p (k) (m : Int)) :
    Calls Try.prog 109 #[.pointer (some ⟨g, 0, none⟩), .int .i64 deep] w fun e w' => FBegun s p m g (k) w e w' := by
  have hw1 : IntKind.i64.wrap ((m : Int) + 1) = (m : Int) + 1 := IntWalk.i64_in _ (by omega)
  have i1 : decide ((12 : Int) < (deep : Int)) = false := by simp; omega
  have i2 : decide ((200 : Int) < (m : Int) + 1) = true := by simp; omega
  have HK := Lib.hid hk
  clear hk
  have h3 := h.cell 3
  have f3 := h.frozen 3
  simp at h3
  obtain ⟨W, hW⟩ : ∃ W, W = w.setCell ⟨g, 3, none⟩ (.int .i64 ((m : Int) + 1)) := ⟨_, rfl⟩
  have hA : RAt W g s p (k) ((m + 1 : Nat) : Int) := by
    rw [hW]
    have := Blk.set_ h 3 (.int .i64 ((m : Int) + 1))
    exact this
  have hO : Only w W g := by rw [hW]; exact (Only.refl w g).set_ (p := ⟨g, 3, none⟩) (.inl rfl) _
  have c3 := hA.cell 3
  have c2 := hA.cell 2
  simp at c2 c3
  have HA := Lib.hid hA; have HO := Lib.hid hO; have HW := Lib.hid hW
  clear h hA hO hW
  go_enter Try.func109, Try.ntmps109
  go_upto_region 1 with fail
  rw [← HW.out]
  go_wp2_with fail
  refine (ffail_old 5 k s p ((m + 1 : Nat) : Int) g W HA.out HK.out).mono ?_
  rintro e w3 ⟨rfl, rfl⟩
  go_wp2
  go_end0
  exact ⟨rfl, HA.out, HO.out⟩

set_option maxHeartbeats 1000000 in
theorem fbegin_old3 (s : ByteArray) (p m deep g : Nat) (k : Int) (w : World) (hm : m ≤ 200) (hk : k ≠ 0) (hd : deep ≤ 12) (hm1 : m + 1 ≤ 200) (h : RAt w g s p (k) (m : Int)) :
    Calls Try.prog 109 #[.pointer (some ⟨g, 0, none⟩), .int .i64 deep] w fun e w' => FBegun s p m g (k) w e w' := by
  have hw1 : IntKind.i64.wrap ((m : Int) + 1) = (m : Int) + 1 := IntWalk.i64_in _ (by omega)
  have i1 : decide ((12 : Int) < (deep : Int)) = false := by simp; omega
  have i2 : decide ((200 : Int) < (m : Int) + 1) = false := by simp; omega
  have h3 := h.cell 3
  have f3 := h.frozen 3
  simp at h3
  obtain ⟨W, hW⟩ : ∃ W, W = w.setCell ⟨g, 3, none⟩ (.int .i64 ((m : Int) + 1)) := ⟨_, rfl⟩
  have hA : RAt W g s p (k) ((m + 1 : Nat) : Int) := by
    rw [hW]
    have := Blk.set_ h 3 (.int .i64 ((m : Int) + 1))
    exact this
  have hO : Only w W g := by rw [hW]; exact (Only.refl w g).set_ (p := ⟨g, 3, none⟩) (.inl rfl) _
  have c3 := hA.cell 3
  have c2 := hA.cell 2
  simp at c2 c3
  have HA := Lib.hid hA; have HO := Lib.hid hO; have HW := Lib.hid hW
  clear h hA hO hW
  go_enter Try.func109, Try.ntmps109
  go_upto_region 1 with fail
  rw [← HW.out]
  go_wp2
  go_end0
  exact ⟨rfl, HA.out, HO.out⟩

theorem fbegin_bad (s : ByteArray) (p m deep g : Nat) (w : World) (hm : m ≤ 200) (hb : 12 < deep ∨ 200 < m + 1) (h : RAt w g s p 0 (m : Int)) :
    Calls Try.prog 109 #[.pointer (some ⟨g, 0, none⟩), .int .i64 deep] w fun e w' => FBegun s p m g 5 w e w' := by
  by_cases hd : 12 < deep
  · exact fbegin_deep s p m deep g 0 w hm hd h
  · exact fbegin_many s p m deep g 0 w hm (by omega) (by omega) h
theorem fbegin_old (s : ByteArray) (p m deep g : Nat) (k : Int) (w : World) (hm : m ≤ 200) (hk : k ≠ 0) (h : RAt w g s p k (m : Int)) :
    Calls Try.prog 109 #[.pointer (some ⟨g, 0, none⟩), .int .i64 deep] w fun e w' => FBegun s p m g k w e w' := by
  by_cases hd : 12 < deep
  · exact fbegin_old1 s p m deep g k w hm hk hd h
  · by_cases hm1 : 200 < m + 1
    · exact fbegin_old2 s p m deep g k w hm hk (by omega) hm1 h
    · exact fbegin_old3 s p m deep g k w hm hk (by omega) (by omega) h

/-- How many items: the number and nought, or nought and the error. -/
def FMany (r : Except Int (Nat × Nat)) (s : ByteArray) (parts : Int) (g : Nat) (w : World) (e : Ending) (w' : World) : Prop :=
  Only w w' g ∧ ∃ (n q : Nat) (k : Int), e = .returned (.int .i64 n) ∧ RAt w' g s q k parts ∧ q ≤ s.size ∧ n ≤ 200 ∧ ((k = 0 ∧ r = .ok (n, q)) ∨ (k ≠ 0 ∧ n = 0 ∧ r = .error k))
set_option maxHeartbeats 1000000 in
theorem fmany_any (s : ByteArray) (p : Nat) (parts : Int) (g : Nat) (w : World) (hs : s.size ≤ 100000) (hp : p ≤ s.size) (h : RAt w g s p 0 parts) :
    Calls Try.prog 110 #[.pointer (some ⟨g, 0, none⟩)] w fun e w' => FMany (readM s p) s parts g w e w' := by
  have hr := fuint_any s p parts g w hs hp h
  clear h
  cases hu : readU s p 0 0 with
  | error k =>
    rw [hu] at hr
    have hk : k ≠ 0 := by rcases readU_err s p 0 0 k hu with rfl | rfl <;> decide
    have he : readM s p = .error k := by unfold readM; rw [hu]
    have HE := Lib.hid he; have HK := Lib.hid hk
    have HR := Lib.hid hr
    clear hr hu he hk
    go_enter Try.func110, Try.ntmps110
    go_wp2_with fail
    refine HR.out.mono ?_
    rintro e w2 ⟨ho2, rfl, q, hq, ha⟩
    have HO := Lib.hid ho2; have HA := Lib.hid ha
    clear ho2 ha
    go_wp2
    go_ret
    exact ⟨HO.out, 0, q, k, rfl, HA.out, hq, by omega, .inr ⟨HK.out, rfl, HE.out⟩⟩
  | ok nq =>
    obtain ⟨n, q⟩ := nq
    rw [hu] at hr
    obtain ⟨hn, hpq, hqs⟩ := readU_lt s p 0 0 (by decide) (by omega) n q hu
    have hre : readM s p = if n ≤ 200 then .ok (n, q) else .error 5 := by unfold readM; rw [hu]
    have HR := Lib.hid hr
    clear hr hu
    by_cases hb : n ≤ 200
    · rw [if_pos hb] at hre
      have i1 : decide ((200 : Int) < (n : Int)) = false := by simp; omega
      have hcv : IntKind.i64.wrap (n : Int) = (n : Int) := IntWalk.i64_in _ (by omega)
      have HE := Lib.hid hre
      clear hre
      go_enter Try.func110, Try.ntmps110
      go_wp2_with fail
      refine HR.out.mono ?_
      rintro e w2 ⟨ho2, rfl, ha2⟩
      have HA2 := Lib.hid ha2; have HO2 := Lib.hid ho2
      clear ha2 ho2 HR
      go_wp2
      go_ret
      refine ⟨HO2.out, n, q, 0, ?_, HA2.out, hqs, hb, .inl ⟨rfl, HE.out⟩⟩
      first
      | rfl
      | (refine congrArg (fun v => Ending.returned (Value.int .i64 v)) ?_; simp; omega)
    · rw [if_neg hb] at hre
      have i1 : decide ((200 : Int) < (n : Int)) = true := by simp; omega
      have HE := Lib.hid hre
      clear hre
      go_enter Try.func110, Try.ntmps110
      go_wp2_with fail
      refine HR.out.mono ?_
      rintro e w2 ⟨ho2, rfl, ha2⟩
      have HA2 := Lib.hid ha2; have HO2 := Lib.hid ho2
      clear ha2 ho2 HR
      go_wp2_with fail
      refine (ffail_any 5 s q parts g w2 HA2.out).mono ?_
      rintro e w3 ⟨rfl, ha3, ho3⟩
      have HA3 := Lib.hid ha3; have HO3 := Lib.hid (HO2.out.trans ho3)
      clear ha3 ho3
      go_wp2
      go_ret
      exact ⟨HO3.out, 0, q, 5, rfl, HA3.out, hqs, by omega, .inr ⟨by decide, rfl, HE.out⟩⟩
/-- A byte. -/
def FByteD (s : ByteArray) (p : Nat) (parts : Int) (g : Nat) (w : World) (e : Ending) (w' : World) : Prop :=
  Only w w' g ∧ ∃ (c q : Nat) (k : Int), e = .returned (.int .i64 c) ∧ c < 256 ∧ RAt w' g s q k parts ∧ q ≤ s.size ∧ ((k = 0 ∧ q = p + 1 ∧ p < s.size ∧ c = (byteAt s p).toNat) ∨ (k = 14 ∧ c = 0 ∧ s.size ≤ p))
theorem fbyte_any (s : ByteArray) (p : Nat) (parts : Int) (g : Nat) (w : World) (hs : s.size ≤ 100000) (hp : p ≤ s.size) (h : RAt w g s p 0 parts) :
    Calls Try.prog 57 #[.pointer (some ⟨g, 0, none⟩)] w fun e w' => FByteD s p parts g w e w' := by
  by_cases hin : p < s.size
  · exact (fbyte_ok s p parts g w hs hin h).mono fun e w' ⟨he, ha, ho⟩ => ⟨ho, (byteAt s p).toNat, p + 1, 0, by rw [he, byteAt_eq hin], (byteAt s p).toNat_lt, ha, hin, .inl ⟨rfl, rfl, hin, rfl⟩⟩
  · exact (fbyte_torn s p parts g w hs (by omega) (by omega) h).mono fun e w' ⟨he, ha, ho⟩ => ⟨ho, 0, p, 14, he, by omega, ha, hp, .inr ⟨rfl, rfl, by omega⟩⟩
theorem fbyte_k (s : ByteArray) (p : Nat) (parts : Int) (g k : Nat) (w : World) (hs : s.size ≤ 100000) (hp : p < s.size) (h : RAt w g s p 0 parts) (hk : (byteAt s p).toNat = k) :
    Calls Try.prog 57 #[.pointer (some ⟨g, 0, none⟩)] w fun e w' => e = .returned (.int .i64 k) ∧ RAt w' g s (p + 1) 0 parts ∧ Only w w' g :=
  (fbyte_ok s p parts g w hs hp h).mono fun e w' ⟨he, ha, ho⟩ => ⟨by rw [he, ← byteAt_eq, hk], ha, ho⟩
/-- A string. -/
def FStrD (r : Except Int (ByteArray × Nat)) (s : ByteArray) (most parts : Int) (g : Nat) (w : World) (e : Ending) (w' : World) : Prop :=
  Only w w' g ∧ ∃ (t : ByteArray) (q : Nat) (k : Int), e = .returned (.string t) ∧ RAt w' g s q k parts ∧ q ≤ s.size ∧ (t.size : Int) ≤ most ∧ ((k = 0 ∧ r = .ok (t, q)) ∨ (k ≠ 0 ∧ r = .error k))
theorem readS_err {s : ByteArray} {p : Nat} {most k : Int} (h : readS s p most = .error k) : k ≠ 0 := by
  unfold readS at h
  cases hu : readU s p 0 0 with
  | error k' =>
    rw [hu] at h
    injection h with h
    subst h
    rcases readU_err s p 0 0 _ hu with rfl | rfl <;> decide
  | ok x =>
    obtain ⟨n, q⟩ := x
    rw [hu] at h
    simp only at h
    split at h
    · split at h
      · cases h
      · injection h with h; subst h; decide
    · injection h with h; subst h; decide
theorem fstrD_any (s : ByteArray) (p : Nat) (parts most : Int) (g : Nat) (w : World) (hs : s.size ≤ 100000) (hp : p ≤ s.size) (hm1 : 0 ≤ most) (hm2 : most ≤ 9223372036854775807) (h : RAt w g s p 0 parts) :
    Calls Try.prog 20 #[.pointer (some ⟨g, 0, none⟩), .int .i64 most] w fun e w' => FStrD (readS s p most) s most parts g w e w' := by
  have hr := fstr_any s p parts most g w hs hp (by omega) hm2 h
  cases hu : readS s p most with
  | error k =>
    rw [hu] at hr
    exact hr.mono fun e w' ⟨ho, he, q, hq, ha⟩ => ⟨ho, ⟨#[]⟩, q, k, he, ha, hq, by show ((0 : Nat) : Int) ≤ most; omega, .inr ⟨readS_err hu, rfl⟩⟩
  | ok x =>
    obtain ⟨t, q⟩ := x
    rw [hu] at hr
    have hl := readS_lt hu
    exact hr.mono fun e w' ⟨ho, he, ha⟩ => ⟨ho, t, q, 0, he, ha, hl.2.1, hl.2.2, .inl ⟨rfl, rfl⟩⟩

/-- The document's reader in block g, the result's block R, and what is being made in block V, all behind what was there in w. -/
structure RS2 (TE : TypeId) (z : List Value) (w wr : World) (g R V : Nat) (s : ByteArray) (q : Nat) (k m : Int) (cs : List Value) : Prop where
  rd : RAt wr g s q k m
  res : Blk wr R TE z.toArray
  blk : Blk wr V TE cs.toArray
  only : Only w wr g
  lt : g < V
  glt : g < R
  rlt : R < V
  eq : R = w.heap.size
section
variable {TE : TypeId} {z : List Value} {w wr w2 w6 w8 : World} {g R V : Nat} {s : ByteArray} {q q' : Nat} {k k' m m' : Int} {cs : List Value}
theorem RS2.read (h : RS2 TE z w wr g R V s q k m cs) (ha : RAt w2 g s q' k' m') (ho : Only wr w2 g) : RS2 TE z w w2 g R V s q' k' m' cs :=
  ⟨ha, h.res.grown ho (by have := h.glt; simp; omega), h.blk.grown ho (by have := h.lt; simp; omega), h.only.trans ho, h.lt, h.glt, h.rlt, h.eq⟩
theorem RS2.set_ (h : RS2 TE z w wr g R V s q k m cs) (i : Nat) (u : Value) : RS2 TE z w (wr.setCell ⟨V, i, none⟩ u) g R V s q k m (cs.set i u) :=
  ⟨Blk.far h.rd (by have := h.lt; simp; omega) u, Blk.far h.res (by have := h.rlt; simp; omega) u, blk_set h.blk u, h.only.set_ (p := ⟨V, i, none⟩) (.inr (by have := h.rlt; rw [← h.eq]; simp; omega)) u, h.lt, h.glt, h.rlt, h.eq⟩
theorem RS2.cell (h : RS2 TE z w wr g R V s q k m cs) (i : Nat) : wr.cell? ⟨V, i, none⟩ = cs[i]? := by rw [h.blk.cell]; simp
theorem RS2.frozen (h : RS2 TE z w wr g R V s q k m cs) (i : Nat) : wr.frozen? ⟨V, i, none⟩ = false := h.blk.frozen i
theorem RS2.vlt (h : RS2 TE z w wr g R V s q k m cs) : V < wr.heap.size := h.blk.lt
theorem RS2.err (h : RS2 TE z w wr g R V s q k m cs) : wr.cell? ⟨g, 2, none⟩ = some (.int .i64 k) := by have := h.rd.cell 2; simpa using this
theorem RS2.grow {o : Obj} {row : Option Nat} (h : RS2 TE z w w6 g R V s q k m cs) (hg : (w6.alloc o).grownBy w8 row) (hr : ∀ k, row = some k → V + 1 ≤ k) : RS2 TE z w w8 g R V s q k m cs :=
  ⟨(h.rd.alloc o).grown hg (fun e => by have := hr g e.symm; have := h.lt; omega), (h.res.alloc o).grown hg (fun e => by have := hr R e.symm; have := h.rlt; omega), (h.blk.alloc o).grown hg (fun e => by have := hr V e.symm; omega),
    only_app2 (h.only.alloc o) hg (fun k hk => by have := hr k hk; have := h.rlt; rw [← h.eq]; omega), h.lt, h.glt, h.rlt, h.eq⟩
/-- The beginning: the result's block alone. -/
structure RS1 (TE : TypeId) (z : List Value) (w wr : World) (g R : Nat) (s : ByteArray) (q : Nat) (k m : Int) : Prop where
  rd : RAt wr g s q k m
  res : Blk wr R TE z.toArray
  only : Only w wr g
  glt : g < R
  eq : R = w.heap.size
theorem RS1.start (TE : TypeId) (z : List Value) (h : RAt w g s q k m) : RS1 TE z w (w.alloc (.cells z.toArray TE)) g w.heap.size s q k m :=
  ⟨h.alloc _, Blk.new w TE _, (Only.refl w g).alloc _, h.lt, rfl⟩
theorem RS1.read (h : RS1 TE z w wr g R s q k m) (ha : RAt w2 g s q' k' m') (ho : Only wr w2 g) : RS1 TE z w w2 g R s q' k' m' :=
  ⟨ha, h.res.grown ho (by have := h.glt; simp; omega), h.only.trans ho, h.glt, h.eq⟩
theorem RS1.make (h : RS1 TE z w wr g R s q k m) (cs : List Value) : RS2 TE z w (wr.alloc (.cells cs.toArray TE)) g R wr.heap.size s q k m cs :=
  ⟨h.rd.alloc _, h.res.alloc _, Blk.new wr TE _, h.only.alloc _, h.rd.lt, h.glt, h.res.lt, h.eq⟩
end
end Go.Proofs.Ytemhinagajfemaa
