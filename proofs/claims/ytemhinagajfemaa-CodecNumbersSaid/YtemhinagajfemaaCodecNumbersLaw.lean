/- Any bytes, from any place on, are the number, or the string, that the document says, or none. No conditions. -/
import Derived.Test.YtemhinagajfemaaCodecAwake
import Derived.Test.YtemhinagajfemaaCodecReadN
import Derived.Test.YtemhinagajfemaaRefRead
import Derived.BigGuardPart
namespace Go.Proofs.Ytemhinagajfemaa.codecNumbers
open Go.RowKit Go.ChangeShapes Go.WideShapes
open Go.ChangeMaps (open_string shut_string)
set_option linter.unusedVariables false

theorem lapp_cons {A : Type} (a : A) (l m : List A) : List.append (a :: l) m = a :: List.append l m := rfl
theorem lapp_nil {A : Type} (m : List A) : List.append [] m = m := rfl

set_option maxHeartbeats 4000000 in
set_option maxRecDepth 100000 in
theorem core_ok (s : ByteArray) (p : Nat) (most : Int) (n q : Nat) (t : ByteArray) (q2 : Nat)  (w : World) (hs : s.size ≤ 1000) (hm1 : -9223372036854775808 ≤ most) (hm2 : most ≤ 9223372036854775807)
    (hp : p ≤ s.size) (hu : readU s p 0 0 = .ok (n, q)) (hv : readS s p most = .ok (t, q2)) :
    Calls Try.prog 4 #[.string s, .int .i64 p, .int .i64 most] w fun e w' => TrueBelow w e w' := by
  have i0 : decide ((1000 : Int) < (s.size : Int)) = false := by simp; omega
  have i0' : decide (1000 < s.size) = false := by simp; omega
  have hsz : s.size ≤ 100000 := by omega
  have HU := Lib.hid hu; have HV := Lib.hid hv
  clear hu hv
  go_enter Try.func4, Try.ntmps4
  simp only [lapp_cons, lapp_nil]
  go_wp2_with fail
  refine (awake05_any _).mono ?_
  rintro e w1 ⟨rfl, hl⟩
  go_wp2_with fail
  have h1 := readuint_any s p w1 hsz hp
  rw [HU.out] at h1
  refine h1.mono ?_
  rintro e w2 ⟨hb, rfl⟩
  have hl2 := hl.trans (hb.mono hl.size)
  clear hl hb h1
  go_wp2_with fail
  have h1 := readint_any s p w2 hsz hp
  rw [HU.out] at h1
  refine h1.mono ?_
  rintro e w3 ⟨hb, rfl⟩
  have hl := hl2.trans (hb.mono hl2.size)
  clear hl2 hb h1
  go_wp2_with fail
  have h1 := readstr_any s p most w3 hsz hp hm1 hm2
  rw [HV.out] at h1
  refine h1.mono ?_
  rintro e w4 ⟨hb, rfl⟩
  have hl2 := hl.trans (hb.mono hl.size)
  clear hl hb h1
  go_wp2_with fail
  refine (begin_in s p _ hsz hp).mono ?_
  rintro e w5 ⟨g1, hg1, rfl, ha, hb⟩
  have hgw := Nat.le_trans hl2.size hg1
  have hl := hl2.trans (hb.mono hl2.size)
  have c2 := ha.cell 2
  simp at c2
  have HA := Lib.hid ha
  clear hl2 hb ha
  go_wp2_with fail
  have h1 := fuint_any s p 0 g1 w5 hsz hp HA.out
  rw [HU.out] at h1
  refine h1.mono ?_
  rintro e w6 ⟨ho, rfl, ha⟩
  have hl2 := Go.Proofs.Ytemhinagajfemaa.Below.only hl ho hgw hl.size
  have c1 := ha.cell 1
  have c2 := ha.cell 2
  simp at c1 c2
  clear hl ho ha HA h1
  go_wp2_with fail
  refine (begin_in s p _ hsz hp).mono ?_
  rintro e w7 ⟨g2, hg2, rfl, ha, hb⟩
  have hgw := Nat.le_trans hl2.size hg2
  have hl := hl2.trans (hb.mono hl2.size)
  have c2 := ha.cell 2
  simp at c2
  have HA := Lib.hid ha
  clear hl2 hb ha
  go_wp2_with fail
  have h1 := fint_any s p 0 g2 w7 hsz hp HA.out
  rw [HU.out] at h1
  refine h1.mono ?_
  rintro e w8 ⟨ho, rfl, ha⟩
  have hl2 := Go.Proofs.Ytemhinagajfemaa.Below.only hl ho hgw hl.size
  have c1 := ha.cell 1
  have c2 := ha.cell 2
  simp at c1 c2
  clear hl ho ha HA h1
  go_wp2_with fail
  refine (begin_in s p _ hsz hp).mono ?_
  rintro e w9 ⟨g3, hg3, rfl, ha, hb⟩
  have hgw := Nat.le_trans hl2.size hg3
  have hl := hl2.trans (hb.mono hl2.size)
  have c2 := ha.cell 2
  simp at c2
  have HA := Lib.hid ha
  clear hl2 hb ha
  go_wp2_with fail
  have h1 := fstr_any s p 0 most g3 w9 hsz hp hm1 hm2 HA.out
  rw [HV.out] at h1
  refine h1.mono ?_
  rintro e w10 ⟨ho, rfl, ha⟩
  have hl2 := Go.Proofs.Ytemhinagajfemaa.Below.only hl ho hgw hl.size
  have c1 := ha.cell 1
  have c2 := ha.cell 2
  simp at c1 c2
  clear hl ho ha HA h1
  go_wp2_with fail
  go_ret
  exact ⟨rfl, hl2⟩

set_option maxHeartbeats 4000000 in
set_option maxRecDepth 100000 in
theorem core_str (s : ByteArray) (p : Nat) (most : Int) (n q : Nat) (k : Int) (w : World) (hs : s.size ≤ 1000) (hm1 : -9223372036854775808 ≤ most) (hm2 : most ≤ 9223372036854775807)
    (hp : p ≤ s.size) (hu : readU s p 0 0 = .ok (n, q)) (hv : readS s p most = .error k) (hk : k = 5 ∨ k = 14) :
    Calls Try.prog 4 #[.string s, .int .i64 p, .int .i64 most] w fun e w' => TrueBelow w e w' := by
  have i0 : decide ((1000 : Int) < (s.size : Int)) = false := by simp; omega
  have i0' : decide (1000 < s.size) = false := by simp; omega
  have hsz : s.size ≤ 100000 := by omega
  have HU := Lib.hid hu; have HV := Lib.hid hv
  clear hu hv
  have k1 : (k == 0) = false := by rcases hk with rfl | rfl <;> rfl
  have k2 : (k != 0) = true := by rcases hk with rfl | rfl <;> rfl
  clear hk
  go_enter Try.func4, Try.ntmps4
  simp only [lapp_cons, lapp_nil]
  go_wp2_with fail
  refine (awake05_any _).mono ?_
  rintro e w1 ⟨rfl, hl⟩
  go_wp2_with fail
  have h1 := readuint_any s p w1 hsz hp
  rw [HU.out] at h1
  refine h1.mono ?_
  rintro e w2 ⟨hb, rfl⟩
  have hl2 := hl.trans (hb.mono hl.size)
  clear hl hb h1
  go_wp2_with fail
  have h1 := readint_any s p w2 hsz hp
  rw [HU.out] at h1
  refine h1.mono ?_
  rintro e w3 ⟨hb, rfl⟩
  have hl := hl2.trans (hb.mono hl2.size)
  clear hl2 hb h1
  go_wp2_with fail
  have h1 := readstr_any s p most w3 hsz hp hm1 hm2
  rw [HV.out] at h1
  refine h1.mono ?_
  rintro e w4 ⟨hb, rfl⟩
  have hl2 := hl.trans (hb.mono hl.size)
  clear hl hb h1
  go_wp2_with fail
  refine (begin_in s p _ hsz hp).mono ?_
  rintro e w5 ⟨g1, hg1, rfl, ha, hb⟩
  have hgw := Nat.le_trans hl2.size hg1
  have hl := hl2.trans (hb.mono hl2.size)
  have c2 := ha.cell 2
  simp at c2
  have HA := Lib.hid ha
  clear hl2 hb ha
  go_wp2_with fail
  have h1 := fuint_any s p 0 g1 w5 hsz hp HA.out
  rw [HU.out] at h1
  refine h1.mono ?_
  rintro e w6 ⟨ho, rfl, ha⟩
  have hl2 := Go.Proofs.Ytemhinagajfemaa.Below.only hl ho hgw hl.size
  have c1 := ha.cell 1
  have c2 := ha.cell 2
  simp at c1 c2
  clear hl ho ha HA h1
  go_wp2_with fail
  refine (begin_in s p _ hsz hp).mono ?_
  rintro e w7 ⟨g2, hg2, rfl, ha, hb⟩
  have hgw := Nat.le_trans hl2.size hg2
  have hl := hl2.trans (hb.mono hl2.size)
  have c2 := ha.cell 2
  simp at c2
  have HA := Lib.hid ha
  clear hl2 hb ha
  go_wp2_with fail
  have h1 := fint_any s p 0 g2 w7 hsz hp HA.out
  rw [HU.out] at h1
  refine h1.mono ?_
  rintro e w8 ⟨ho, rfl, ha⟩
  have hl2 := Go.Proofs.Ytemhinagajfemaa.Below.only hl ho hgw hl.size
  have c1 := ha.cell 1
  have c2 := ha.cell 2
  simp at c1 c2
  clear hl ho ha HA h1
  go_wp2_with fail
  refine (begin_in s p _ hsz hp).mono ?_
  rintro e w9 ⟨g3, hg3, rfl, ha, hb⟩
  have hgw := Nat.le_trans hl2.size hg3
  have hl := hl2.trans (hb.mono hl2.size)
  have c2 := ha.cell 2
  simp at c2
  have HA := Lib.hid ha
  clear hl2 hb ha
  go_wp2_with fail
  have h1 := fstr_any s p 0 most g3 w9 hsz hp hm1 hm2 HA.out
  rw [HV.out] at h1
  refine h1.mono ?_
  rintro e w10 ⟨ho, rfl, q', hq', ha⟩
  have hl2 := Go.Proofs.Ytemhinagajfemaa.Below.only hl ho hgw hl.size
  have c1 := ha.cell 1
  have c2 := ha.cell 2
  simp at c1 c2
  clear hl ho ha HA h1
  go_wp2_with fail
  go_ret
  exact ⟨rfl, hl2⟩

set_option maxHeartbeats 4000000 in
set_option maxRecDepth 100000 in
theorem core_no (s : ByteArray) (p : Nat) (most : Int) (k : Int) (w : World) (hs : s.size ≤ 1000) (hm1 : -9223372036854775808 ≤ most) (hm2 : most ≤ 9223372036854775807)
    (hp : p ≤ s.size) (hu : readU s p 0 0 = .error k) (hv : readS s p most = .error k) (hk : k = 5 ∨ k = 14) :
    Calls Try.prog 4 #[.string s, .int .i64 p, .int .i64 most] w fun e w' => TrueBelow w e w' := by
  have i0 : decide ((1000 : Int) < (s.size : Int)) = false := by simp; omega
  have i0' : decide (1000 < s.size) = false := by simp; omega
  have hsz : s.size ≤ 100000 := by omega
  have HU := Lib.hid hu; have HV := Lib.hid hv
  clear hu hv
  have k1 : (k == 0) = false := by rcases hk with rfl | rfl <;> rfl
  have k2 : (k != 0) = true := by rcases hk with rfl | rfl <;> rfl
  clear hk
  go_enter Try.func4, Try.ntmps4
  simp only [lapp_cons, lapp_nil]
  go_wp2_with fail
  refine (awake05_any _).mono ?_
  rintro e w1 ⟨rfl, hl⟩
  go_wp2_with fail
  have h1 := readuint_any s p w1 hsz hp
  rw [HU.out] at h1
  refine h1.mono ?_
  rintro e w2 ⟨hb, rfl⟩
  have hl2 := hl.trans (hb.mono hl.size)
  clear hl hb h1
  go_wp2_with fail
  have h1 := readint_any s p w2 hsz hp
  rw [HU.out] at h1
  refine h1.mono ?_
  rintro e w3 ⟨hb, rfl⟩
  have hl := hl2.trans (hb.mono hl2.size)
  clear hl2 hb h1
  go_wp2_with fail
  have h1 := readstr_any s p most w3 hsz hp hm1 hm2
  rw [HV.out] at h1
  refine h1.mono ?_
  rintro e w4 ⟨hb, rfl⟩
  have hl2 := hl.trans (hb.mono hl.size)
  clear hl hb h1
  go_wp2_with fail
  refine (begin_in s p _ hsz hp).mono ?_
  rintro e w5 ⟨g1, hg1, rfl, ha, hb⟩
  have hgw := Nat.le_trans hl2.size hg1
  have hl := hl2.trans (hb.mono hl2.size)
  have c2 := ha.cell 2
  simp at c2
  have HA := Lib.hid ha
  clear hl2 hb ha
  go_wp2_with fail
  have h1 := fuint_any s p 0 g1 w5 hsz hp HA.out
  rw [HU.out] at h1
  refine h1.mono ?_
  rintro e w6 ⟨ho, rfl, q', hq', ha⟩
  have hl2 := Go.Proofs.Ytemhinagajfemaa.Below.only hl ho hgw hl.size
  have c1 := ha.cell 1
  have c2 := ha.cell 2
  simp at c1 c2
  clear hl ho ha HA h1
  go_wp2_with fail
  refine (begin_in s p _ hsz hp).mono ?_
  rintro e w7 ⟨g2, hg2, rfl, ha, hb⟩
  have hgw := Nat.le_trans hl2.size hg2
  have hl := hl2.trans (hb.mono hl2.size)
  have c2 := ha.cell 2
  simp at c2
  have HA := Lib.hid ha
  clear hl2 hb ha
  go_wp2_with fail
  have h1 := fint_any s p 0 g2 w7 hsz hp HA.out
  rw [HU.out] at h1
  refine h1.mono ?_
  rintro e w8 ⟨ho, rfl, q', hq', ha⟩
  have hl2 := Go.Proofs.Ytemhinagajfemaa.Below.only hl ho hgw hl.size
  have c1 := ha.cell 1
  have c2 := ha.cell 2
  simp at c1 c2
  clear hl ho ha HA h1
  go_wp2_with fail
  refine (begin_in s p _ hsz hp).mono ?_
  rintro e w9 ⟨g3, hg3, rfl, ha, hb⟩
  have hgw := Nat.le_trans hl2.size hg3
  have hl := hl2.trans (hb.mono hl2.size)
  have c2 := ha.cell 2
  simp at c2
  have HA := Lib.hid ha
  clear hl2 hb ha
  go_wp2_with fail
  have h1 := fstr_any s p 0 most g3 w9 hsz hp hm1 hm2 HA.out
  rw [HV.out] at h1
  refine h1.mono ?_
  rintro e w10 ⟨ho, rfl, q', hq', ha⟩
  have hl2 := Go.Proofs.Ytemhinagajfemaa.Below.only hl ho hgw hl.size
  have c1 := ha.cell 1
  have c2 := ha.cell 2
  simp at c1 c2
  clear hl ho ha HA h1
  go_wp2_with fail
  go_ret
  exact ⟨rfl, hl2⟩

set_option maxHeartbeats 4000000 in
set_option maxRecDepth 100000 in
theorem core_out (s : ByteArray) (a : Int) (most : Int)  (w : World) (hs : s.size ≤ 1000) (hm1 : -9223372036854775808 ≤ most) (hm2 : most ≤ 9223372036854775807)
    (ho : a < 0 ∨ (s.size : Int) < a) :
    Calls Try.prog 4 #[.string s, .int .i64 a, .int .i64 most] w fun e w' => TrueBelow w e w' := by
  have i0 : decide ((1000 : Int) < (s.size : Int)) = false := by simp; omega
  have i0' : decide (1000 < s.size) = false := by simp; omega
  have hsz : s.size ≤ 100000 := by omega
  have HOUT := Lib.hid ho
  clear ho
  go_enter Try.func4, Try.ntmps4
  simp only [lapp_cons, lapp_nil]
  go_wp2_with fail
  refine (awake05_any _).mono ?_
  rintro e w1 ⟨rfl, hl⟩
  go_wp2_with fail
  have h1 := readuint_out s a w1 hsz HOUT.out
  refine h1.mono ?_
  rintro e w2 ⟨hb, rfl⟩
  have hl2 := hl.trans (hb.mono hl.size)
  clear hl hb h1
  go_wp2_with fail
  have h1 := readint_out s a w2 hsz HOUT.out
  refine h1.mono ?_
  rintro e w3 ⟨hb, rfl⟩
  have hl := hl2.trans (hb.mono hl2.size)
  clear hl2 hb h1
  go_wp2_with fail
  have h1 := readstr_out s a most w3 hsz HOUT.out
  refine h1.mono ?_
  rintro e w4 ⟨hb, rfl⟩
  have hl2 := hl.trans (hb.mono hl.size)
  clear hl hb h1
  go_wp2_with fail
  refine (begin_out s a _ hsz HOUT.out).mono ?_
  rintro e w5 ⟨g1, hg1, rfl, ha, hb⟩
  have hgw := Nat.le_trans hl2.size hg1
  have hl := hl2.trans (hb.mono hl2.size)
  have c2 := ha.cell 2
  simp at c2
  have HA := Lib.hid ha
  clear hl2 hb ha
  have hl2 := hl
  have c1 := HA.out.cell 1
  simp at c1
  clear hl HA
  go_wp2_with fail
  refine (begin_out s a _ hsz HOUT.out).mono ?_
  rintro e w7 ⟨g2, hg2, rfl, ha, hb⟩
  have hgw := Nat.le_trans hl2.size hg2
  have hl := hl2.trans (hb.mono hl2.size)
  have c2 := ha.cell 2
  simp at c2
  have HA := Lib.hid ha
  clear hl2 hb ha
  have hl2 := hl
  have c1 := HA.out.cell 1
  simp at c1
  clear hl HA
  go_wp2_with fail
  refine (begin_out s a _ hsz HOUT.out).mono ?_
  rintro e w9 ⟨g3, hg3, rfl, ha, hb⟩
  have hgw := Nat.le_trans hl2.size hg3
  have hl := hl2.trans (hb.mono hl2.size)
  have c2 := ha.cell 2
  simp at c2
  have HA := Lib.hid ha
  clear hl2 hb ha
  have hl2 := hl
  have c1 := HA.out.cell 1
  simp at c1
  clear hl HA
  go_wp2_with fail
  go_ret
  exact ⟨rfl, hl2⟩


set_option maxHeartbeats 1000000 in
set_option maxRecDepth 100000 in
theorem core_long (s : ByteArray) (a most : Int) (w : World) (hs : ¬ s.size ≤ 1000) (hs2 : s.size ≤ 9223372036854775807) :
    Calls Try.prog 4 #[.string s, .int .i64 a, .int .i64 most] w fun e w' => TrueBelow w e w' := by
  have i0 : decide ((1000 : Int) < (s.size : Int)) = true := by simp; omega
  have i0' : decide (1000 < s.size) = true := by simp; omega
  go_enter Try.func4, Try.ntmps4
  simp only [lapp_cons, lapp_nil]
  go_wp2_with fail
  refine (awake05_any _).mono ?_
  rintro e w1 ⟨rfl, hl⟩
  go_wp2_with fail
  refine (awake05_any _).mono ?_
  rintro e w2 ⟨rfl, h⟩
  have hl2 := hl.trans (h.mono hl.size)
  clear hl h
  go_wp2_with fail
  go_ret
  exact ⟨rfl, hl2⟩

theorem core (s : ByteArray) (a most : Int) (w : World) (hs2 : s.size ≤ 9223372036854775807) (hm1 : -9223372036854775808 ≤ most) (hm2 : most ≤ 9223372036854775807) :
    Calls Try.prog 4 #[.string s, .int .i64 a, .int .i64 most] w fun e w' => TrueBelow w e w' := by
  by_cases hs : s.size ≤ 1000
  · by_cases ho : a < 0 ∨ (s.size : Int) < a
    · exact core_out s a most w hs hm1 hm2 ho
    · obtain ⟨p, rfl⟩ := Int.eq_ofNat_of_zero_le (show 0 ≤ a by omega)
      have hp : p ≤ s.size := by omega
      cases hu : readU s p 0 0 with
      | error k => exact core_no s p most k w hs hm1 hm2 hp hu (by unfold readS; rw [hu]) (readU_err s p 0 0 k hu)
      | ok nq =>
        obtain ⟨n, q⟩ := nq
        cases hv : readS s p most with
        | error k =>
          refine core_str s p most n q k w hs hm1 hm2 hp hu hv ?_
          unfold readS at hv
          rw [hu] at hv
          simp only at hv
          split at hv
          · split at hv
            · cases hv
            · injection hv with hv; exact .inr hv.symm
          · injection hv with hv; exact .inl hv.symm
        | ok tq => exact core_ok s p most n q tq.1 tq.2 w hs hm1 hm2 hp hu hv
  · exact core_long s a most w hs hs2

set_option maxRecDepth 100000 in
theorem walk {H : Type} {enc : TypeId × Value → H} {W : World} {base : Nat} {args : Array Value} {ds : List (DataW H)} {ps : List MemPlace}
    (h : Handed enc Try.prog W base Try.f4.params.toList args ds ps) : Calls Try.prog 4 args W fun e w' => TrueBelow W e w' := by
  rw [Try.params4] at h
  have hval := h.val
  obtain ⟨v0, vs0, d0, ds0, p0, q0, hargs, rfl, rfl, h0, r0⟩ := trodAll_cons h.trod
  obtain ⟨v1, vs1, d1, ds1, p1, q1, rfl, rfl, rfl, h1, r1⟩ := trodAll_cons r0
  obtain ⟨v2, vs2, d2, ds2, p2, q2, rfl, rfl, rfl, h2, r2⟩ := trodAll_cons r1
  obtain ⟨rfl, rfl, rfl⟩ := trodAll_nil r2
  obtain rfl : args = #[v0, v1, v2] := by cases args; simp_all
  obtain ⟨s, rfl, rfl, rfl, w0⟩ := open_string Try.underlying9 (hval 0 9 v0 rfl rfl) h0
  obtain ⟨a, rfl, rfl, rfl, w1⟩ := open_int Try.underlying3 (hval 1 3 v1 rfl rfl) h1
  obtain ⟨b, rfl, rfl, rfl, w2⟩ := open_int Try.underlying3 (hval 2 3 v2 rfl rfl) h2
  have hb := fun (k : Int) (h : (Lit.int IntKind.i64 k).wf = true) => show -9223372036854775808 ≤ k ∧ k ≤ 9223372036854775807 from by
    simp only [Lit.wf, Bool.and_eq_true, decide_eq_true_eq] at h
    have e1 : IntKind.i64.min = -9223372036854775808 := by decide
    have e2 : IntKind.i64.max = 9223372036854775807 := by decide
    rw [e1, e2] at h
    omega
  exact core s a b W (by unfold maxLen at w0; omega) (hb b w2).1 (hb b w2).2


set_option maxRecDepth 100000 in
theorem lifted (os : Os) (started : os.Started) (H : Type) (enc : TypeId × Value → H) :
    ReturnsInHanded {} Try.checked os 4 .any (Rows.codecNumbersSpec.pre6 enc Try.prog Try.f4 Rows.codecNumbersRow.domain false) (Rows.codecNumbersSpec.post enc Try.prog Try.f4 false true false false) := by
  refine returnsInHanded_of_change_sized (C := Try.checked) own started (by kernel_rfl) Try.func4
    (ChangeSpec.witness6 (enc := enc) (C := Try.checked) false ⟨#[], #[.string ByteArray.empty, .int .i64 0, .int .i64 0], []⟩ 8 (by kernel_rfl) (by kernel_rfl) (by kernel_rfl) (by kernel_rfl)) ?_
  intro W base args ds gs before hval hW _ hsz _
  refine (walk (handed_of hval hW rfl rfl hsz)).mono fun e W' ⟨he, hb⟩ => ?_
  subst he
  exact ⟨_, rfl, law_post hW rfl laidOut (by kernel_rfl) rfl Try.underlying4 (fun ds' h => by match ds', h with | [_, _, _], _ => rfl) hb⟩

theorem over : Rows.codecNumbersRow.holds Try.pinned (OpenSpec.ofChange Rows.codecNumbersSpec) :=
  OpenClaim.holds_of_wide 4 Try.f4 rfl rfl rfl rfl rfl rfl rfl ⟨rfl, rfl, rfl, rfl, rfl⟩ rfl rfl rfl rfl rfl (by kernel_rfl) Try.func4 (by kernel_rfl)
    (of_decide_eq_true (by kernel_rfl)) (by unfold Func.isWrapper; first | (rw [if_pos (by decide +kernel)]; kernel_rfl) | (rw [if_neg (by decide +kernel)]; exact ⟨rfl, rfl⟩))
    (fun os started H enc _ => lifted os started H enc)

theorem proved : Rows.CodecNumbersSaid :=
  over
#print axioms proved
end Go.Proofs.Ytemhinagajfemaa.codecNumbers
