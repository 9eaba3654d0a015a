/- value.TypeRight. -/
import Derived.Test.YtjpdbhhjlnmacaaGreatTcM7
import Derived.Test.YtjpdbhhjlnmacaaGreatTcM10
import Derived.Test.YtjpdbhhjlnmacaaGreatTcM11
import Derived.Test.YtjpdbhhjlnmacaaGreatTcM12
import Derived.Test.YtjpdbhhjlnmacaaGreatTcM18
import Derived.Test.YtjpdbhhjlnmacaaGreatTcM19
import Derived.Deep.QuietTactic
import Derived.BigQuiet
import Derived.StillTailTactics
namespace Go.Proofs.YtjpdbhhjlnmacaaGreat
set_option linter.unusedVariables false
open Go.RowKit

set_option maxHeartbeats 1000000 in
theorem tright_any (v : Ty) (w : World) (h : v.In w) : Calls Tryz.prog 29 #[v.agg] w fun e w' => BoolBelow v.RightB w e w' := by
  obtain ⟨W, hW⟩ : ∃ W, W = w.alloc (.cells #[.int .i64 v.k, v.na.val v.ns.length, v.xa.val v.xs.length] 36) := ⟨_, rfl⟩
  have hp : PTy W w.heap.size 0 v := by rw [hW]; exact PTy.new w v 36 h
  have hB : Below w.heap.size w W := by rw [hW]; exact (Below.refl _ _).alloc (Nat.le_refl _) _
  have hpa := tparts_any0 v.sz v w.heap.size 0 0 W (Nat.le_refl _) (by omega) hp
  have hty := fun (W' : World) (hb : Below W.heap.size W W') => typed_any v.sz v w.heap.size 0 1 W' (Nat.le_refl _) (by omega) (hp.below hb)
  obtain ⟨p4, q4, e4⟩ := hp.in.nslice
  obtain ⟨p5, q5, e5⟩ := hp.in.xslice
  have hcl := Ty.count_le v.sz v 0 (Nat.le_refl _) (by omega)
  obtain ⟨n, hn⟩ : ∃ n, n = v.count 0 := ⟨_, rfl⟩
  rw [← hn] at hcl hpa
  have hR : v.RightB = (decide (n ≤ 200) && v.rightB 1) := by rw [hn]; rfl
  have HW := Lib.hid hW; have HBL := Lib.hid hB; have HPA := Lib.hid hpa; have HTY := Lib.hid hty
  have HR := Lib.hid hR
  clear hW hp hB hpa hty hn hR e4 e5
  by_cases h200 : n ≤ 200
  · have i1 : decide ((n : Int) ≤ 200) = true := by simp; omega
    have HR2 : Hid (v.RightB = v.rightB 1) := Lib.hid (by rw [HR.out]; simp [h200])
    clear HR h
    go_enter Tryz.func29, Tryz.ntmps29
    go_wp2_with fail
    rw [← HW.out]
    refine HPA.out.mono ?_
    rintro e w2 ⟨rfl, rfl⟩
    have HC := Lib.hid (HTY.out W (Below.refl _ _))
    clear HTY HPA
    go_wp2_with fail
    refine HC.out.mono ?_
    rintro e w3 ⟨rfl, hl⟩
    have HL3 := Lib.hid (HBL.out.trans (hl.mono HBL.out.size))
    clear hl
    go_wp2
    go_ret
    exact ⟨by rw [HR2.out]; rfl, HL3.out⟩
  · have i1 : decide ((n : Int) ≤ 200) = false := by simp; omega
    have HR2 : Hid (v.RightB = false) := Lib.hid (by rw [HR.out]; simp [h200])
    clear HR h
    go_enter Tryz.func29, Tryz.ntmps29
    go_wp2_with fail
    rw [← HW.out]
    refine HPA.out.mono ?_
    rintro e w2 ⟨rfl, rfl⟩
    go_wp2
    go_ret
    exact ⟨by rw [HR2.out]; rfl, HBL.out⟩
end Go.Proofs.YtjpdbhhjlnmacaaGreat

/- basculeref05.SameType of any two types: whether they are one but for their places. -/
namespace Go.Proofs.YtjpdbhhjlnmacaaGreat
set_option linter.unusedVariables false
open Go.RowKit

mutual
/-- Are they one, but for where they lie? -/
def Ty.sameB : Ty → Ty → Bool
  | .mk k _ ns _ xs, .mk k' _ ns' _ xs' => decide (k = k') && decide (ns = ns') && Ty.sameAll xs xs'
def Ty.sameAll : List Ty → List Ty → Bool
  | [], [] => true
  | [], _ :: _ => false
  | _ :: _, [] => false
  | x :: xs, y :: ys => x.sameB y && Ty.sameAll xs ys
end
theorem Ty.sameB_eq (a b : Ty) : a.sameB b = (decide (a.k = b.k) && decide (a.ns = b.ns) && Ty.sameAll a.xs b.xs) := by
  cases a; cases b
  simp only [Ty.sameB, Ty.k, Ty.ns, Ty.xs]
  rfl
theorem sameAll_len : ∀ {xs ys : List Ty}, Ty.sameAll xs ys = true → xs.length = ys.length
  | [], [], _ => rfl
  | [], _ :: _, h => by simp [Ty.sameAll] at h
  | _ :: _, [], h => by simp [Ty.sameAll] at h
  | x :: xs, y :: ys, h => by
    simp only [Ty.sameAll, Bool.and_eq_true] at h
    simp [sameAll_len h.2]
theorem Ty.sameB_erase (d : Nat) : ∀ a b : Ty, a.sz ≤ d → (a.sameB b = true ↔ a.erase = b.erase) := by
  induction d with
  | zero => intro a b hd; rw [Ty.sz_eq] at hd; omega
  | succ d ih =>
    intro a b hd
    have key : ∀ (xs ys : List Ty), (∀ x, x ∈ xs → x.sz ≤ d) → (Ty.sameAll xs ys = true ↔ xs.map Ty.erase = ys.map Ty.erase) := fun xs => by
      induction xs with
      | nil => intro ys _; cases ys <;> simp [Ty.sameAll]
      | cons x xs ihx =>
        intro ys hx
        cases ys with
        | nil => simp [Ty.sameAll]
        | cons y ys =>
          simp only [Ty.sameAll, Bool.and_eq_true, List.map_cons, List.cons.injEq]
          rw [ih x y (hx x (by simp)), ihx ys (fun z hz => hx z (List.mem_cons_of_mem _ hz))]
    rw [Ty.sameB_eq, Bool.and_eq_true, Bool.and_eq_true, decide_eq_true_eq, decide_eq_true_eq, key a.xs b.xs (fun x hx => by have := Ty.size_mem hx; omega), Ty.erase_eq a, Ty.erase_eq b]
    simp only [Ty.mk.injEq, true_and, and_assoc]
theorem Ty.sameB_of {a b : Ty} (h : a.erase = b.erase) : a.sameB b = true := (Ty.sameB_erase a.sz a b (Nat.le_refl _)).2 h
/-- The first i names are one. -/
def NamesTo (ns ms : List ByteArray) (i : Nat) : Prop := ns.take i = ms.take i
theorem namesTo_next {ns ms : List ByteArray} {i : Nat} (h : NamesTo ns ms i) (h1 : i < ns.length) (h2 : i < ms.length) (he : ns.getD i ByteArray.empty = ms.getD i ByteArray.empty) : NamesTo ns ms (i + 1) := by
  unfold NamesTo at h ⊢
  rw [List.take_succ_eq_append_getElem h1, List.take_succ_eq_append_getElem h2, h]
  simp only [List.getD_eq_getElem?_getD, List.getElem?_eq_getElem h1, List.getElem?_eq_getElem h2, Option.getD_some] at he
  rw [he]
theorem names_ne {ns ms : List ByteArray} {i : Nat} (h1 : i < ns.length) (he : ns.getD i ByteArray.empty ≠ ms.getD i ByteArray.empty) : ns ≠ ms := fun e => he (by rw [e])
/-- What is left of the items. -/
theorem sameAll_drop {xs ys : List Ty} {i : Nat} (h1 : i < xs.length) (h2 : i < ys.length) : Ty.sameAll (xs.drop i) (ys.drop i) = ((xs[i]'h1).sameB (ys[i]'h2) && Ty.sameAll (xs.drop (i + 1)) (ys.drop (i + 1))) := by
  rw [List.drop_eq_getElem_cons h1, List.drop_eq_getElem_cons h2]
  simp only [Ty.sameAll]

set_option maxHeartbeats 8000000 in
set_option maxRecDepth 100000 in
theorem samet_step (d : Nat) (ih : ∀ (a b : Ty) (w : World), a.sz ≤ d → a.In w → b.In w → Calls Tryz.prog 13 #[a.agg, b.agg] w fun e w' => BoolBelow (a.sameB b) w e w')
    (a b : Ty) (w : World) (hd : a.sz ≤ d + 1) (ha : a.In w) (hb : b.In w) : Calls Tryz.prog 13 #[a.agg, b.agg] w fun e w' => BoolBelow (a.sameB b) w e w' := by
  obtain ⟨A, hA⟩ : ∃ A, A = w.heap.size := ⟨_, rfl⟩
  obtain ⟨W, hW⟩ : ∃ W, W = (w.alloc (.cells a.cells.toArray 36)).alloc (.cells b.cells.toArray 36) := ⟨_, rfl⟩
  have hBW : Below w.heap.size w W := by rw [hW]; exact ((Below.refl _ w).alloc (Nat.le_refl _) _).alloc (by simp) _
  have hpa : Blk W A 36 a.cells.toArray := by rw [hW, hA]; exact (Blk.new w 36 _).alloc _
  have hpb : Blk W (A + 1) 36 b.cells.toArray := by
    rw [hW, hA]
    have := Blk.new (w.alloc (.cells a.cells.toArray 36)) 36 b.cells.toArray
    rw [show (w.alloc (.cells a.cells.toArray 36)).heap.size = w.heap.size + 1 from by simp] at this
    exact this
  have haW := ha.below hBW
  have hbW := hb.below hBW
  obtain ⟨p4, q4, e4, hna⟩ := names_in (TNamesAt.of haW)
  obtain ⟨p5, q5, e5, hxa⟩ := titems_at haW
  obtain ⟨r4, t4, g4, hnb⟩ := names_in (TNamesAt.of hbW)
  obtain ⟨r5, t5, g5, hxb⟩ := titems_at hbW
  have hal := ha.ok
  have hbl := hb.ok
  unfold Ty.cells at hW hpa hpb
  unfold Ty.agg
  rw [e4, e5] at hpa hW ⊢
  rw [g4, g5] at hpb hW ⊢
  obtain ⟨L, hL⟩ : ∃ L, L = a.ns.length := ⟨_, rfl⟩
  obtain ⟨M, hM⟩ : ∃ M, M = a.xs.length := ⟨_, rfl⟩
  obtain ⟨L2, hL2⟩ : ∃ L2, L2 = b.ns.length := ⟨_, rfl⟩
  obtain ⟨M2, hM2⟩ : ∃ M2, M2 = b.xs.length := ⟨_, rfl⟩
  obtain ⟨K, hK⟩ : ∃ K, K = a.k := ⟨_, rfl⟩
  obtain ⟨K2, hK2⟩ : ∃ K2, K2 = b.k := ⟨_, rfl⟩
  have e := Ty.sameB_eq a b
  rw [← hL, ← hM, ← hK] at hpa hW ⊢
  rw [← hL2, ← hM2, ← hK2] at hpb hW ⊢
  rw [← hK, ← hK2] at e
  have hl1 : L ≤ 8796093021952 := by rw [hL]; exact hal.2.1
  have hm1 : M ≤ 2513169434843 := by rw [hM]; exact hal.2.2.1
  have a0 := hpa.cell 0; have a1 := hpa.cell 1; have a2 := hpa.cell 2
  have b0 := hpb.cell 0; have b1 := hpb.cell 1; have b2 := hpb.cell 2
  simp only [List.getElem?_toArray, List.getElem?_cons_zero, List.getElem?_cons_succ] at a0 a1 a2 b0 b1 b2
  have HW := Lib.hid hW; have HBW := Lib.hid hBW; have HPA := Lib.hid hpa; have HPB := Lib.hid hpb; have HNA := Lib.hid hna; have HNB := Lib.hid hnb; have HXA := Lib.hid hxa; have HXB := Lib.hid hxb
  have HL := Lib.hid hL; have HM := Lib.hid hM; have HL2 := Lib.hid hL2; have HM2 := Lib.hid hM2; have HE := Lib.hid e; have HIH := Lib.hid ih; have HD := Lib.hid hd; have HA := Lib.hid hA
  have HAW := Lib.hid haW; have HBI := Lib.hid hbW
  have hA1 : A + 1 < W.heap.size := hpb.lt
  clear hW hBW hpa hpb hna hnb hxa hxb hL hM hL2 hM2 hK hK2 e ih hd hA haW hbW ha hb e4 e5 g4 g5 hal hbl
  by_cases hk : K = K2
  case neg =>
    have HR : Hid (a.sameB b = false) := Lib.hid (by rw [HE.out, decide_eq_false hk]; rfl)
    have j1 : (K != K2) = true := by simpa using hk
    clear hk
    go_enter Tryz.func13, Tryz.ntmps13
    go_wp2_with fail
    rw [← HW.out, ← HA.out]
    go_wp2_with fail
    go_ret
    exact ⟨by rw [HR.out]; rfl, HBW.out⟩
  have j1 : (K != K2) = false := by simpa using hk
  by_cases hl : L = L2
  case neg =>
    have HR : Hid (a.sameB b = false) := Lib.hid (by
      rw [HE.out, decide_eq_false (p := a.ns = b.ns) (fun h => hl (by rw [HL.out, HL2.out, h]))]
      simp)
    have j2 : ((L : Int) != (L2 : Int)) = true := by simp; omega
    clear hk hl
    go_enter Tryz.func13, Tryz.ntmps13
    go_wp2_with fail
    rw [← HW.out, ← HA.out]
    go_wp2_with fail
    go_ret
    exact ⟨by rw [HR.out]; rfl, HBW.out⟩
  have j2 : ((L : Int) != (L2 : Int)) = false := by simp; omega
  by_cases hm : M = M2
  case neg =>
    have HR : Hid (a.sameB b = false) := Lib.hid (by
      rw [HE.out]
      cases h : Ty.sameAll a.xs b.xs with
      | false => simp
      | true => exact absurd (sameAll_len h) (by rw [← HM.out, ← HM2.out]; exact hm))
    have j3 : ((M : Int) != (M2 : Int)) = true := by simp; omega
    clear hk hl hm
    go_enter Tryz.func13, Tryz.ntmps13
    go_wp2_with fail
    rw [← HW.out, ← HA.out]
    go_wp2_with fail
    go_ret
    exact ⟨by rw [HR.out]; rfl, HBW.out⟩
  have j3 : ((M : Int) != (M2 : Int)) = false := by simp; omega
  subst hk
  subst hl
  subst hm
  go_enter Tryz.func13, Tryz.ntmps13
  go_wp2_with fail
  rw [← HW.out, ← HA.out]
  go_wp2_with fail
  go_loopw [5] (fun iv wr => ∃ i k : Nat, iv = .int .i64 (i : Int) ∧ i ≤ L ∧ Hid (NamesTo a.ns b.ns i) ∧ Hid (wr = W.drewN k)) (fun iv _ => L - (intOf iv).toNat)
  case atStart => exact ⟨0, 0, rfl, by omega, Lib.hid rfl, Lib.hid rfl⟩
  case round =>
    obtain ⟨i, k, rfl, hi, HN, HK⟩ := hrel
    have c1 : wr.cell? ⟨A, 1, none⟩ = some (.slice p4 L q4) := by rw [HK.out]; exact a1
    have d1 : wr.cell? ⟨A + 1, 1, none⟩ = some (.slice r4 L t4) := by rw [HK.out]; exact b1
    by_cases hlt : i < L
    · have hil1 : i < a.ns.length := by rw [← HL.out]; exact hlt
      have hil2 : i < b.ns.length := by rw [← HL2.out]; exact hlt
      obtain ⟨pb, po, rfl, hpb, hpc, hc⟩ := HNA.out i hil1
      obtain ⟨qb, qo, rfl, hqb, hqc, hc2⟩ := HNB.out i hil2
      obtain ⟨s, hs⟩ : ∃ s, s = a.ns.getD i ByteArray.empty := ⟨_, rfl⟩
      obtain ⟨t, ht⟩ : ∃ t, t = b.ns.getD i ByteArray.empty := ⟨_, rfl⟩
      rw [← hs] at hpc
      rw [← ht] at hqc
      rw [← HL.out] at hc
      rw [← HL2.out] at hc2
      have u1 : wr.cell? ⟨pb, po + i, none⟩ = some (.string s) := by rw [HK.out]; exact hpc
      have u2 : wr.cell? ⟨qb, qo + i, none⟩ = some (.string t) := by rw [HK.out]; exact hqc
      have hk0 : (0 : Int) ≤ (i : Int) := by omega
      have hk1 : (i : Int) < (L : Int) := by omega
      clear hpc hqc
      by_cases hst : s = t
      · have HN2 : Hid (NamesTo a.ns b.ns (i + 1)) := Lib.hid (namesTo_next HN.out hil1 hil2 (by rw [← hs, ← ht, hst]))
        clear hil1 hil2 hs ht
        subst hst
        clear HN
        go_wp2_with fail
        go_quiet (fail)
        go_wp2
        exact ⟨⟨i + 1, k + nq, by go_num, by omega, HN2, Lib.hid (by rw [HK.out, World.drewN_drewN])⟩, by simp [intOf]; omega⟩
      · have HR : Hid (a.sameB b = false) := Lib.hid (by
          rw [HE.out, decide_eq_false (p := a.ns = b.ns) (names_ne hil1 (by rw [← hs, ← ht]; exact hst))]
          simp)
        have hne : (s.toList == t.toList) = false := by
          have : s.toList ≠ t.toList := fun e => hst (by
            apply WideShapes.bytes_inj
            rw [← Lib.toList_data, ← Lib.toList_data]; exact e)
          simpa using this
        have hne2 : (s.toList != t.toList) = true := by unfold bne; rw [hne]; rfl
        clear hil1 hil2 hs ht hst HN
        go_wp2_with fail
        go_quiet (fail)
        go_wp2
        go_ret
        exact ⟨by rw [HR.out]; rfl, by rw [HK.out, World.drewN_drewN]; exact below_drewN HBW.out _⟩
    · obtain rfl : i = L := by omega
      have HNE : Hid (a.ns = b.ns) := Lib.hid (by
        have h := HN.out
        unfold NamesTo at h
        rw [List.take_of_length_le (by rw [← HL.out]; exact Nat.le_refl _), List.take_of_length_le (by rw [← HL2.out]; exact Nat.le_refl _)] at h
        exact h)
      have HE2 : Hid (a.sameB b = Ty.sameAll a.xs b.xs) := Lib.hid (by rw [HE.out]; simp [HNE.out])
      have HBK := Lib.hid (show Below W.heap.size W wr by rw [HK.out]; exact below_drewN (Below.refl _ W) _)
      clear HNE HN hlt HE
      have t1 : decide ((i : Int) < (i : Int)) = false := by simp
      go_wp2_with fail
      go_loopw [6] (fun iv wx => ∃ j : Nat, iv = .int .i64 (j : Int) ∧ j ≤ M ∧ Hid (Ty.sameAll (a.xs.drop j) (b.xs.drop j) = a.sameB b) ∧ Hid (Below W.heap.size W wx)) (fun iv _ => M - (intOf iv).toNat)
      case atStart => exact ⟨0, rfl, by omega, Lib.hid (by rw [HE2.out]; rfl), HBK⟩
      case round =>
        obtain ⟨j, rfl, hj, HR, HB⟩ := hrel
        have hAw : A < W.heap.size := by omega
        clear c1 d1
        have c2 : wr.cell? ⟨A, 2, none⟩ = some (.slice p5 M q5) := (HB.out.cell (p := ⟨A, 2, none⟩) hAw).trans a2
        have d2 : wr.cell? ⟨A + 1, 2, none⟩ = some (.slice r5 M t5) := (HB.out.cell (p := ⟨A + 1, 2, none⟩) hA1).trans b2
        by_cases hlt : j < M
        · have hjl1 : j < a.xs.length := by rw [← HM.out]; exact hlt
          have hjl2 : j < b.xs.length := by rw [← HM2.out]; exact hlt
          obtain ⟨xb, xo, rfl, hpx, hlc⟩ := HXA.out j hjl1
          obtain ⟨yb, yo, rfl, hpy, hlc2⟩ := HXB.out j hjl2
          rw [← HM.out] at hlc
          rw [← HM2.out] at hlc2
          have hdr := sameAll_drop hjl1 hjl2
          obtain ⟨x, hx⟩ : ∃ x, x = a.xs[j]'hjl1 := ⟨_, rfl⟩
          obtain ⟨y, hy⟩ : ∃ y, y = b.xs[j]'hjl2 := ⟨_, rfl⟩
          rw [← hx] at hpx hdr
          rw [← hy] at hpy hdr
          have hxs : x.sz ≤ d := by
            have := Ty.size_mem (v := a) (x := x) (by rw [hx]; simp)
            have := HD.out
            omega
          have hpx2 := hpx.below HB.out
          have hpy2 := hpy.below HB.out
          have u0 := hpx2.c0; have u1 := hpx2.c1; have u2 := hpx2.c2
          have v0 := hpy2.c0; have v1 := hpy2.c1; have v2 := hpy2.c2
          obtain ⟨k4, l4, f4⟩ := hpx2.in.nslice
          obtain ⟨k5, l5, f5⟩ := hpx2.in.xslice
          obtain ⟨m4, n4, h4⟩ := hpy2.in.nslice
          obtain ⟨m5, n5, h5⟩ := hpy2.in.xslice
          rw [f4] at u1; rw [f5] at u2; rw [h4] at v1; rw [h5] at v2
          have hcall := HIH.out x y wr.drew hxs (hpx2.in.drewN 1) (hpy2.in.drewN 1)
          unfold Ty.agg at hcall
          rw [f4, f5, h4, h5] at hcall
          have HC := Lib.hid hcall
          have HDR : Hid (a.sameB b = (x.sameB y && Ty.sameAll (a.xs.drop (j + 1)) (b.xs.drop (j + 1)))) := Lib.hid (by rw [← HR.out, hdr])
          have hk0 : (0 : Int) ≤ (j : Int) := by omega
          have hk1 : (j : Int) < (M : Int) := by omega
          have hbx := hpx2.2.1
          have hby := hpy2.2.1
          clear hcall hpx hpy hpx2 hpy2 hx hy hdr hjl1 hjl2 HR f4 f5 h4 h5 hxs
          cases hsb : x.sameB y with
          | false =>
            rw [hsb] at HC HDR
            clear hsb
            go_wp2_with fail
            go_still_tail 10, (by kernel_rfl)
            change wpList _ _ _ _ _ wr.drew
            go_wp2_with fail
            refine HC.out.mono ?_
            rintro e w6 ⟨rfl, hb6⟩
            have HB6 := Lib.hid (HBW.out.trans ((HB.out.drew.trans (hb6.mono HB.out.size)).mono HBW.out.size))
            clear hb6 HC
            go_wp2
            go_ret
            exact ⟨by rw [HDR.out]; rfl, HB6.out⟩
          | true =>
            rw [hsb] at HC HDR
            clear hsb
            go_wp2_with fail
            go_still_tail 10, (by kernel_rfl)
            change wpList _ _ _ _ _ wr.drew
            go_wp2_with fail
            refine HC.out.mono ?_
            rintro e w6 ⟨rfl, hb6⟩
            have HB6 := Lib.hid (HB.out.drew.trans (hb6.mono HB.out.size))
            clear hb6 HC
            go_wp2
            go_roundw
            case rel => exact ⟨j + 1, by go_num, by omega, Lib.hid (by rw [HDR.out]; rfl), HB6⟩
            case measure => simp [intOf]; omega
        · obtain rfl : j = M := by omega
          have HR2 : Hid (a.sameB b = true) := Lib.hid (by
            rw [← HR.out, List.drop_eq_nil_of_le (by rw [← HM.out]; exact Nat.le_refl _), List.drop_eq_nil_of_le (by rw [← HM2.out]; exact Nat.le_refl _)]
            rfl)
          have t2 : decide ((j : Int) < (j : Int)) = false := by simp
          clear HR hlt
          go_wp2
          go_ret
          exact ⟨by rw [HR2.out]; rfl, HBW.out.trans (HB.out.mono HBW.out.size)⟩
theorem samet_any : ∀ (d : Nat) (a b : Ty) (w : World), a.sz ≤ d → a.In w → b.In w → Calls Tryz.prog 13 #[a.agg, b.agg] w fun e w' => BoolBelow (a.sameB b) w e w'
  | 0, a, _, _, hd, _, _ => by rw [Ty.sz_eq] at hd; omega
  | d + 1, a, b, w, hd, ha, hb => samet_step d (fun a b w h1 h2 h3 => samet_any d a b w h1 h2 h3) a b w hd ha hb
end Go.Proofs.YtjpdbhhjlnmacaaGreat

/- types.Same of any two types, with slices.Equal and slices.EqualFunc: whether they are one but for their places. -/
namespace Go.Proofs.YtjpdbhhjlnmacaaGreat
set_option linter.unusedVariables false
open Go.RowKit

theorem str_ne {s t : ByteArray} (hst : s ≠ t) : (s.toList == t.toList) = false := by
  have : s.toList ≠ t.toList := fun e => hst (by
    apply WideShapes.bytes_inj
    rw [← Lib.toList_data, ← Lib.toList_data]; exact e)
  simpa using this
theorem str_ne' {s t : ByteArray} (hst : s ≠ t) : (s.toList != t.toList) = true := by unfold bne; rw [str_ne hst]; rfl

set_option maxHeartbeats 2000000 in
set_option maxRecDepth 100000 in
theorem eqs_any (a b : Value) (ns ms : List ByteArray) (w : World) (ha : NamesAt w a ns) (hb : NamesAt w b ms) (hn : ns.length ≤ 8796093021952) :
    Calls Tryz.prog 35 #[a, b] w fun e w' => BoolDrew (decide (ns = ms)) w e w' := by
  obtain ⟨p, c, rfl, hp⟩ := names_in ha
  obtain ⟨q, c2, rfl, hq⟩ := names_in hb
  obtain ⟨L, hL⟩ : ∃ L, L = ns.length := ⟨_, rfl⟩
  obtain ⟨M, hM⟩ : ∃ M, M = ms.length := ⟨_, rfl⟩
  obtain ⟨R, hR⟩ : ∃ R, R = decide (ns = ms) := ⟨_, rfl⟩
  rw [← hL] at hn
  rw [← hL, ← hM, ← hR]
  have HL := Lib.hid hL; have HM := Lib.hid hM; have HP := Lib.hid hp; have HQ := Lib.hid hq; have HR := Lib.hid hR
  clear hL hM hp hq ha hb hR
  by_cases hl : L = M
  case neg =>
    have HF : Hid (R = false) := Lib.hid (by rw [HR.out]; exact decide_eq_false (fun h => hl (by rw [HL.out, HM.out, h])))
    have j2 : ((L : Int) != (M : Int)) = true := by simp; omega
    clear hl
    go_enter Tryz.func35, Tryz.ntmps35
    go_wp2_with fail
    go_ret
    exact ⟨by rw [HF.out]; rfl, 0, rfl⟩
  subst hl
  go_enter Tryz.func35, Tryz.ntmps35
  go_wp2_with fail
  go_loopw [13] (fun iv wr => ∃ i k : Nat, iv = .int .i64 (i : Int) ∧ i ≤ L ∧ Hid (NamesTo ns ms i) ∧ Hid (wr = w.drewN k)) (fun iv _ => L - (intOf iv).toNat)
  case atStart => exact ⟨0, 0, rfl, by omega, Lib.hid rfl, Lib.hid rfl⟩
  case round =>
    obtain ⟨i, k, rfl, hi, HN, HK⟩ := hrel
    by_cases hlt : i < L
    · have hil1 : i < ns.length := by rw [← HL.out]; exact hlt
      have hil2 : i < ms.length := by rw [← HM.out]; exact hlt
      obtain ⟨pb, po, rfl, hpb, hpc, hc⟩ := HP.out i hil1
      obtain ⟨qb, qo, rfl, hqb, hqc, hc2⟩ := HQ.out i hil2
      obtain ⟨s, hs⟩ : ∃ s, s = ns.getD i ByteArray.empty := ⟨_, rfl⟩
      obtain ⟨t, ht⟩ : ∃ t, t = ms.getD i ByteArray.empty := ⟨_, rfl⟩
      rw [← hs] at hpc
      rw [← ht] at hqc
      rw [← HL.out] at hc
      rw [← HM.out] at hc2
      have u1 : wr.cell? ⟨pb, po + i, none⟩ = some (.string s) := by rw [HK.out]; exact hpc
      have u2 : wr.cell? ⟨qb, qo + i, none⟩ = some (.string t) := by rw [HK.out]; exact hqc
      have hk0 : (0 : Int) ≤ (i : Int) := by omega
      have hk1 : (i : Int) < (L : Int) := by omega
      clear hpc hqc
      by_cases hst : s = t
      · have HN2 : Hid (NamesTo ns ms (i + 1)) := Lib.hid (namesTo_next HN.out hil1 hil2 (by rw [← hs, ← ht, hst]))
        clear hil1 hil2 hs ht
        subst hst
        clear HN
        go_wp2_with fail
        go_quiet (fail)
        go_wp2
        exact ⟨⟨i + 1, k + nq, by go_num, by omega, HN2, Lib.hid (by rw [HK.out, World.drewN_drewN])⟩, by simp [intOf]; omega⟩
      · have HF : Hid (R = false) := Lib.hid (by rw [HR.out]; exact decide_eq_false (names_ne hil1 (by rw [← hs, ← ht]; exact hst)))
        have hne := str_ne hst
        have hne2 := str_ne' hst
        clear hil1 hil2 hs ht hst HN
        go_wp2_with fail
        go_quiet (fail)
        go_wp2
        go_ret
        exact ⟨by rw [HF.out]; rfl, k + nq, by rw [HK.out, World.drewN_drewN]⟩
    · obtain rfl : i = L := by omega
      have HT : Hid (R = true) := Lib.hid (by
        rw [HR.out]
        refine decide_eq_true ?_
        have h := HN.out
        unfold NamesTo at h
        rw [List.take_of_length_le (by rw [← HL.out]; exact Nat.le_refl _), List.take_of_length_le (by rw [← HM.out]; exact Nat.le_refl _)] at h
        exact h)
      have t1 : decide ((i : Int) < (i : Int)) = false := by simp
      clear HN hlt
      go_wp2
      go_ret
      exact ⟨by rw [HT.out]; rfl, k, HK.out⟩

end Go.Proofs.YtjpdbhhjlnmacaaGreat

/- The document's TypeRight. -/
namespace Go.Proofs.YtjpdbhhjlnmacaaGreat
set_option linter.unusedVariables false
open Go.RowKit

set_option maxHeartbeats 4000000 in
theorem rtrightf_any (v : Ty) (w : World) (h : v.In w) : Calls Tryz.prog 20 #[v.agg] w fun e w' => BoolBelow v.RightB w e w' := by
  obtain ⟨W, hW⟩ : ∃ W, W = w.alloc (.cells v.cells.toArray 36) := ⟨_, rfl⟩
  have hBW : Below w.heap.size w W := by rw [hW]; exact (Below.refl _ w).alloc (Nat.le_refl _) _
  have hb0 : Blk W w.heap.size 36 v.cells.toArray := by rw [hW]; exact Blk.new w 36 _
  obtain ⟨p4, q4, e4⟩ := h.nslice
  obtain ⟨p5, q5, e5⟩ := h.xslice
  have hp := rtparts_any v W (h.below hBW)
  have hc := fun (W' : World) (hb : Below W.heap.size W W') => rtright_any v.sz v 12 W' (Nat.le_refl _) (by omega) ((h.below hBW).below hb)
  have hcl := Ty.count_le v.sz v 0 (Nat.le_refl _) (by omega)
  obtain ⟨C, hC⟩ : ∃ C, C = v.count 0 := ⟨_, rfl⟩
  have hR : v.RightB = (decide (C ≤ 200) && v.rightB 1) := by rw [hC]; rfl
  rw [← hC] at hcl hp
  unfold Ty.cells at hW hb0
  unfold Ty.agg at hc hp ⊢
  rw [e4, e5] at hW hc hp hb0 ⊢
  obtain ⟨hcl1, hcl2⟩ := hcl
  have HR := Lib.hid hR
  have HW := Lib.hid hW; have HBW := Lib.hid hBW; have HC := Lib.hid hc; have HP := Lib.hid hp; have HB0 := Lib.hid hb0
  have a0 := hb0.cell 0; have a1 := hb0.cell 1; have a2 := hb0.cell 2
  simp only [List.getElem?_toArray, List.getElem?_cons_zero, List.getElem?_cons_succ] at a0 a1 a2
  have hlt := hb0.lt
  clear hW hBW hc hp e4 e5 h hC hb0 hR
  by_cases hd : C ≤ 200
  · have t1 : decide ((C : Int) ≤ 200) = true := by simp; omega
    have HE : Hid (v.RightB = v.rightB 1) := Lib.hid (by rw [HR.out]; simp [hd])
    clear HR
    go_enter Tryz.func20, Tryz.ntmps20
    go_wp2_with fail
    rw [← HW.out]
    refine HP.out.mono ?_
    rintro e w1 ⟨rfl, hb1⟩
    have HB1 := Lib.hid hb1
    have hb2 := HB0.out.below hb1 HB0.out.lt
    clear a0 a1 a2
    have a0 := hb2.cell 0; have a1 := hb2.cell 1; have a2 := hb2.cell 2
    simp only [List.getElem?_toArray, List.getElem?_cons_zero, List.getElem?_cons_succ] at a0 a1 a2
    clear hb1 hb2 HP
    go_wp2_with fail
    refine (HC.out _ HB1.out).mono ?_
    rintro e w2 ⟨rfl, hb2⟩
    have HB2 := Lib.hid (HBW.out.trans ((HB1.out.mono HBW.out.size).trans (hb2.mono (Nat.le_trans HBW.out.size HB1.out.size))))
    clear hb2
    go_wp2
    go_ret
    exact ⟨by rw [HE.out]; rfl, HB2.out⟩
  · have t1 : decide ((C : Int) ≤ 200) = false := by simp; omega
    have HE : Hid (v.RightB = false) := Lib.hid (by rw [HR.out]; simp [hd])
    clear HR
    go_enter Tryz.func20, Tryz.ntmps20
    go_wp2_with fail
    rw [← HW.out]
    refine HP.out.mono ?_
    rintro e w1 ⟨rfl, hb1⟩
    have HB1 := Lib.hid (HBW.out.trans (hb1.mono HBW.out.size))
    clear hb1
    go_wp2
    go_ret
    exact ⟨by rw [HE.out]; rfl, HB1.out⟩

end Go.Proofs.YtjpdbhhjlnmacaaGreat
