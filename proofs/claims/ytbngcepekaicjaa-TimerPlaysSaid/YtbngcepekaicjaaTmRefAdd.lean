/- The reference of layer 19: Add. -/
import Derived.Test.YtbngcepekaicjaaTmRefDrop
namespace Go.Proofs.Ytbngcepekaicjaa
set_option linter.unusedVariables false
open Go.RowKit

section
variable {P : Program} (w : World)
theorem run_append_full (t ty e : TypeId) (i : TypeInfo) (z : Value) (size bytes : Nat) (ht : P.underlying t = some (.slice e)) (hi : P.info? e = some i) (hz : i.zero = some z)
    (hsize : i.size = size) (hby : i.bytes = bytes) (hzs : z.cells.size = size) (hsz : 0 < size) (B : Nat) (A : Option Addr) (n : Nat) (olds : List Value) (hr : Reads w B size A n olds)
    (a : Addr) (m c : Nat) (news : List Value) (hl : news.length = m * size) (hnews : ∀ j u, news[j]? = some u → w.cell? (a.add j) = some u) (h1 : ∀ u ∈ news, u.oneCell' = true) (hm : 0 < m)
    (h63 : n + m ≤ maxLen) (hbytes : (n + m) * bytes ≤ 140737488355328) :
    ∃ v' w', (Builtin.append_ #[t, t] ty #[.slice A n n, .slice (some a) m c]).run P w = .ok v' w' ∧ w'.ownsRow w.heap.size e size v' (n + m) (olds ++ news) ∧ w.grownBy w' none := by
  rcases A with _ | b
  · have hn : n = 0 := by
      rcases Nat.eq_zero_or_pos n with h0 | h0
      · exact h0
      · obtain ⟨ad, h, _⟩ := hr.2 h0
        cases h
    subst hn
    have ho : olds = [] := List.eq_nil_of_length_eq_zero (by simpa using hr.1)
    subst ho
    obtain ⟨v', w', hrun, h2, h3, _, h5⟩ := run_append_own_at (P := P) w w.heap.size t ty e i z size bytes ht hi hz hsize hby hzs hsz (.slice none 0 0) 0 [] (World.ownsRow_nil w w.heap.size e size) a m c news hl hnews h1 h63 hbytes (Nat.le_refl _)
    exact ⟨v', w', hrun, h2, h3⟩
  · exact run_append_arg_grows w t ty e i z size bytes ht hi hz hsize hby hzs hsz b n n olds hr.1 (fun j u hu => by
      rcases Nat.eq_zero_or_pos n with h0 | h0
      · subst h0
        have ho : olds = [] := List.eq_nil_of_length_eq_zero (by simpa using hr.1)
        subst ho
        simp at hu
      · obtain ⟨ad, h, _, hc⟩ := hr.2 h0
        injection h with h
        subst h
        exact hc j u hu) a m c news hl hnews (by omega) h63 hbytes
theorem wpList_append_full {ops : Array Oper} {rest : List Oper} {o : Oper} {a : Act} {Q : Exit → Act → World → Prop} (hgd : o.guard = none) (s x : Operand) (t : TypeId)
    (ho : o.op = .call { callee := .builtin .append, args := #[s, x], argTypes := #[t, t] })
    (e : TypeId) (i : TypeInfo) (z : Value) (size bytes : Nat) (ht : P.underlying t = some (.slice e)) (hi : P.info? e = some i) (hz : i.zero = some z)
    (hsize : i.size = size) (hby : i.bytes = bytes) (hzs : z.cells.size = size) (hsz : 0 < size) (B : Nat) (A : Option Addr) (n : Nat) (olds : List Value) (hs : a.eval s = .slice A n n) (hr : Reads w B size A n olds)
    (ad : Addr) (m c : Nat) (news : List Value) (hx : a.eval x = .slice (some ad) m c) (hl : news.length = m * size) (hnews : ∀ j u, news[j]? = some u → w.cell? (ad.add j) = some u) (h1 : ∀ u ∈ news, u.oneCell' = true) (hm : 0 < m)
    (h63 : n + m ≤ maxLen) (hbytes : (n + m) * bytes ≤ 140737488355328)
    (h : ∀ v' w', w'.ownsRow w.heap.size e size v' (n + m) (olds ++ news) → w.grownBy w' none → wpList P ops Q rest (a.put o.dst v') w') : wpList P ops Q (o :: rest) a w := by
  refine wpList_plain hgd fun K hK => ?_
  obtain ⟨v', w', hrun, h2, h3⟩ := run_append_full (P := P) w t o.type e i z size bytes ht hi hz hsize hby hzs hsz B A n olds hr ad m c news hl hnews h1 hm h63 hbytes
  unfold Oper.wp execOp
  simp only [ho, resolve, invoke, builtin, Sem.run_bind, Sem.run_pure, Result.andThen_ok, List.map_toArray, List.map_cons, List.map_nil, hs, hx, hrun]
  exact hK _ _ (h v' w' h2 h3)
end
theorem row_take {w : World} {B n k : Nat} {A : Option Addr} {L : List Wt} (h : Reads w B 2 A n (wc L)) (hn : n = L.length) (hk : k ≤ n) : Reads w B 2 A k (wc (L.take k)) := by
  refine ⟨by rw [wc_len, List.length_take]; omega, fun h0 => ?_⟩
  obtain ⟨ad, e, hb, hc⟩ := h.2 (by omega)
  refine ⟨ad, e, hb, fun j u hu => hc j u ?_⟩
  have e : wc L = wc (L.take k) ++ wc (L.drop k) := by rw [← wc_app, List.take_append_drop]
  rw [e, List.getElem?_append_left (List.getElem?_eq_some_iff.1 hu).1]
  exact hu
theorem mid_row {w : World} {B n k m : Nat} {v : Value} {L : List Wt} {id at_ : Int} (h : w.ownsRow B 36 2 v (k + 1 + m) (wc (L.take k) ++ .int .i64 id :: .int .i64 at_ :: wc (L.drop k))) (hn : n = L.length) (hk : k ≤ n) (hm : m = (L.drop k).length) : PairsAt w B v (L.take k ++ (id, at_) :: L.drop k) := by
  unfold PairsAt
  rw [wc_app, List.length_append, List.length_cons, List.length_take, Nat.min_eq_left (by omega)]
  have e : k + 1 + m = k + ((L.drop k).length + 1) := by omega
  rw [e] at h
  exact h
def LtTo (L : List Wt) (x : Wt) (k : Nat) : Prop := ∀ j, j < k → ltW (gW L j) x
theorem take_lt {x : Wt} : ∀ {L : List Wt} {k : Nat}, k ≤ L.length → LtTo L x k → (k = L.length ∨ ¬ ltW (gW L k) x) → L.takeWhile (fun y => decide (ltW y x)) = L.take k ∧ L.dropWhile (fun y => decide (ltW y x)) = L.drop k
  | [], k, hk, _, _ => by simp
  | y :: L, 0, _, _, h => by
    rcases h with h | h
    · simp at h
    · have hd : decide (ltW y x) = false := decide_eq_false h
      simp [List.takeWhile_cons, List.dropWhile_cons, hd]
  | y :: L, k + 1, hk, hl, h => by
    have hd : decide (ltW y x) = true := decide_eq_true (hl 0 (by omega))
    have ih := take_lt (L := L) (k := k) (x := x) (by simpa using hk) (fun j hj => hl (j + 1) (by omega)) (by
      rcases h with h | h
      · exact .inl (by simpa using h)
      · exact .inr h)
    simp [List.takeWhile_cons, List.dropWhile_cons, hd, ih.1, ih.2]
theorem insW_at {L : List Wt} {x : Wt} {k : Nat} (hk : k ≤ L.length) (h1 : LtTo L x k) (h2 : k = L.length ∨ ¬ ltW (gW L k) x) : insW L x = L.take k ++ x :: L.drop k := by
  have := take_lt hk h1 h2
  unfold insW
  rw [this.1, this.2]
def RAddRel (w : World) (n : Nat) (L : List Wt) (x : Wt) (kv : Value) (wr : World) : Prop := ∃ k : Nat, k ≤ n ∧ kv = .int .i64 k ∧ LtTo L x k ∧ Below w.heap.size w wr
set_option maxHeartbeats 2000000 in
set_option maxRecDepth 100000 in
theorem ref_add (r : Nat) (L : List Wt) (id at_ : Int) (w : World) (h : RefW w r L) (hok : OkW L) : Calls Try.prog 16 #[.pointer (some ⟨r, 0, none⟩), .int .i64 id, .int .i64 at_] w fun e w' => RefOut r (addL L id at_) (.int .i64 (addE L id at_)) w e w' := by
  unfold RefOut
  obtain ⟨j0, hj, hy0, hy1, hy2⟩ := info_parts pair_facts
  have HJ := Lib.hid hj; have HY0 := Lib.hid hy0; have HY1 := Lib.hid hy1; have HY2 := Lib.hid hy2
  have hW := h
  obtain ⟨sv, hb, hp⟩ := h
  obtain ⟨A, cap, rfl⟩ := hp.form
  have cg := hb.cell 0
  simp only [List.getElem?_toArray, List.getElem?_cons_zero] at cg
  have hrlt := hb.lt
  obtain ⟨A', cap', e', hrd⟩ := hp.rd
  have hA : A = A' := by injection e'
  subst hA
  obtain ⟨n, hn⟩ : ∃ n, n = L.length := ⟨_, rfl⟩
  have hp' : w.ownsRow 0 36 2 (.slice A n cap) n (wc L) := by unfold PairsAt at hp; rw [hn]; exact hp
  rw [← hn] at cg
  have hn200 : n ≤ 200 := by rw [hn]; exact hok.len
  have hn200' : (n : Int) ≤ 200 := by omega
  rw [← hn] at hb
  have HB := Lib.hid hb; have HP := Lib.hid hp'; have HN := Lib.hid hn; have HR := Lib.hid hrd; have HOK := Lib.hid hok; have HW := Lib.hid hW
  clear hj hy0 hy1 hy2 hW hb hp e' hn hp' hrd hok
  by_cases hbad : badW id at_ = true
  · have HE := Lib.hid (show addE L id at_ = 2 by unfold addE; rw [if_pos hbad])
    have HL := Lib.hid (show addL L id at_ = L by unfold addL; rw [HE.out, if_neg (by omega)])
    have hc : (decide (id < 0) = true) ∨ (decide (id < 0) = false ∧ decide (at_ < 0) = true) ∨ (decide (id < 0) = false ∧ decide (at_ < 0) = false ∧ decide (2199023255552 < at_) = true) := by
      unfold badW at hbad
      simp at hbad
      simp
      omega
    clear hbad
    rw [HE.out, HL.out]
    rcases hc with h1 | ⟨h1, h2⟩ | ⟨h1, h2, h3⟩
    all_goals
      go_enter Try.func16, Try.ntmps16
      go_wp2
      go_ret
      exact ⟨rfl, HW.out, .refl _ _⟩
  have hb' : decide (id < 0) = false ∧ decide (at_ < 0) = false ∧ decide (2199023255552 < at_) = false := by
    unfold badW at hbad
    simp at hbad
    simp
    omega
  obtain ⟨g1, g2, g3⟩ := hb'
  have HBAD := Lib.hid (show badW id at_ = false by simpa using hbad)
  clear hbad
  go_enter Try.func16, Try.ntmps16
  go_wp2
  go_loopw [7] (fun iv wr => ∃ i : Nat, i ≤ n ∧ iv = .int .i64 i ∧ NoneTo L id i ∧ wr = w) (fun iv _ => n - (intOf iv).toNat)
  case atStart => exact ⟨0, Nat.zero_le _, rfl, fun j hj => absurd hj (by omega), rfl⟩
  case round =>
    obtain ⟨i, hi, rfl, hno, rfl⟩ := hrel
    have HNO := Lib.hid hno
    clear hno
    by_cases hin : i < n
    · obtain ⟨b, o, rfl, hbl, c0, c1⟩ := HR.out i (by rw [← HN.out]; exact hin)
      have hi0 : (0 : Int) ≤ (i : Int) := by omega
      have hi1 : (i : Int) < (n : Int) := by omega
      have hiL : i < L.length := by rw [← HN.out]; exact hin
      by_cases he : (gW L i).1 = id
      · have HE := Lib.hid (show addE L id at_ = 17 by unfold addE; rw [HBAD.out, hasW_at hiL he, if_neg (by simp), if_pos rfl])
        have HL := Lib.hid (show addL L id at_ = L by unfold addL; rw [HE.out, if_neg (by omega)])
        rw [he] at c0
        clear he
        go_wp2
        go_ret
        exact ⟨ret_int HE.out.symm, by rw [HL.out]; exact HW.out, .refl _ _⟩
      · have hid : ((gW L i).1 == id) = false := by simpa using he
        have HNX := Lib.hid (show NoneTo L id (i + 1) from fun j hj => by
          rcases (by omega : j < i ∨ j = i) with h | h
          · exact HNO.out j h
          · rw [h]; exact he)
        clear he
        go_wp2
        exact ⟨⟨i + 1, hin, by go_num, HNX.out, trivial⟩, by simp [intOf]; omega⟩
    · obtain rfl : i = n := by omega
      have hno := HNO.out
      rw [HN.out] at hno
      have HF := Lib.hid (noneTo_all hno)
      clear hno
      by_cases hfull : 200 ≤ i
      · have HE := Lib.hid (show addE L id at_ = 4 by unfold addE; rw [HBAD.out, HF.out, if_neg (by simp), if_neg (by simp), if_pos (by rw [← HN.out]; exact hfull)])
        have HL := Lib.hid (show addL L id at_ = L by unfold addL; rw [HE.out, if_neg (by omega)])
        have hd : decide ((200 : Int) ≤ (i : Int)) = true := by simp; omega
        go_wp2
        go_ret
        exact ⟨ret_int HE.out.symm, by rw [HL.out]; exact HW.out, .refl _ _⟩
      have hd : decide ((200 : Int) ≤ (i : Int)) = false := by simp; omega
      have hlt200 : i < 200 := by omega
      have HE := Lib.hid (show addE L id at_ = 0 by unfold addE; rw [HBAD.out, HF.out, if_neg (by simp), if_neg (by simp), if_neg (by rw [← HN.out]; exact hfull)])
      have HL := Lib.hid (show addL L id at_ = insW L (id, at_) by unfold addL; rw [HE.out, if_pos rfl])
      go_wp2_with fail
      go_loopw [8] (fun kv wr2 => RAddRel wr i L (id, at_) kv wr2) (fun kv _ => i - (intOf kv).toNat)
      case atStart => exact ⟨0, Nat.zero_le _, rfl, fun j hj => absurd hj (by omega), .refl _ _⟩
      case round =>
        obtain ⟨k, hk, rfl, hlt, hbel⟩ := hrel
        have HLT := Lib.hid hlt; have HBE := Lib.hid hbel
        have hb2 := HB.out.below hbel hrlt
        have cg2 := hb2.cell 0
        simp only [List.getElem?_toArray, List.getElem?_cons_zero] at cg2
        have hrlt2 := hb2.lt
        have hp2 := row_below HP.out hbel
        have HB2 := Lib.hid hb2; have HP2 := Lib.hid hp2
        clear hlt hbel hb2 hp2
        have hk200 : (k : Int) ≤ 200 := by omega
        have hexit : k < i ∧ ltW (gW L k) (id, at_) ∨ (k = i ∨ k < i ∧ ¬ ltW (gW L k) (id, at_)) := by
          by_cases h1 : k < i
          · by_cases h2 : ltW (gW L k) (id, at_)
            · exact .inl ⟨h1, h2⟩
            · exact .inr (.inr ⟨h1, h2⟩)
          · exact .inr (.inl (by omega))
        rcases hexit with ⟨hki, hlx⟩ | hex
        · obtain ⟨b, o, rfl, hbl, c0, c1⟩ := (HR.out.below HBE.out) k (by rw [← HN.out]; exact hki)
          have hk0 : (0 : Int) ≤ (k : Int) := by omega
          have hk1 : (k : Int) < (i : Int) := by omega
          have HX := Lib.hid (show LtTo L (id, at_) (k + 1) from fun j hj => by
            rcases (by omega : j < k ∨ j = k) with h | h
            · exact HLT.out j h
            · rw [h]; exact hlx)
          have hbf := before_any (gW L k) (id, at_) wr
          have HBF := Lib.hid hbf
          clear hbf
          go_wp2_with fail
          refine HBF.out.mono ?_
          rintro e w4 ⟨rfl, hb4⟩
          rw [decide_eq_true hlx]
          have HB4 := Lib.hid (HBE.out.trans (hb4.mono HBE.out.size))
          clear hb4 HBF c0 c1
          go_wp2
          exact ⟨⟨k + 1, hki, by go_num, HX.out, HB4.out⟩, by simp [intOf]; omega⟩
        · have hins := insW_at (x := (id, at_)) (by rw [← HN.out]; exact hk) HLT.out (by
            rcases hex with h | h
            · exact .inl (by rw [← HN.out]; exact h)
            · exact .inr h.2)
          have HINS := Lib.hid hins
          have HDONE : Hid (∀ (K : Act → World → Prop) (Q : Exit → Act → World → Prop), True) := Lib.hid (fun _ _ => trivial)
          clear hins
          have hcapn : 0 < i → i ≤ cap := fun h => own_cap HP2.out h
          have HO1 := Lib.hid (World.ownsRow_made (e := 36) (size := 2) wr #[] 0 (Nat.le_refl _) (by unfold maxLen; omega) rfl)
          have hrne : r ≠ wr.heap.size := by omega
          have hk0 : (0 : Int) ≤ (k : Int) := by omega
          rcases hex with hex | ⟨hki, hnl⟩
          · subst hex
            have hck : cap = k ∨ cap ≠ k := by omega
            have hkc : k ≤ cap := by
              rcases Nat.eq_zero_or_pos k with h | h
              · omega
              · exact hcapn h
            clear hcapn
            go_wp2_with (at_builtin; refine wpList_append_any _ rfl (.tmp 67) (.tmp 73) 33 rfl wr.heap.size 36 j0 (.agg #[.int .i64 0, .int .i64 0]) 2 16 Try.underlying33 HJ.out HY0.out HY1.out HY2.out rfl (by decide) _ 0 [] rfl HO1.out wr.heap.size _ _ _ (wc (L.drop k)) rfl ⟨by rw [wc_len, List.length_drop, ← HN.out]; omega, fun h => absurd h (by omega)⟩ (wc_one1 _) (by unfold maxLen; omega) (by omega) (by simp) ?_)
            all_goals
              intro v2 w2 hown2 hgrow2 hloc2
              have hp2' : PairsAt w2 wr.heap.size v2 (L.drop k) := by
                unfold PairsAt
                rw [List.length_drop, ← HN.out]
                simpa using hown2
              obtain ⟨A2, c2, m2, hm2, rfl⟩ := hp2'.form3
              have hbel2 : Below wr.heap.size wr w2 := ((Below.refl wr.heap.size wr).alloc (Nat.le_refl _) (.cells #[] 36)).grown hgrow2 (by simp) (fun j hj => own_ge HO1.out hj)
              have hb3 := HB2.out.below hbel2 hrlt2
              have cg3 := hb3.cell 0
              simp only [List.getElem?_toArray, List.getElem?_cons_zero] at cg3
              have hr3 := row_take (k := k) ((Reads.of_own (row_below HP2.out hbel2)).alloc (Nat.le_refl _) (.cells #[.int .i64 id, .int .i64 at_] 36)) HN.out (by omega)
              have HR3 := Lib.hid hr3; have HB3 := Lib.hid hb3; have HBL2 := Lib.hid hbel2; have HPR := Lib.hid hp2'; have HM2 := Lib.hid hm2
              have hl3 := hb3.lt
              have hsz2 := hbel2.size
              clear hown2 hgrow2 hloc2 hp2' hbel2 hb3 hr3 hm2 HR cg2
              go_wp2_with (at_builtin; refine wpList_append_full _ rfl (.tmp 82) (.tmp 86) 33 rfl 36 j0 (.agg #[.int .i64 0, .int .i64 0]) 2 16 Try.underlying33 HJ.out HY0.out HY1.out HY2.out rfl (by decide) _ _ k _ rfl HR3.out ⟨w2.heap.size, 0, none⟩ 1 1 [.int .i64 id, .int .i64 at_] rfl rfl (cells_new _ _ _) ?d1 (by omega) (by unfold maxLen; omega) (by omega) ?_)
              case d1 => intro u hu; simp at hu; rcases hu with rfl | rfl <;> rfl
              intro v4 w4 hown4 hgrow4
              have hbel4 : Below w2.heap.size w2 w4 := ((Below.refl w2.heap.size w2).alloc (Nat.le_refl _) (.cells #[.int .i64 id, .int .i64 at_] 36)).grown hgrow4 (by simp) (fun j hj => by cases hj)
              have hrow4 := row_below HPR.out hbel4
              rw [← HM2.out] at hrow4
              have hrd4 := Reads.of_own hrow4
              have hb4 := HB3.out.below hbel4 hl3
              have HO4 := Lib.hid hown4; have HRD4 := Lib.hid hrd4; have HBL4 := Lib.hid hbel4; have HB4 := Lib.hid hb4
              have hsz4 := hgrow4.size
              rw [World.size_alloc] at hsz4
              have hm2k : m2 ≤ 200 := by rw [HM2.out, List.length_drop, ← HN.out]; omega
              clear hown4 hgrow4 hbel4 hrow4 hrd4 hb4 cg3
              go_wp2_with (at_builtin; refine wpList_append_any _ rfl (.tmp 87) (.tmp 88) 33 rfl _ 36 j0 (.agg #[.int .i64 0, .int .i64 0]) 2 16 Try.underlying33 HJ.out HY0.out HY1.out HY2.out rfl (by decide) _ (k + 1) _ rfl HO4.out _ A2 m2 c2 (wc (L.drop k)) rfl HRD4.out (wc_one1 _) (by unfold maxLen; omega) (by omega) (by exact hsz4) ?_)
              intro v5 w5 hown5 hgrow5 hloc5
              have hp5 := mid_row hown5 HN.out (by omega) HM2.out
              obtain ⟨A5, c5, m5, hm5, rfl⟩ := hp5.form3
              have hb5 := HB4.out.grown hgrow5 (own_ne HO4.out HB4.out (by decide))
              have c5' := hb5.cell 0
              simp only [List.getElem?_toArray, List.getElem?_cons_zero] at c5'
              have f5 := hb5.frozen 0
              have l5 := hb5.lt
              have honly := only_app (Only.of_below (HBE.out.trans ((HBL2.out.trans (HBL4.out.mono HBL2.out.size)).mono HBE.out.size)) r) hgrow5 (fun j hj => by have h5 := own_ge HO4.out hj; have := HBE.out.size; omega)
              have HE5 := Lib.hid (And.intro hp5 (And.intro hb5 honly))
              clear hown5 hgrow5 hloc5 hm5 hp5 hb5 honly
              go_wp2
              go_ret
              exact ⟨ret_int HE.out.symm, by rw [HL.out, HINS.out]; exact ref_end HE5.out.2.1 HE5.out.1 rfl, HE5.out.2.2.set_ (.inl rfl) _⟩
          · obtain ⟨b, o, rfl, hbl, c0, c1⟩ := (HR.out.below HBE.out) k (by rw [← HN.out]; exact hki)
            have hk1 : (k : Int) < (i : Int) := by omega
            have hkc : i ≤ cap := hcapn (by omega)
            have hck : cap ≠ k := by omega
            have hbf := before_any (gW L k) (id, at_) wr
            have HBF := Lib.hid hbf
            have HNL := Lib.hid hnl
            clear hbf hnl hcapn
            go_wp2_with fail
            refine HBF.out.mono ?_
            rintro e w1 ⟨rfl, hb1⟩
            rw [decide_eq_false HNL.out]
            have hbe1 := HBE.out.trans (hb1.mono HBE.out.size)
            have hb21 := HB2.out.below hb1 hrlt2
            have hp21 := row_below HP2.out hb1
            clear HO1 HBE HB2 HP2 hrne hb1 HBF c0 c1 hrlt2 cg2
            have HO1 := Lib.hid (World.ownsRow_made (e := 36) (size := 2) w1 #[] 0 (Nat.le_refl _) (by unfold maxLen; omega) rfl)
            have HBE := Lib.hid hbe1; have HB2 := Lib.hid hb21; have HP2 := Lib.hid hp21
            have hrlt2 := hb21.lt
            have cg2 := hb21.cell 0
            simp only [List.getElem?_toArray, List.getElem?_cons_zero] at cg2
            have HRR := Lib.hid ((row_rest (hp21.alloc (.cells #[] 36)) HN.out k (Nat.le_of_lt hki)))
            clear hbe1 hb21 hp21
            go_wp2_with (at_builtin; refine wpList_append_any _ rfl (.tmp 67) (.tmp 73) 33 rfl w1.heap.size 36 j0 (.agg #[.int .i64 0, .int .i64 0]) 2 16 Try.underlying33 HJ.out HY0.out HY1.out HY2.out rfl (by decide) _ 0 [] rfl HO1.out _ _ _ _ (wc (L.drop k)) rfl HRR.out (wc_one1 _) (by unfold maxLen; omega) (by omega) (by simp) ?_)
            intro v2 w2 hown2 hgrow2 hloc2
            have hp2' : PairsAt w2 w1.heap.size v2 (L.drop k) := by
              unfold PairsAt
              rw [List.length_drop, ← HN.out]
              simpa using hown2
            obtain ⟨A2, c2, m2, hm2, rfl⟩ := hp2'.form3
            have hbel2 : Below w1.heap.size w1 w2 := ((Below.refl w1.heap.size w1).alloc (Nat.le_refl _) (.cells #[] 36)).grown hgrow2 (by simp) (fun j hj => own_ge HO1.out hj)
            have hb3 := HB2.out.below hbel2 hrlt2
            have cg3 := hb3.cell 0
            simp only [List.getElem?_toArray, List.getElem?_cons_zero] at cg3
            have hr3 := row_take (k := k) ((Reads.of_own (row_below HP2.out hbel2)).alloc (Nat.le_refl _) (.cells #[.int .i64 id, .int .i64 at_] 36)) HN.out (by omega)
            have HR3 := Lib.hid hr3; have HB3 := Lib.hid hb3; have HBL2 := Lib.hid hbel2; have HPR := Lib.hid hp2'; have HM2 := Lib.hid hm2
            have hl3 := hb3.lt
            have hsz2 := hbel2.size
            clear hown2 hgrow2 hloc2 hp2' hbel2 hb3 hr3 hm2 HR cg2
            go_wp2_with (at_builtin; refine wpList_append_full _ rfl (.tmp 82) (.tmp 86) 33 rfl 36 j0 (.agg #[.int .i64 0, .int .i64 0]) 2 16 Try.underlying33 HJ.out HY0.out HY1.out HY2.out rfl (by decide) _ _ k _ rfl HR3.out ⟨w2.heap.size, 0, none⟩ 1 1 [.int .i64 id, .int .i64 at_] rfl rfl (cells_new _ _ _) ?d1 (by omega) (by unfold maxLen; omega) (by omega) ?_)
            case d1 => intro u hu; simp at hu; rcases hu with rfl | rfl <;> rfl
            intro v4 w4 hown4 hgrow4
            have hbel4 : Below w2.heap.size w2 w4 := ((Below.refl w2.heap.size w2).alloc (Nat.le_refl _) (.cells #[.int .i64 id, .int .i64 at_] 36)).grown hgrow4 (by simp) (fun j hj => by cases hj)
            have hrow4 := row_below HPR.out hbel4
            rw [← HM2.out] at hrow4
            have hrd4 := Reads.of_own hrow4
            have hb4 := HB3.out.below hbel4 hl3
            have HO4 := Lib.hid hown4; have HRD4 := Lib.hid hrd4; have HBL4 := Lib.hid hbel4; have HB4 := Lib.hid hb4
            have hsz4 := hgrow4.size
            rw [World.size_alloc] at hsz4
            have hm2k : m2 ≤ 200 := by rw [HM2.out, List.length_drop, ← HN.out]; omega
            clear hown4 hgrow4 hbel4 hrow4 hrd4 hb4 cg3
            go_wp2_with (at_builtin; refine wpList_append_any _ rfl (.tmp 87) (.tmp 88) 33 rfl _ 36 j0 (.agg #[.int .i64 0, .int .i64 0]) 2 16 Try.underlying33 HJ.out HY0.out HY1.out HY2.out rfl (by decide) _ (k + 1) _ rfl HO4.out _ A2 m2 c2 (wc (L.drop k)) rfl HRD4.out (wc_one1 _) (by unfold maxLen; omega) (by omega) (by exact hsz4) ?_)
            intro v5 w5 hown5 hgrow5 hloc5
            have hp5 := mid_row hown5 HN.out (by omega) HM2.out
            obtain ⟨A5, c5, m5, hm5, rfl⟩ := hp5.form3
            have hb5 := HB4.out.grown hgrow5 (own_ne HO4.out HB4.out (by decide))
            have c5' := hb5.cell 0
            simp only [List.getElem?_toArray, List.getElem?_cons_zero] at c5'
            have f5 := hb5.frozen 0
            have l5 := hb5.lt
            have honly := only_app (Only.of_below (HBE.out.trans ((HBL2.out.trans (HBL4.out.mono HBL2.out.size)).mono HBE.out.size)) r) hgrow5 (fun j hj => by have h5 := own_ge HO4.out hj; have := HBE.out.size; omega)
            have HE5 := Lib.hid (And.intro hp5 (And.intro hb5 honly))
            clear hown5 hgrow5 hloc5 hm5 hp5 hb5 honly
            go_wp2
            go_ret
            exact ⟨ret_int HE.out.symm, by rw [HL.out, HINS.out]; exact ref_end HE5.out.2.1 HE5.out.1 rfl, HE5.out.2.2.set_ (.inl rfl) _⟩

end Go.Proofs.Ytbngcepekaicjaa
