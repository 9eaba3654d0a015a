/- In every order of calls the wheel answers as its reference. No conditions. -/
import Derived.Test.YtbngcepekaicjaaTmPlay
import Derived.Test.YtbngcepekaicjaaHeld
import Derived.Test.YtbngcepekaicjaaOpen
import Derived.Deep.DeepCutAuto
import Derived.Deep.CutBlock
import Derived.Deep.RegionHeld3
namespace Go.Proofs.Ytbngcepekaicjaa.timerPlays
set_option linter.unusedVariables false
open Go.RowKit Go.ChangeShapes Go.WideShapes Go.Deep

structure OpW where
  kind : Int
  id : Int
  at_ : Int
def OpsAt (w : World) (A : Option Addr) (L : List OpW) : Prop := ∀ k (h : k < L.length), ∃ b o, A = some ⟨b, o, none⟩ ∧ b < w.heap.size ∧ w.cell? ⟨b, o + k * 3, none⟩ = some (.int .i64 L[k].kind) ∧ w.cell? ⟨b, o + k * 3 + 1, none⟩ = some (.int .i64 L[k].id) ∧ w.cell? ⟨b, o + k * 3 + 2, none⟩ = some (.int .i64 L[k].at_) ∧ L[k].id ≤ 9223372036854775807
def PlayRel (w : World) (r n : Nat) (wv iv : Value) (wr : World) : Prop := ∃ k g M, k ≤ n ∧ iv = .int .i64 (k : Nat) ∧ wv = .pointer (some ⟨g, 0, none⟩) ∧ PW w g r M M wr
def PlayW (w : World) (r : Nat) (wv : Value) (wr : World) : Prop := ∃ g M, wv = .pointer (some ⟨g, 0, none⟩) ∧ PW w g r M M wr
theorem _root_.Go.Proofs.Ytbngcepekaicjaa.IntsAt.rdOf {w : World} {B n c : Nat} {A : Option Addr} {O : List Int} (h : IntsAt w B (.slice A n c) O) : RdI w A O := by
  obtain ⟨A', c', e, hr⟩ := h.rd
  injection e with e1
  rw [e1]
  exact hr
theorem same_refl (A B : Option Addr) (a : List Int) (ca cb : Nat) (w : World) (ha : RdI w A a) (hb : RdI w B a) (hl : a.length ≤ 140737488351232) :
    Calls Try.prog 14 #[.slice A a.length ca, .slice B a.length cb] w fun e w' => SameR true w e w' := by
  have h := same_any A B a a ca cb w ha hb hl
  unfold SameOut at h
  rwa [decide_eq_true rfl] at h
theorem same_pairs_refl (A B : Option Addr) (a : List Wt) (ca cb : Nat) (w : World) (ha : RdP w A a) (hb : RdP w B a) (hl : a.length ≤ 140737488351232) :
    Calls Try.prog 13 #[.slice A a.length ca, .slice B a.length cb] w fun e w' => SameR true w e w' := by
  have h := same_pairs A B a a ca cb w ha hb hl
  unfold SameP at h
  rwa [decide_eq_true rfl] at h
def PlayDue (w : World) (g r : Nat) (La Lr : List Wt) (O : List Int) (wr : World) (e : Ending) (w' : World) : Prop := ∃ sv, e = .returned sv ∧ IntsAt w' wr.heap.size sv O ∧ PW w g r La Lr w' ∧ StepW g wr w'
def PlayRDue (w : World) (g r : Nat) (La : List Wt) (O : List Int) (wr : World) (e : Ending) (w' : World) : Prop := ∃ sv, e = .returned sv ∧ IntsAt w' wr.heap.size sv O ∧ PW w g r La La w' ∧ Only wr w' r
set_option maxHeartbeats 20000000 in
set_option maxRecDepth 100000 in
theorem law_any (A : Option Addr) (L : List OpW) (cap : Nat) (w : World) (hr : OpsAt w A L) (hLm : L.length ≤ 140737488355328) :
    Calls Try.prog 6 #[.slice A L.length cap] w fun e w' => TrueBelow w e w' := by
  obtain ⟨n, hn⟩ : ∃ n, n = L.length := ⟨_, rfl⟩
  rw [← hn] at hLm ⊢
  have HR := Lib.hid hr; have HN := Lib.hid hn
  clear hr hn
  go_enter Try.func6, Try.ntmps6
  go_wp2_with fail
  refine (awake19_any _).mono ?_
  rintro e w1 ⟨rfl, hl⟩
  have HL := Lib.hid hl
  clear hl
  by_cases h1 : 400 < n
  · have h1d : decide ((400 : Int) < (n : Int)) = true := by simp; omega
    go_wp2_with fail
    refine (awake19_any _).mono ?_
    rintro e w2 ⟨rfl, hl⟩
    go_wp2
    go_ret
    exact ⟨rfl, HL.out.trans (hl.mono HL.out.size)⟩
  have h1d : decide ((400 : Int) < (n : Int)) = false := by simp; omega
  have hn400 : (n : Int) ≤ 400 := by omega
  go_wp2_with fail
  refine (new_any _).mono ?_
  rintro e w2 ⟨rfl, hW2, hl2⟩
  have hz1 := HL.out.size
  have hz2 := hl2.size
  have hPW : PW w w1.heap.size w2.heap.size [] [] (w2.alloc (.cells #[.slice none 0 0] 45)) :=
    ⟨none, hW2.below ((Below.refl _ _).alloc (Nat.le_refl _) _), ⟨_, Blk.new w2 45 _, World.ownsRow_nil _ _ _ _⟩, hz1, by omega, (fun k hk => by cases hk), (HL.out.trans (hl2.mono hz1)).alloc (by omega) _⟩
  have HPW := Lib.hid hPW
  clear hPW hW2 hl2
  obtain ⟨r, hrr⟩ : ∃ r, r = w2.heap.size := ⟨_, rfl⟩
  go_wp2_with fail
  rw [← hrr] at HPW ⊢
  clear hrr
  go_loopw [3, 23] (fun wv iv wr => PlayRel w r n wv iv wr) (fun _ iv _ => n - (intOf iv).toNat)
  case atStart => exact ⟨0, _, [], Nat.zero_le _, rfl, rfl, HPW.out⟩
  case round =>
    obtain ⟨k, g, M, hk, rfl, rfl, hpw⟩ := hrel
    have HP := Lib.hid hpw
    clear hpw HPW
    by_cases hk' : k < n
    · obtain ⟨b, o, rfl, hb, c0, c1, c2, hid⟩ := HR.out k (by rw [← HN.out]; exact hk')
      rw [← HP.out.all.cell (p := ⟨b, o + k * 3, none⟩) hb] at c0
      rw [← HP.out.all.cell (p := ⟨b, o + k * 3 + 1, none⟩) hb] at c1
      rw [← HP.out.all.cell (p := ⟨b, o + k * 3 + 2, none⟩) hb] at c2
      have hb' := Nat.lt_of_lt_of_le hb HP.out.all.size
      have hk0 : (0 : Int) ≤ (k : Int) := by omega
      have hk1 : (k : Int) < (n : Int) := by omega
      obtain ⟨x, hx⟩ : ∃ x, x = L[k]'(by rw [← HN.out]; exact hk') := ⟨_, rfl⟩
      rw [← hx] at c0 c1 c2 hid
      clear hx
      obtain ⟨X, hX⟩ : ∃ X, X = wr.heap.size := ⟨_, rfl⟩
      have hP4 := HP.out.below ((Below.refl _ _).alloc (Nat.le_refl _) (.cells #[.int .i64 x.kind, .int .i64 x.id, .int .i64 x.at_] 47))
      have hbo := Blk.new wr 47 #[.int .i64 x.kind, .int .i64 x.id, .int .i64 x.at_]
      have HP4 := Lib.hid hP4; have HBO := Lib.hid hbo
      have HOK := Lib.hid HP.out.ok
      clear hP4 hbo
      go_upto_block 2 with fail
      obtain ⟨W0, hW0⟩ : ∃ W0, W0 = wr.alloc (.cells #[.int .i64 x.kind, .int .i64 x.id, .int .i64 x.at_] 47) := ⟨_, rfl⟩
      have hP4 := HP4.out; have hbo := HBO.out
      clear HP4 HBO
      rw [← hW0] at hP4 hbo ⊢
      rw [← hX] at hbo ⊢
      have HP4 := Lib.hid hP4; have HBO := Lib.hid hbo
      clear hP4 hbo hW0 hX c0 c1 c2 HP hb hb'
      go_cut [3] (fun s3 wx => PlayW w r s3 wx)
      case first =>
        by_cases t1 : x.kind = 1
        · have t1' : (x.kind == 1) = true := by simpa using t1
          clear t1
          go_wp2_with fail
          have hP4 := HP4.out; have hbo := HBO.out
          have c5 := hbo.drew.cell 1
          have c6 := hbo.drew.cell 2
          simp only [List.getElem?_toArray, List.getElem?_cons_zero, List.getElem?_cons_succ] at c5 c6
          have HS0 := Lib.hid (And.intro c5 c6)
          have HBD := Lib.hid hbo.drew
          have hc := pw_add x.id x.at_ (hP4.below (Below.refl _ _).drew) hid
          obtain ⟨v, hv⟩ : ∃ v, v = addE M x.id x.at_ := ⟨_, rfl⟩
          obtain ⟨M', hM'⟩ : ∃ M', M' = addL M x.id x.at_ := ⟨_, rfl⟩
          rw [← hv, ← hM'] at hc
          have hprA : ∀ w5, PW w g r M' M w5 → Calls Try.prog 16 #[.pointer (some ⟨r, 0, none⟩), .int .i64 x.id, .int .i64 x.at_] w5 fun e w' => PrOut w g r M' M' (.int .i64 v) w5 e w' := fun w5 h5 => by
            have := pr_add x.id x.at_ h5 HOK.out
            rw [← hv, ← hM'] at this
            exact this
          have HPR := Lib.hid hprA
          have HC := Lib.hid hc
          clear hc hv hM' hprA
          clear hP4 hbo c5 c6 HP4 HBO
          go_region_held3 (fun W => W.cell? ⟨X, 1, none⟩ = some (Value.int .i64 x.id) ∧ W.cell? ⟨X, 2, none⟩ = some (Value.int .i64 x.at_)) (first | with_reducible exact HS0.out | with_reducible exact HS5.out | with_reducible exact HS6.out | with_reducible exact HS7.out | fail)
            (first
            | (go_at_call 10; refine HC.out.mono ?_; rintro e w5 ⟨rfl, hp5, hs5⟩;
               have hb5 := hs5.blk HBD.out (by decide) (by decide);
               have c7 := hb5.cell 1; have c8 := hb5.cell 2;
               simp only [List.getElem?_toArray, List.getElem?_cons_zero, List.getElem?_cons_succ] at c7 c8;
               have HS5 := Lib.hid (And.intro c7 c8); have HB5 := Lib.hid hb5; have HP5 := Lib.hid hp5;
               have HC5 := Lib.hid (HPR.out _ hp5);
               clear c7 c8 hb5 hp5 hs5)
            | (go_at_call 16; refine HC5.out.mono ?_; rintro e w6 ⟨rfl, hp6, hs6⟩;
               have hb6 := blk_only HP5.out.ref HB5.out (by decide) hs6;
               have c9 := hb6.cell 1; have c10 := hb6.cell 2;
               simp only [List.getElem?_toArray, List.getElem?_cons_zero, List.getElem?_cons_succ] at c9 c10;
               have HS6 := Lib.hid (And.intro c9 c10); have HP6 := Lib.hid hp6;
               clear c9 c10 hb6 hp6 hs6))
          all_goals
            clear HS0 HS5 HS6 HC HC5 HPR HBD HB5 HP5
            have HVV := Lib.hid (show (v != v) = false by simp)
            have hvv := HVV.out
            go_wp2_with fail
            go_meet
            exact ⟨g, M', rfl, HP6.out⟩
        have t1' : (x.kind == 1) = false := by simpa using t1
        clear t1
        by_cases t2 : x.kind = 2
        · have t2' : (x.kind == 2) = true := by simpa using t2
          clear t2
          go_wp2_with fail
          have hP4 := HP4.out; have hbo := HBO.out
          have c5 := hbo.drew.cell 1
          have c6 := hbo.drew.cell 2
          simp only [List.getElem?_toArray, List.getElem?_cons_zero, List.getElem?_cons_succ] at c5 c6
          have HS0 := Lib.hid (And.intro c5 c6)
          have HBD := Lib.hid hbo.drew
          have hc := pw_drop x.id (hP4.below (Below.refl _ _).drew)
          obtain ⟨v, hv⟩ : ∃ v, v = hasW M x.id := ⟨_, rfl⟩
          obtain ⟨M', hM'⟩ : ∃ M', M' = dropL M x.id := ⟨_, rfl⟩
          rw [← hv, ← hM'] at hc
          have hprA : ∀ w5, PW w g r M' M w5 → Calls Try.prog 17 #[.pointer (some ⟨r, 0, none⟩), .int .i64 x.id] w5 fun e w' => PrOut w g r M' M' (.bool v) w5 e w' := fun w5 h5 => by
            have := pr_drop x.id h5 HOK.out
            rw [← hv, ← hM'] at this
            exact this
          have HPR := Lib.hid hprA
          have HC := Lib.hid hc
          clear hc hv hM' hprA
          clear hP4 hbo c5 c6 HP4 HBO
          go_region_held3 (fun W => W.cell? ⟨X, 1, none⟩ = some (Value.int .i64 x.id) ∧ W.cell? ⟨X, 2, none⟩ = some (Value.int .i64 x.at_)) (first | with_reducible exact HS0.out | with_reducible exact HS5.out | with_reducible exact HS6.out | with_reducible exact HS7.out | fail)
            (first
            | (go_at_call 15; refine HC.out.mono ?_; rintro e w5 ⟨rfl, hp5, hs5⟩;
               have hb5 := hs5.blk HBD.out (by decide) (by decide);
               have c7 := hb5.cell 1; have c8 := hb5.cell 2;
               simp only [List.getElem?_toArray, List.getElem?_cons_zero, List.getElem?_cons_succ] at c7 c8;
               have HS5 := Lib.hid (And.intro c7 c8); have HB5 := Lib.hid hb5; have HP5 := Lib.hid hp5;
               have HC5 := Lib.hid (HPR.out _ hp5);
               clear c7 c8 hb5 hp5 hs5)
            | (go_at_call 17; refine HC5.out.mono ?_; rintro e w6 ⟨rfl, hp6, hs6⟩;
               have hb6 := blk_only HP5.out.ref HB5.out (by decide) hs6;
               have c9 := hb6.cell 1; have c10 := hb6.cell 2;
               simp only [List.getElem?_toArray, List.getElem?_cons_zero, List.getElem?_cons_succ] at c9 c10;
               have HS6 := Lib.hid (And.intro c9 c10); have HP6 := Lib.hid hp6;
               clear c9 c10 hb6 hp6 hs6))
          all_goals
            clear HS0 HS5 HS6 HC HC5 HPR HBD HB5 HP5
            have HVV := Lib.hid (show (v != v) = false by simp)
            have hvv := HVV.out
            go_wp2_with fail
            go_meet
            exact ⟨g, M', rfl, HP6.out⟩
        have t2' : (x.kind == 2) = false := by simpa using t2
        clear t2
        by_cases t3 : x.kind = 3
        · have t3' : (x.kind == 3) = true := by simpa using t3
          clear t3
          go_wp2_with fail
          have hP4 := HP4.out; have hbo := HBO.out
          have c5 := hbo.drew.cell 1
          have c6 := hbo.drew.cell 2
          simp only [List.getElem?_toArray, List.getElem?_cons_zero, List.getElem?_cons_succ] at c5 c6
          have HS0 := Lib.hid (And.intro c5 c6)
          have HBD := Lib.hid hbo.drew
          have hc := pw_due x.at_ (hP4.below (Below.refl _ _).drew)
          obtain ⟨O, hO⟩ : ∃ O, O = dueO M x.at_ := ⟨_, rfl⟩
          obtain ⟨M', hM'⟩ : ∃ M', M' = dueL M x.at_ := ⟨_, rfl⟩
          have hol : O.length ≤ 140737488351232 := by
            rw [hO]
            unfold dueO
            rw [List.length_map]
            exact Nat.le_trans (List.takeWhile_sublist _).length_le (Nat.le_trans HOK.out.len (by decide))
          have hc2 : Calls Try.prog 11 #[.pointer (some ⟨g, 0, none⟩), .int .i64 x.at_] W0.drew fun e w' => PlayDue w g r M' M O W0.drew e w' := hc.mono fun e w' ⟨sv, he, hi, hp, hs⟩ => ⟨sv, he, by rw [hO]; exact hi, by rw [hM']; exact hp, hs⟩
          have hprA : ∀ w5, PW w g r M' M w5 → Calls Try.prog 18 #[.pointer (some ⟨r, 0, none⟩), .int .i64 x.at_] w5 fun e w' => PlayRDue w g r M' O w5 e w' := fun w5 h5 => (pr_due x.at_ h5 HOK.out).mono fun e w' ⟨sv, he, hi, hp, hs⟩ => ⟨sv, he, by rw [hO]; exact hi, by rw [hM']; rw [hM'] at hp; exact hp, hs⟩
          have HPR := Lib.hid hprA
          have HC := Lib.hid hc2
          clear hc hc2 hO hM' hprA
          clear hP4 hbo c5 c6 HP4 HBO
          go_region_held3 (fun W => W.cell? ⟨X, 1, none⟩ = some (Value.int .i64 x.id) ∧ W.cell? ⟨X, 2, none⟩ = some (Value.int .i64 x.at_)) (first | with_reducible exact HS0.out | with_reducible exact HS5.out | with_reducible exact HS6.out | with_reducible exact HS7.out | fail)
            (first
            | (go_at_call 11; refine HC.out.mono ?_; rintro e w5 ⟨sa, rfl, hia, hp5, hs5⟩; obtain ⟨Aa, ca, rfl⟩ := hia.form;
               have hb5 := hs5.blk HBD.out (by decide) (by decide);
               have c7 := hb5.cell 1; have c8 := hb5.cell 2;
               simp only [List.getElem?_toArray, List.getElem?_cons_zero, List.getElem?_cons_succ] at c7 c8;
               have HS5 := Lib.hid (And.intro c7 c8); have HB5 := Lib.hid hb5; have HP5 := Lib.hid hp5;
               have HIA := Lib.hid hia; have HC5 := Lib.hid (HPR.out _ hp5);
               clear c7 c8 hb5 hp5 hs5 hia)
            | (go_at_call 18; refine HC5.out.mono ?_; rintro e w6 ⟨sb, rfl, hib, hp6, hs6⟩; obtain ⟨Ab, cb, rfl⟩ := hib.form;
               have hb6 := blk_only HP5.out.ref HB5.out (by decide) hs6;
               have c9 := hb6.cell 1; have c10 := hb6.cell 2;
               simp only [List.getElem?_toArray, List.getElem?_cons_zero, List.getElem?_cons_succ] at c9 c10;
               have HS6 := Lib.hid (And.intro c9 c10); have HP6 := Lib.hid hp6;
               have HB6 := Lib.hid hb6; have HSA := Lib.hid (same_refl Aa Ab O ca cb w6 (ints_only HP5.out.ref HIA.out hs6).rdOf hib.rdOf hol);
               clear c9 c10 hb6 hp6 hs6 hib)
            | (go_at_call 14; refine HSA.out.mono ?_; rintro e w7 ⟨rfl, hd7⟩;
               have hbl7 := drew_below hd7;
               have hb7 := HB6.out.below hbl7 HB6.out.lt;
               have c11 := hb7.cell 1; have c12 := hb7.cell 2;
               simp only [List.getElem?_toArray, List.getElem?_cons_zero, List.getElem?_cons_succ] at c11 c12;
               have HS7 := Lib.hid (And.intro c11 c12); have HP7 := Lib.hid (HP6.out.below hbl7);
               clear c11 c12 hb7 hbl7 hd7))
          all_goals
            clear HS0 HS5 HS6 HS7 HC HC5 HPR HBD HB5 HP5 HIA HSA
            go_wp2_with fail
            go_meet
            exact ⟨g, M', rfl, HP7.out⟩
        have t3' : (x.kind == 3) = false := by simpa using t3
        clear t3
        go_wp2_with fail
        refine (pw_copy HP4.out).mono ?_
        rintro e w5 ⟨c, rfl, ht, hrf, hzr, hb5⟩
        have HT := Lib.hid ht; have HRF := Lib.hid hrf
        clear ht hrf hb5 HP4 HBO
        go_wp2_with fail
        refine (two_add w g c M M 1125899906842624 0 _ HT.out (by decide)).mono ?_
        rintro e w6 ⟨rfl, ht, hs⟩
        have HT6 := Lib.hid ht; have HRF6 := Lib.hid (HRF.out.step hs)
        clear ht hs HT HRF
        go_wp2_with fail
        refine (two_due w g c _ M 2199023255552 _ HT6.out).mono ?_
        rintro e w7 ⟨sv, rfl, hi, ht, hs⟩
        have HT7 := Lib.hid ht.swap; have HRF7 := Lib.hid (HRF6.out.step hs)
        clear ht hs hi HT6 HRF6
        go_wp2_with fail
        go_meet
        exact ⟨c, M, rfl, pw_of_two HT7.out HRF7.out hzr⟩
      case rest =>
        clear HP4 HBO hid HOK
        obtain ⟨g, M, rfl, hpx⟩ := hcut
        have HP6 := Lib.hid hpx
        clear hpx
        have HOK6 := Lib.hid HP6.out.ok
        obtain ⟨sv, hb, hp⟩ := HP6.out.ref
        have hpd := hp.below (Below.refl _ _).drew
        obtain ⟨A6, k6, rfl⟩ := hp.form
        obtain ⟨A6', k6', e6, hrd6⟩ := hpd.rd
        have hA6 : A6 = A6' := by injection e6
        subst hA6
        have hk6 : k6 = k6' := by injection e6
        subst hk6
        clear e6
        have hrlt := hb.lt
        have hML := HP6.out.ok.len
        have HWT := Lib.hid (pw_waits (HP6.out.below (Below.refl _ _).drew))
        have HRD := Lib.hid hrd6
        have hcr := hb.drew.cell 0
        simp only [List.getElem?_toArray, List.getElem?_cons_zero] at hcr
        rcases M with _ | ⟨y, M2⟩
        · have HT0 := Lib.hid (show wc.drew.cell? ⟨r, 0, none⟩ = some (Value.slice A6 0 k6) from hcr)
          have HNX := Lib.hid (show Calls Try.prog 20 #[.pointer (some ⟨g, 0, none⟩)] wc fun e w' => e = .returned (.tuple #[.int .i64 0, .bool false]) ∧ wc = w' from (pw_next HP6.out).mono fun e w' h => h)
          clear hcr hb hp hpd hrd6
          go_wp2_with fail
          refine HNX.out.mono ?_
          rintro e wn ⟨rfl, rfl⟩
          clear HNX
          go_wp2_with fail
          refine wp_region_held_drew (S := (fun W => W.cell? ⟨r, 0, none⟩ = some (Value.slice A6 0 k6))) (by kernel_rfl) (HT0.out) (fun hHeld => ?_)
          refine held_take (i := 0) (d := some 79) (v := ?_) rfl rfl (by kernel_rfl) (by kernel_rfl) (by kernel_rfl) (fun _ _ _ h => h) (by rfl) ?_ hHeld ?_
          rotate_left
          · (intro w hSw; (try dsimp only at hSw); go_simp; try with_reducible rfl)
          try simp only [Act.put, List.setIfInBounds_toArray, List.set_cons_zero, List.set_cons_succ]
          refine held_take (i := 2) (d := some 81) (v := ?_) rfl rfl (by kernel_rfl) (by kernel_rfl) (by kernel_rfl) (fun _ _ _ h => h) (by rfl) ?_ hHeld ?_
          rotate_left
          · (intro w hSw; (try dsimp only at hSw); go_simp; try with_reducible rfl)
          try simp only [Act.put, List.setIfInBounds_toArray, List.set_cons_zero, List.set_cons_succ]
          refine held_take (i := 3) (d := some 82) (v := ?_) rfl rfl (by kernel_rfl) (by kernel_rfl) (by kernel_rfl) (fun _ _ _ h => h) (by rfl) ?_ hHeld ?_
          rotate_left
          · (intro w hSw; (try dsimp only at hSw); go_simp; try with_reducible rfl)
          try simp only [Act.put, List.setIfInBounds_toArray, List.set_cons_zero, List.set_cons_succ]
          refine held_take (i := 4) (d := some 83) (v := ?_) rfl rfl (by kernel_rfl) (by kernel_rfl) (by kernel_rfl) (fun _ _ _ h => h) (by rfl) ?_ hHeld ?_
          rotate_left
          · (intro w hSw; (try dsimp only at hSw); go_simp; try with_reducible rfl)
          try simp only [Act.put, List.setIfInBounds_toArray, List.set_cons_zero, List.set_cons_succ]
          refine held_take (i := 5) (d := some 84) (v := ?_) rfl rfl (by kernel_rfl) (by kernel_rfl) (by kernel_rfl) (fun _ _ _ h => h) (by rfl) ?_ hHeld ?_
          rotate_left
          · (intro w hSw; (try dsimp only at hSw); go_simp; try with_reducible rfl)
          try simp only [Act.put, List.setIfInBounds_toArray, List.set_cons_zero, List.set_cons_succ]
          refine held_only (i := 1) (by kernel_rfl) rfl (by rfl) (fun K hK => ?_)
          go_simp
          go_at_call 12
          refine HWT.out.mono ?_
          rintro e w8 ⟨sv8, rfl, hp8, hpw8, hb8⟩
          obtain ⟨A8, k8, rfl, hrd8⟩ := hp8.rd
          have hc8 := (hb8.cell (p := ⟨r, 0, none⟩) hrlt).trans HT0.out
          have HT1 := Lib.hid hc8; have HPW8 := Lib.hid hpw8
          have hl8 := hb8.size
          have hsm := same_pairs_refl A8 A6 [] k8 k6 w8 hrd8 (HRD.out.below hb8) (Nat.le_trans hML (by decide))
          have HSM := Lib.hid hsm
          have hr8 : r < w8.heap.size := Nat.lt_of_lt_of_le hrlt hl8
          clear hp8 hpw8 hb8 hc8 hrd8 hsm
          refine hK.out _ _ ?_ (fun hHeld => ?_)
          · exact HT1.out
          clear hK K
          try simp only [Act.put, List.setIfInBounds_toArray, List.set_cons_zero, List.set_cons_succ]
          refine held_only (i := 6) (by kernel_rfl) rfl (by rfl) (fun K hK => ?_)
          go_simp
          go_at_call 13
          refine HSM.out.mono ?_
          rintro e w9 ⟨rfl, hd9⟩
          have hb9 := drew_below hd9
          have hc9 := (hb9.cell (p := ⟨r, 0, none⟩) hr8).trans HT1.out
          have HT2 := Lib.hid hc9; have HPW9 := Lib.hid (HPW8.out.below hb9)
          clear hb9 hc9 hd9
          refine hK.out _ _ ?_ (fun hHeld => ?_)
          · exact HT2.out
          clear hK K
          try simp only [Act.put, List.setIfInBounds_toArray, List.set_cons_zero, List.set_cons_succ]
          refine held_take (i := 7) (d := some 86) (v := ?_) rfl rfl (by kernel_rfl) (by kernel_rfl) (by kernel_rfl) (fun _ _ _ h => h) (by rfl) ?_ hHeld ?_
          rotate_left
          · (intro w hSw; (try dsimp only at hSw); go_simp; try with_reducible rfl)
          try simp only [Act.put, List.setIfInBounds_toArray, List.set_cons_zero, List.set_cons_succ]
          refine held_take (i := 8) (d := some 87) (v := ?_) rfl rfl (by kernel_rfl) (by kernel_rfl) (by kernel_rfl) (fun _ _ _ h => h) (by rfl) ?_ hHeld ?_
          rotate_left
          · (intro w hSw; (try dsimp only at hSw); go_simp; try with_reducible rfl)
          try simp only [Act.put, List.setIfInBounds_toArray, List.set_cons_zero, List.set_cons_succ]
          refine held_take (i := 9) (d := some 88) (v := ?_) rfl rfl (by kernel_rfl) (by kernel_rfl) (by kernel_rfl) (fun _ _ _ h => h) (by rfl) ?_ hHeld ?_
          rotate_left
          · (intro w hSw; (try dsimp only at hSw); go_simp; try with_reducible rfl)
          try simp only [Act.put, List.setIfInBounds_toArray, List.set_cons_zero, List.set_cons_succ]
          refine held_take (i := 10) (d := some 89) (v := ?_) rfl rfl (by kernel_rfl) (by kernel_rfl) (by kernel_rfl) (fun _ _ _ h => h) (by rfl) ?_ hHeld ?_
          rotate_left
          · (intro w hSw; (try dsimp only at hSw); go_simp; try with_reducible rfl)
          try simp only [Act.put, List.setIfInBounds_toArray, List.set_cons_zero, List.set_cons_succ]
          refine held_take (i := 11) (d := some 90) (v := ?_) rfl rfl (by kernel_rfl) (by kernel_rfl) (by kernel_rfl) (fun _ _ _ h => h) (by rfl) ?_ hHeld ?_
          rotate_left
          · (intro w hSw; (try dsimp only at hSw); go_simp; try with_reducible rfl)
          try simp only [Act.put, List.setIfInBounds_toArray, List.set_cons_zero, List.set_cons_succ]
          refine held_take (i := 12) (d := some 91) (v := ?_) rfl rfl (by kernel_rfl) (by kernel_rfl) (by kernel_rfl) (fun _ _ _ h => h) (by rfl) ?_ hHeld ?_
          rotate_left
          · (intro w hSw; (try dsimp only at hSw); go_simp; try with_reducible rfl)
          try simp only [Act.put, List.setIfInBounds_toArray, List.set_cons_zero, List.set_cons_succ]
          refine held_take (i := 13) (d := some 92) (v := ?_) rfl rfl (by kernel_rfl) (by kernel_rfl) (by kernel_rfl) (fun _ _ _ h => h) (by rfl) ?_ hHeld ?_
          rotate_left
          · (intro w hSw; (try dsimp only at hSw); go_simp; try with_reducible rfl)
          try simp only [Act.put, List.setIfInBounds_toArray, List.set_cons_zero, List.set_cons_succ]
          refine held_take (i := 14) (d := some 93) (v := ?_) rfl rfl (by kernel_rfl) (by kernel_rfl) (by kernel_rfl) (fun _ _ _ h => h) (by rfl) ?_ hHeld ?_
          rotate_left
          · (intro w hSw; (try dsimp only at hSw); go_simp; try with_reducible rfl)
          try simp only [Act.put, List.setIfInBounds_toArray, List.set_cons_zero, List.set_cons_succ]
          refine held_take (i := 15) (d := some 94) (v := ?_) rfl rfl (by kernel_rfl) (by kernel_rfl) (by kernel_rfl) (fun _ _ _ h => h) (by rfl) ?_ hHeld ?_
          rotate_left
          · (intro w hSw; (try dsimp only at hSw); go_simp; try with_reducible rfl)
          try simp only [Act.put, List.setIfInBounds_toArray, List.set_cons_zero, List.set_cons_succ]
          refine held_take (i := 16) (d := some 95) (v := ?_) rfl rfl (by kernel_rfl) (by kernel_rfl) (by kernel_rfl) (fun _ _ _ h => h) (by rfl) ?_ hHeld ?_
          rotate_left
          · (intro w hSw; (try dsimp only at hSw); go_simp; try with_reducible rfl)
          try simp only [Act.put, List.setIfInBounds_toArray, List.set_cons_zero, List.set_cons_succ]
          refine held_take (i := 17) (d := some 96) (v := ?_) rfl rfl (by kernel_rfl) (by kernel_rfl) (by kernel_rfl) (fun _ _ _ h => h) (by rfl) ?_ hHeld ?_
          rotate_left
          · (intro w hSw; (try dsimp only at hSw); go_simp; try with_reducible rfl)
          try simp only [Act.put, List.setIfInBounds_toArray, List.set_cons_zero, List.set_cons_succ]
          refine held_take (i := 18) (d := some 97) (v := ?_) rfl rfl (by kernel_rfl) (by kernel_rfl) (by kernel_rfl) (fun _ _ _ h => h) (by rfl) ?_ hHeld ?_
          rotate_left
          · (intro w hSw; (try dsimp only at hSw); go_simp; try with_reducible rfl)
          try simp only [Act.put, List.setIfInBounds_toArray, List.set_cons_zero, List.set_cons_succ]
          refine held_take (i := 19) (d := some 98) (v := ?_) rfl rfl (by kernel_rfl) (by kernel_rfl) (by kernel_rfl) (fun _ _ _ h => h) (by rfl) ?_ hHeld ?_
          rotate_left
          · (intro w hSw; (try dsimp only at hSw); go_simp; try with_reducible rfl)
          try simp only [Act.put, List.setIfInBounds_toArray, List.set_cons_zero, List.set_cons_succ]
          refine held_take (i := 20) (d := some 99) (v := ?_) rfl rfl (by kernel_rfl) (by kernel_rfl) (by kernel_rfl) (fun _ _ _ h => h) (by rfl) ?_ hHeld ?_
          rotate_left
          · (intro w hSw; (try dsimp only at hSw); go_simp; try with_reducible rfl)
          try simp only [Act.put, List.setIfInBounds_toArray, List.set_cons_zero, List.set_cons_succ]
          refine held_skip (i := 21) (d := some 100) rfl rfl (by kernel_rfl) (by kernel_rfl) (by kernel_rfl) (fun _ _ _ h => h) (by rfl) hHeld ?_
          try simp only [Act.put, List.setIfInBounds_toArray, List.set_cons_zero, List.set_cons_succ]
          refine held_skip (i := 22) (d := some 101) rfl rfl (by kernel_rfl) (by kernel_rfl) (by kernel_rfl) (fun _ _ _ h => h) (by rfl) hHeld ?_
          try simp only [Act.put, List.setIfInBounds_toArray, List.set_cons_zero, List.set_cons_succ]
          refine held_skip (i := 23) (d := some 102) rfl rfl (by kernel_rfl) (by kernel_rfl) (by kernel_rfl) (fun _ _ _ h => h) (by rfl) hHeld ?_
          try simp only [Act.put, List.setIfInBounds_toArray, List.set_cons_zero, List.set_cons_succ]
          refine held_skip (i := 24) (d := some 103) rfl rfl (by kernel_rfl) (by kernel_rfl) (by kernel_rfl) (fun _ _ _ h => h) (by rfl) hHeld ?_
          try simp only [Act.put, List.setIfInBounds_toArray, List.set_cons_zero, List.set_cons_succ]
          refine held_skip (i := 25) (d := some 104) rfl rfl (by kernel_rfl) (by kernel_rfl) (by kernel_rfl) (fun _ _ _ h => h) (by rfl) hHeld ?_
          try simp only [Act.put, List.setIfInBounds_toArray, List.set_cons_zero, List.set_cons_succ]
          refine held_skip (i := 26) (d := some 105) rfl rfl (by kernel_rfl) (by kernel_rfl) (by kernel_rfl) (fun _ _ _ h => h) (by rfl) hHeld ?_
          try simp only [Act.put, List.setIfInBounds_toArray, List.set_cons_zero, List.set_cons_succ]
          refine held_skip (i := 27) (d := some 106) rfl rfl (by kernel_rfl) (by kernel_rfl) (by kernel_rfl) (fun _ _ _ h => h) (by rfl) hHeld ?_
          try simp only [Act.put, List.setIfInBounds_toArray, List.set_cons_zero, List.set_cons_succ]
          refine held_skip (i := 28) (d := some 107) rfl rfl (by kernel_rfl) (by kernel_rfl) (by kernel_rfl) (fun _ _ _ h => h) (by rfl) hHeld ?_
          try simp only [Act.put, List.setIfInBounds_toArray, List.set_cons_zero, List.set_cons_succ]
          refine held_skip (i := 29) (d := some 108) rfl rfl (by kernel_rfl) (by kernel_rfl) (by kernel_rfl) (fun _ _ _ h => h) (by rfl) hHeld ?_
          try simp only [Act.put, List.setIfInBounds_toArray, List.set_cons_zero, List.set_cons_succ]
          refine held_take (i := 30) (d := some 109) (v := ?_) rfl rfl (by kernel_rfl) (by kernel_rfl) (by kernel_rfl) (fun _ _ _ h => h) (by rfl) ?_ hHeld ?_
          rotate_left
          · (intro w hSw; (try dsimp only at hSw); go_simp; try with_reducible rfl)
          try simp only [Act.put, List.setIfInBounds_toArray, List.set_cons_zero, List.set_cons_succ]
          refine held_take (i := 31) (d := some 110) (v := ?_) rfl rfl (by kernel_rfl) (by kernel_rfl) (by kernel_rfl) (fun _ _ _ h => h) (by rfl) ?_ hHeld ?_
          rotate_left
          · (intro w hSw; (try dsimp only at hSw); go_simp; try with_reducible rfl)
          try simp only [Act.put, List.setIfInBounds_toArray, List.set_cons_zero, List.set_cons_succ]
          refine held_take (i := 32) (d := some 111) (v := ?_) rfl rfl (by kernel_rfl) (by kernel_rfl) (by kernel_rfl) (fun _ _ _ h => h) (by rfl) ?_ hHeld ?_
          rotate_left
          · (intro w hSw; (try dsimp only at hSw); go_simp; try with_reducible rfl)
          try simp only [Act.put, List.setIfInBounds_toArray, List.set_cons_zero, List.set_cons_succ]
          refine held_take (i := 33) (d := some 112) (v := ?_) rfl rfl (by kernel_rfl) (by kernel_rfl) (by kernel_rfl) (fun _ _ _ h => h) (by rfl) ?_ hHeld ?_
          rotate_left
          · (intro w hSw; (try dsimp only at hSw); go_simp; try with_reducible rfl)
          try simp only [Act.put, List.setIfInBounds_toArray, List.set_cons_zero, List.set_cons_succ]
          refine held_take (i := 34) (d := some 113) (v := ?_) rfl rfl (by kernel_rfl) (by kernel_rfl) (by kernel_rfl) (fun _ _ _ h => h) (by rfl) ?_ hHeld ?_
          rotate_left
          · (intro w hSw; (try dsimp only at hSw); go_simp; try with_reducible rfl)
          try simp only [Act.put, List.setIfInBounds_toArray, List.set_cons_zero, List.set_cons_succ]
          refine held_take (i := 35) (d := some 114) (v := ?_) rfl rfl (by kernel_rfl) (by kernel_rfl) (by kernel_rfl) (fun _ _ _ h => h) (by rfl) ?_ hHeld ?_
          rotate_left
          · (intro w hSw; (try dsimp only at hSw); go_simp; try with_reducible rfl)
          try simp only [Act.put, List.setIfInBounds_toArray, List.set_cons_zero, List.set_cons_succ]
          refine held_take (i := 36) (d := some 115) (v := ?_) rfl rfl (by kernel_rfl) (by kernel_rfl) (by kernel_rfl) (fun _ _ _ h => h) (by rfl) ?_ hHeld ?_
          rotate_left
          · (intro w hSw; (try dsimp only at hSw); go_simp; try with_reducible rfl)
          try simp only [Act.put, List.setIfInBounds_toArray, List.set_cons_zero, List.set_cons_succ]
          refine held_take (i := 37) (d := some 116) (v := ?_) rfl rfl (by kernel_rfl) (by kernel_rfl) (by kernel_rfl) (fun _ _ _ h => h) (by rfl) ?_ hHeld ?_
          rotate_left
          · (intro w hSw; (try dsimp only at hSw); go_simp; try with_reducible rfl)
          try simp only [Act.put, List.setIfInBounds_toArray, List.set_cons_zero, List.set_cons_succ]
          refine held_take (i := 38) (d := some 117) (v := ?_) rfl rfl (by kernel_rfl) (by kernel_rfl) (by kernel_rfl) (fun _ _ _ h => h) (by rfl) ?_ hHeld ?_
          rotate_left
          · (intro w hSw; (try dsimp only at hSw); go_simp; try with_reducible rfl)
          try simp only [Act.put, List.setIfInBounds_toArray, List.set_cons_zero, List.set_cons_succ]
          refine held_take (i := 39) (d := some 118) (v := ?_) rfl rfl (by kernel_rfl) (by kernel_rfl) (by kernel_rfl) (fun _ _ _ h => h) (by rfl) ?_ hHeld ?_
          rotate_left
          · (intro w hSw; (try dsimp only at hSw); go_simp; try with_reducible rfl)
          try simp only [Act.put, List.setIfInBounds_toArray, List.set_cons_zero, List.set_cons_succ]
          refine wpAnyH_done (by kernel_rfl) ?_ _
          clear hHeld HT0 HT1 HT2 HSM HRD HWT
          go_wp2_with fail
          go_wp2
          exact ⟨⟨k + 1, g, _, by omega, by go_num, rfl, HPW9.out⟩, by simp [intOf]; omega⟩
        · obtain ⟨bq, oq, rfl, hbq, hq0, hq1⟩ := hrd6 0 (by simp)
          simp only [Nat.zero_mul, Nat.add_zero] at hq1
          obtain ⟨at_, hat⟩ : ∃ t, t = y.2 := ⟨_, rfl⟩
          have hq2 : wc.drew.cell? ⟨bq, oq + 1, none⟩ = some (Value.int .i64 at_) := by rw [hat]; exact hq1
          obtain ⟨m, hm⟩ : ∃ m : Nat, m = M2.length + 1 := ⟨_, rfl⟩
          have HT0 := Lib.hid (show wc.drew.cell? ⟨r, 0, none⟩ = some (Value.slice (some ⟨bq, oq, none⟩) m k6) ∧ wc.drew.cell? ⟨bq, oq + 1, none⟩ = some (Value.int .i64 at_) from ⟨by rw [hm]; exact hcr, hq2⟩)
          have HNX := Lib.hid (show Calls Try.prog 20 #[.pointer (some ⟨g, 0, none⟩)] wc fun e w' => e = .returned (.tuple #[.int .i64 at_, .bool true]) ∧ wc = w' from (pw_next HP6.out).mono fun e w' h => by rw [hat]; exact h)
          have hm2 : 0 < m := by omega
          have hmd : decide (0 < m) = true := decide_eq_true hm2
          have hm0 : (0 : Int) < (m : Int) := by omega
          have HMM := Lib.hid hm
          have HAT := Lib.hid hat
          clear hm hat hq0 hq1 hq2
          clear hcr hb hp hpd
          go_wp2_with fail
          refine HNX.out.mono ?_
          rintro e wn ⟨rfl, rfl⟩
          clear HNX
          go_wp2_with fail
          refine wp_region_held_drew (S := (fun W => W.cell? ⟨r, 0, none⟩ = some (Value.slice (some ⟨bq, oq, none⟩) m k6) ∧ W.cell? ⟨bq, oq + 1, none⟩ = some (Value.int .i64 at_))) (by kernel_rfl) (HT0.out) (fun hHeld => ?_)
          refine held_take (i := 0) (d := some 79) (v := ?_) rfl rfl (by kernel_rfl) (by kernel_rfl) (by kernel_rfl) (fun _ _ _ h => h) (by rfl) ?_ hHeld ?_
          rotate_left
          · (intro w hSw; (try dsimp only at hSw); go_simp; try with_reducible rfl)
          try simp only [Act.put, List.setIfInBounds_toArray, List.set_cons_zero, List.set_cons_succ]
          refine held_take (i := 2) (d := some 81) (v := ?_) rfl rfl (by kernel_rfl) (by kernel_rfl) (by kernel_rfl) (fun _ _ _ h => h) (by rfl) ?_ hHeld ?_
          rotate_left
          · (intro w hSw; (try dsimp only at hSw); go_simp; try with_reducible rfl)
          try simp only [Act.put, List.setIfInBounds_toArray, List.set_cons_zero, List.set_cons_succ]
          refine held_take (i := 3) (d := some 82) (v := ?_) rfl rfl (by kernel_rfl) (by kernel_rfl) (by kernel_rfl) (fun _ _ _ h => h) (by rfl) ?_ hHeld ?_
          rotate_left
          · (intro w hSw; (try dsimp only at hSw); go_simp; try with_reducible rfl)
          try simp only [Act.put, List.setIfInBounds_toArray, List.set_cons_zero, List.set_cons_succ]
          refine held_take (i := 4) (d := some 83) (v := ?_) rfl rfl (by kernel_rfl) (by kernel_rfl) (by kernel_rfl) (fun _ _ _ h => h) (by rfl) ?_ hHeld ?_
          rotate_left
          · (intro w hSw; (try dsimp only at hSw); go_simp; try with_reducible rfl)
          try simp only [Act.put, List.setIfInBounds_toArray, List.set_cons_zero, List.set_cons_succ]
          refine held_take (i := 5) (d := some 84) (v := ?_) rfl rfl (by kernel_rfl) (by kernel_rfl) (by kernel_rfl) (fun _ _ _ h => h) (by rfl) ?_ hHeld ?_
          rotate_left
          · (intro w hSw; (try dsimp only at hSw); go_simp; try with_reducible rfl)
          try simp only [Act.put, List.setIfInBounds_toArray, List.set_cons_zero, List.set_cons_succ]
          refine held_only (i := 1) (by kernel_rfl) rfl (by rfl) (fun K hK => ?_)
          go_simp
          go_at_call 12
          refine HWT.out.mono ?_
          rintro e w8 ⟨sv8, rfl, hp8, hpw8, hb8⟩
          obtain ⟨A8, k8, rfl, hrd8⟩ := hp8.rd
          have hc8 := And.intro ((hb8.cell (p := ⟨r, 0, none⟩) hrlt).trans HT0.out.1) ((hb8.cell (p := ⟨bq, oq + 1, none⟩) hbq).trans HT0.out.2)
          have HT1 := Lib.hid hc8; have HPW8 := Lib.hid hpw8
          have hl8 := hb8.size
          have hsm := same_pairs_refl A8 (some ⟨bq, oq, none⟩) (y :: M2) k8 k6 w8 hrd8 (HRD.out.below hb8) (Nat.le_trans hML (by decide))
          simp only [List.length_cons] at hsm ⊢
          rw [← HMM.out] at hsm ⊢
          have hbq8 : bq < w8.heap.size := Nat.lt_of_lt_of_le hbq hl8
          have HSM := Lib.hid hsm
          have hr8 : r < w8.heap.size := Nat.lt_of_lt_of_le hrlt hl8
          clear hp8 hpw8 hb8 hc8 hrd8 hsm
          refine hK.out _ _ ?_ (fun hHeld => ?_)
          · exact HT1.out
          clear hK K
          try simp only [Act.put, List.setIfInBounds_toArray, List.set_cons_zero, List.set_cons_succ]
          refine held_only (i := 6) (by kernel_rfl) rfl (by rfl) (fun K hK => ?_)
          go_simp
          go_at_call 13
          refine HSM.out.mono ?_
          rintro e w9 ⟨rfl, hd9⟩
          have hb9 := drew_below hd9
          have hc9 := And.intro ((hb9.cell (p := ⟨r, 0, none⟩) hr8).trans HT1.out.1) ((hb9.cell (p := ⟨bq, oq + 1, none⟩) hbq8).trans HT1.out.2)
          have HT2 := Lib.hid hc9; have HPW9 := Lib.hid (HPW8.out.below hb9)
          clear hb9 hc9 hd9
          refine hK.out _ _ ?_ (fun hHeld => ?_)
          · exact HT2.out
          clear hK K
          try simp only [Act.put, List.setIfInBounds_toArray, List.set_cons_zero, List.set_cons_succ]
          refine held_take (i := 7) (d := some 86) (v := ?_) rfl rfl (by kernel_rfl) (by kernel_rfl) (by kernel_rfl) (fun _ _ _ h => h) (by rfl) ?_ hHeld ?_
          rotate_left
          · (intro w hSw; (try dsimp only at hSw); go_simp; try with_reducible rfl)
          try simp only [Act.put, List.setIfInBounds_toArray, List.set_cons_zero, List.set_cons_succ]
          refine held_take (i := 8) (d := some 87) (v := ?_) rfl rfl (by kernel_rfl) (by kernel_rfl) (by kernel_rfl) (fun _ _ _ h => h) (by rfl) ?_ hHeld ?_
          rotate_left
          · (intro w hSw; (try dsimp only at hSw); go_simp; try with_reducible rfl)
          try simp only [Act.put, List.setIfInBounds_toArray, List.set_cons_zero, List.set_cons_succ]
          refine held_take (i := 9) (d := some 88) (v := ?_) rfl rfl (by kernel_rfl) (by kernel_rfl) (by kernel_rfl) (fun _ _ _ h => h) (by rfl) ?_ hHeld ?_
          rotate_left
          · (intro w hSw; (try dsimp only at hSw); go_simp; try with_reducible rfl)
          try simp only [Act.put, List.setIfInBounds_toArray, List.set_cons_zero, List.set_cons_succ]
          refine held_take (i := 10) (d := some 89) (v := ?_) rfl rfl (by kernel_rfl) (by kernel_rfl) (by kernel_rfl) (fun _ _ _ h => h) (by rfl) ?_ hHeld ?_
          rotate_left
          · (intro w hSw; (try dsimp only at hSw); go_simp; try with_reducible rfl)
          try simp only [Act.put, List.setIfInBounds_toArray, List.set_cons_zero, List.set_cons_succ]
          refine held_take (i := 11) (d := some 90) (v := ?_) rfl rfl (by kernel_rfl) (by kernel_rfl) (by kernel_rfl) (fun _ _ _ h => h) (by rfl) ?_ hHeld ?_
          rotate_left
          · (intro w hSw; (try dsimp only at hSw); go_simp; try with_reducible rfl)
          try simp only [Act.put, List.setIfInBounds_toArray, List.set_cons_zero, List.set_cons_succ]
          refine held_take (i := 12) (d := some 91) (v := ?_) rfl rfl (by kernel_rfl) (by kernel_rfl) (by kernel_rfl) (fun _ _ _ h => h) (by rfl) ?_ hHeld ?_
          rotate_left
          · (intro w hSw; (try dsimp only at hSw); go_simp; try with_reducible rfl)
          try simp only [Act.put, List.setIfInBounds_toArray, List.set_cons_zero, List.set_cons_succ]
          refine held_take (i := 13) (d := some 92) (v := ?_) rfl rfl (by kernel_rfl) (by kernel_rfl) (by kernel_rfl) (fun _ _ _ h => h) (by rfl) ?_ hHeld ?_
          rotate_left
          · (intro w hSw; (try dsimp only at hSw); go_simp; try with_reducible rfl)
          try simp only [Act.put, List.setIfInBounds_toArray, List.set_cons_zero, List.set_cons_succ]
          refine held_take (i := 14) (d := some 93) (v := ?_) rfl rfl (by kernel_rfl) (by kernel_rfl) (by kernel_rfl) (fun _ _ _ h => h) (by rfl) ?_ hHeld ?_
          rotate_left
          · (intro w hSw; (try dsimp only at hSw); go_simp; try with_reducible rfl)
          try simp only [Act.put, List.setIfInBounds_toArray, List.set_cons_zero, List.set_cons_succ]
          refine held_take (i := 15) (d := some 94) (v := ?_) rfl rfl (by kernel_rfl) (by kernel_rfl) (by kernel_rfl) (fun _ _ _ h => h) (by rfl) ?_ hHeld ?_
          rotate_left
          · (intro w hSw; (try dsimp only at hSw); go_simp; try with_reducible rfl)
          try simp only [Act.put, List.setIfInBounds_toArray, List.set_cons_zero, List.set_cons_succ]
          refine held_take (i := 16) (d := some 95) (v := ?_) rfl rfl (by kernel_rfl) (by kernel_rfl) (by kernel_rfl) (fun _ _ _ h => h) (by rfl) ?_ hHeld ?_
          rotate_left
          · (intro w hSw; (try dsimp only at hSw); go_simp; try with_reducible rfl)
          try simp only [Act.put, List.setIfInBounds_toArray, List.set_cons_zero, List.set_cons_succ]
          refine held_take (i := 17) (d := some 96) (v := ?_) rfl rfl (by kernel_rfl) (by kernel_rfl) (by kernel_rfl) (fun _ _ _ h => h) (by rfl) ?_ hHeld ?_
          rotate_left
          · (intro w hSw; (try dsimp only at hSw); go_simp; try with_reducible rfl)
          try simp only [Act.put, List.setIfInBounds_toArray, List.set_cons_zero, List.set_cons_succ]
          refine held_take (i := 18) (d := some 97) (v := ?_) rfl rfl (by kernel_rfl) (by kernel_rfl) (by kernel_rfl) (fun _ _ _ h => h) (by rfl) ?_ hHeld ?_
          rotate_left
          · (intro w hSw; (try dsimp only at hSw); go_simp; try with_reducible rfl)
          try simp only [Act.put, List.setIfInBounds_toArray, List.set_cons_zero, List.set_cons_succ]
          refine held_take (i := 19) (d := some 98) (v := ?_) rfl rfl (by kernel_rfl) (by kernel_rfl) (by kernel_rfl) (fun _ _ _ h => h) (by rfl) ?_ hHeld ?_
          rotate_left
          · (intro w hSw; (try dsimp only at hSw); go_simp; try with_reducible rfl)
          try simp only [Act.put, List.setIfInBounds_toArray, List.set_cons_zero, List.set_cons_succ]
          refine held_take (i := 20) (d := some 99) (v := ?_) rfl rfl (by kernel_rfl) (by kernel_rfl) (by kernel_rfl) (fun _ _ _ h => h) (by rfl) ?_ hHeld ?_
          rotate_left
          · (intro w hSw; (try dsimp only at hSw); go_simp; try with_reducible rfl)
          try simp only [Act.put, List.setIfInBounds_toArray, List.set_cons_zero, List.set_cons_succ]
          refine held_take (i := 21) (d := some 100) (v := ?_) rfl rfl (by kernel_rfl) (by kernel_rfl) (by kernel_rfl) (fun _ _ _ h => h) (by rfl) ?_ hHeld ?_
          rotate_left
          · (intro w hSw; (try dsimp only at hSw); go_simp; try with_reducible rfl)
          try simp only [Act.put, List.setIfInBounds_toArray, List.set_cons_zero, List.set_cons_succ]
          refine held_take (i := 22) (d := some 101) (v := ?_) rfl rfl (by kernel_rfl) (by kernel_rfl) (by kernel_rfl) (fun _ _ _ h => h) (by rfl) ?_ hHeld ?_
          rotate_left
          · (intro w hSw; (try dsimp only at hSw); go_simp; try with_reducible rfl)
          try simp only [Act.put, List.setIfInBounds_toArray, List.set_cons_zero, List.set_cons_succ]
          refine held_take (i := 23) (d := some 102) (v := ?_) rfl rfl (by kernel_rfl) (by kernel_rfl) (by kernel_rfl) (fun _ _ _ h => h) (by rfl) ?_ hHeld ?_
          rotate_left
          · (intro w hSw; (try dsimp only at hSw); go_simp; try with_reducible rfl)
          try simp only [Act.put, List.setIfInBounds_toArray, List.set_cons_zero, List.set_cons_succ]
          refine held_take (i := 24) (d := some 103) (v := ?_) rfl rfl (by kernel_rfl) (by kernel_rfl) (by kernel_rfl) (fun _ _ _ h => h) (by rfl) ?_ hHeld ?_
          rotate_left
          · (intro w hSw; (try dsimp only at hSw); go_simp; try with_reducible rfl)
          try simp only [Act.put, List.setIfInBounds_toArray, List.set_cons_zero, List.set_cons_succ]
          refine held_take (i := 25) (d := some 104) (v := ?_) rfl rfl (by kernel_rfl) (by kernel_rfl) (by kernel_rfl) (fun _ _ _ h => h) (by rfl) ?_ hHeld ?_
          rotate_left
          · (intro w hSw; (try dsimp only at hSw); go_simp; try with_reducible rfl)
          try simp only [Act.put, List.setIfInBounds_toArray, List.set_cons_zero, List.set_cons_succ]
          refine held_take (i := 26) (d := some 105) (v := ?_) rfl rfl (by kernel_rfl) (by kernel_rfl) (by kernel_rfl) (fun _ _ _ h => h) (by rfl) ?_ hHeld ?_
          rotate_left
          · (intro w hSw; (try dsimp only at hSw); go_simp; try with_reducible rfl)
          try simp only [Act.put, List.setIfInBounds_toArray, List.set_cons_zero, List.set_cons_succ]
          refine held_take (i := 27) (d := some 106) (v := ?_) rfl rfl (by kernel_rfl) (by kernel_rfl) (by kernel_rfl) (fun _ _ _ h => h) (by rfl) ?_ hHeld ?_
          rotate_left
          · (intro w hSw; (try dsimp only at hSw); go_simp; try with_reducible rfl)
          try simp only [Act.put, List.setIfInBounds_toArray, List.set_cons_zero, List.set_cons_succ]
          refine held_take (i := 28) (d := some 107) (v := ?_) rfl rfl (by kernel_rfl) (by kernel_rfl) (by kernel_rfl) (fun _ _ _ h => h) (by rfl) ?_ hHeld ?_
          rotate_left
          · (intro w hSw; (try dsimp only at hSw); go_simp; try with_reducible rfl)
          try simp only [Act.put, List.setIfInBounds_toArray, List.set_cons_zero, List.set_cons_succ]
          refine held_take (i := 29) (d := some 108) (v := ?_) rfl rfl (by kernel_rfl) (by kernel_rfl) (by kernel_rfl) (fun _ _ _ h => h) (by rfl) ?_ hHeld ?_
          rotate_left
          · (intro w hSw; (try dsimp only at hSw); go_simp; try with_reducible rfl)
          try simp only [Act.put, List.setIfInBounds_toArray, List.set_cons_zero, List.set_cons_succ]
          refine held_take (i := 30) (d := some 109) (v := ?_) rfl rfl (by kernel_rfl) (by kernel_rfl) (by kernel_rfl) (fun _ _ _ h => h) (by rfl) ?_ hHeld ?_
          rotate_left
          · (intro w hSw; (try dsimp only at hSw); go_simp; try with_reducible rfl)
          try simp only [Act.put, List.setIfInBounds_toArray, List.set_cons_zero, List.set_cons_succ]
          refine held_take (i := 31) (d := some 110) (v := ?_) rfl rfl (by kernel_rfl) (by kernel_rfl) (by kernel_rfl) (fun _ _ _ h => h) (by rfl) ?_ hHeld ?_
          rotate_left
          · (intro w hSw; (try dsimp only at hSw); go_simp; try with_reducible rfl)
          try simp only [Act.put, List.setIfInBounds_toArray, List.set_cons_zero, List.set_cons_succ]
          refine held_take (i := 32) (d := some 111) (v := ?_) rfl rfl (by kernel_rfl) (by kernel_rfl) (by kernel_rfl) (fun _ _ _ h => h) (by rfl) ?_ hHeld ?_
          rotate_left
          · (intro w hSw; (try dsimp only at hSw); go_simp; try with_reducible rfl)
          try simp only [Act.put, List.setIfInBounds_toArray, List.set_cons_zero, List.set_cons_succ]
          refine held_take (i := 33) (d := some 112) (v := ?_) rfl rfl (by kernel_rfl) (by kernel_rfl) (by kernel_rfl) (fun _ _ _ h => h) (by rfl) ?_ hHeld ?_
          rotate_left
          · (intro w hSw; (try dsimp only at hSw); go_simp; try with_reducible rfl)
          try simp only [Act.put, List.setIfInBounds_toArray, List.set_cons_zero, List.set_cons_succ]
          refine held_take (i := 34) (d := some 113) (v := ?_) rfl rfl (by kernel_rfl) (by kernel_rfl) (by kernel_rfl) (fun _ _ _ h => h) (by rfl) ?_ hHeld ?_
          rotate_left
          · (intro w hSw; (try dsimp only at hSw); go_simp; try with_reducible rfl)
          try simp only [Act.put, List.setIfInBounds_toArray, List.set_cons_zero, List.set_cons_succ]
          refine held_take (i := 35) (d := some 114) (v := ?_) rfl rfl (by kernel_rfl) (by kernel_rfl) (by kernel_rfl) (fun _ _ _ h => h) (by rfl) ?_ hHeld ?_
          rotate_left
          · (intro w hSw; (try dsimp only at hSw); go_simp; try with_reducible rfl)
          try simp only [Act.put, List.setIfInBounds_toArray, List.set_cons_zero, List.set_cons_succ]
          refine held_skip (i := 36) (d := some 115) rfl rfl (by kernel_rfl) (by kernel_rfl) (by kernel_rfl) (fun _ _ _ h => h) (by rfl) hHeld ?_
          try simp only [Act.put, List.setIfInBounds_toArray, List.set_cons_zero, List.set_cons_succ]
          refine held_skip (i := 37) (d := some 116) rfl rfl (by kernel_rfl) (by kernel_rfl) (by kernel_rfl) (fun _ _ _ h => h) (by rfl) hHeld ?_
          try simp only [Act.put, List.setIfInBounds_toArray, List.set_cons_zero, List.set_cons_succ]
          refine held_take (i := 38) (d := some 117) (v := ?_) rfl rfl (by kernel_rfl) (by kernel_rfl) (by kernel_rfl) (fun _ _ _ h => h) (by rfl) ?_ hHeld ?_
          rotate_left
          · (intro w hSw; (try dsimp only at hSw); go_simp; try with_reducible rfl)
          try simp only [Act.put, List.setIfInBounds_toArray, List.set_cons_zero, List.set_cons_succ]
          refine held_take (i := 39) (d := some 118) (v := ?_) rfl rfl (by kernel_rfl) (by kernel_rfl) (by kernel_rfl) (fun _ _ _ h => h) (by rfl) ?_ hHeld ?_
          rotate_left
          · (intro w hSw; (try dsimp only at hSw); go_simp; try with_reducible rfl)
          try simp only [Act.put, List.setIfInBounds_toArray, List.set_cons_zero, List.set_cons_succ]
          refine wpAnyH_done (by kernel_rfl) ?_ _
          clear hHeld HT0 HT1 HT2 HSM HRD HWT
          go_wp2_with fail
          go_wp2
          exact ⟨⟨k + 1, g, _, by omega, by go_num, rfl, HPW9.out⟩, by simp [intOf]; omega⟩
    · obtain rfl : k = n := by omega
      go_wp2
      go_ret
      exact ⟨rfl, HP.out.all⟩
theorem open_ops {H : Type} {enc : TypeId × Value → H} {W : World} {base : Nat} {v : Value} {d : DataW H} {p : List MemPlace} (hv : Value.okWide Try.prog W .any base 42 v) (h : DataW.Trod enc Try.prog W 0 (fun _ => true) true 42 v d p)
    {ts : List TypeId} {ds : List (DataW H)} (j : Nat) (hsz : (DataW.weightsEach Try.prog ts ds).all (· ≤ reachBytes) = true) (ht : ts[j]? = some 42) (hd : ds[j]? = some d) :
    ∃ A L cap, v = .slice A (List.length L) cap ∧ OpsAt W A L ∧ L.length ≤ 140737488351232 := by
  obtain ⟨a0, len, cap, rfl⟩ := okWide_slice Try.underlying42 hv
  obtain ⟨fuel, hf⟩ := h
  rcases open_slice_fields Try.underlying42 Try.underlying47 (by kernel_rfl) (by kernel_rfl) hf with ⟨hcs, hx⟩ | ⟨a, len', cap', m, D, Pl, hcs, hb, hl, hm, hmm, hx, hi⟩
  · simp [Value.cells] at hcs
    obtain ⟨rfl, rfl, rfl⟩ := hcs
    exact ⟨none, [], 0, rfl, fun k hk => absurd hk (by simp), by simp⟩
  · simp [Value.cells] at hcs
    obtain ⟨rfl, rfl, rfl⟩ := hcs
    have hml : len ≤ m := by rw [hmm]; split <;> omega
    simp only [Prod.mk.injEq] at hx
    have hd' := hd
    rw [hx.1] at hd'
    have key : ∀ k, k < len → ∃ o : OpW, W.cell? (a.add (k * 3 + 0)) = some (.int .i64 o.kind) ∧ W.cell? (a.add (k * 3 + 1)) = some (.int .i64 o.id) ∧ W.cell? (a.add (k * 3 + 2)) = some (.int .i64 o.at_) ∧ o.id ≤ 9223372036854775807 := by
      intro k hk
      obtain ⟨ys, n, hD, _, _, hf⟩ := hi k (by omega)
      obtain ⟨v0, y0, c0, _, t0⟩ := hf 0 _ rfl
      obtain ⟨v1, y1, c1, _, t1⟩ := hf 1 _ rfl
      obtain ⟨v2, y2, c2, _, t2⟩ := hf 2 _ rfl
      obtain ⟨x0, e0, _, _⟩ := DataW.trod_int Try.underlying3 t0
      obtain ⟨x1, e1, _, w1⟩ := DataW.trod_int Try.underlying3 t1
      obtain ⟨x2, e2, _, _⟩ := DataW.trod_int Try.underlying3 t2
      simp at e0 e1 e2
      subst e0 e1 e2
      refine ⟨⟨x0, x1, x2⟩, c0, c1, c2, ?_⟩
      have h2 : x1 ≤ IntKind.i64.max := by simp [Lit.wf] at w1; exact w1.2
      have h3 : IntKind.i64.max = 9223372036854775807 := by decide
      show x1 ≤ _
      omega
    obtain ⟨L, hL, hP⟩ := exists_list len key
    refine ⟨some a, L, cap, by rw [hL], fun k hk => ?_, ?_⟩
    · obtain ⟨c0, c1, c2, hs⟩ := hP k hk
      obtain ⟨b0, _⟩ := hP 0 (by omega)
      simp only [Nat.zero_mul, Nat.zero_add, Addr.add_zero'] at b0
      have hsp := cell_spot b0
      have hblk := cell_lt b0
      rw [hsp] at c0 c1 c2
      rw [Addr.add_lit] at c0 c1 c2
      exact ⟨a.block, a.off, by rw [← hsp], hblk, by simpa using c0, by simpa [Nat.add_assoc] using c1, by simpa [Nat.add_assoc] using c2, hs⟩
    · have := sized_slice hsz ht hd' Try.underlying42
      rw [show Try.prog.bytesOf 47 = 24 from by kernel_rfl] at this
      have hr := reachBytes_lt
      simp at this
      omega
theorem walk {H : Type} {enc : TypeId × Value → H} {W : World} {base : Nat} {args : Array Value} {ds : List (DataW H)} {ps : List MemPlace}
    (h : Handed enc Try.prog W base Try.f6.params.toList args ds ps) : Calls Try.prog 6 args W fun e w' => TrueBelow W e w' := by
  rw [Try.params6] at h
  have hval := h.val
  obtain ⟨v0, vs0, d0, ds0, p0, q0, hargs, rfl, rfl, h0, r0⟩ := trodAll_cons h.trod
  obtain ⟨rfl, rfl, rfl⟩ := trodAll_nil r0
  obtain rfl : args = #[v0] := by cases args; simp_all
  obtain ⟨A, L, cap, rfl, hops, hlen⟩ := open_ops (hval 0 42 v0 rfl rfl) h0 0 h.fits rfl rfl
  exact law_any A L cap W hops (by omega)


set_option maxRecDepth 100000 in
theorem lifted (os : Os) (started : os.Started) (H : Type) (enc : TypeId × Value → H) :
    ReturnsInHanded {} Try.checked os 6 .any (Rows.timerPlaysSpec.pre6 enc Try.prog Try.f6 Rows.timerPlaysRow.domain false) (Rows.timerPlaysSpec.post enc Try.prog Try.f6 false true false false) := by
  refine returnsInHanded_of_change_sized (C := Try.checked) own started (by kernel_rfl) Try.func6
    (ChangeSpec.witness6 (enc := enc) (C := Try.checked) false ⟨#[], #[.slice none 0 0], []⟩ 8 (by kernel_rfl) (by kernel_rfl) (by kernel_rfl) (by kernel_rfl)) ?_
  intro W base args ds gs before hval hW _ hsz _
  refine (walk (handed_of hval hW rfl rfl hsz)).mono fun e W' ⟨he, hb⟩ => ?_
  subst he
  exact ⟨_, rfl, law_post hW rfl laidOut (by kernel_rfl) rfl Try.underlying4 (fun ds' h => by match ds', h with | [_], _ => rfl) hb⟩

theorem over : Rows.timerPlaysRow.holds Try.pinned (OpenSpec.ofChange Rows.timerPlaysSpec) :=
  OpenClaim.holds_of_wide 6 Try.f6 rfl rfl rfl rfl rfl rfl rfl ⟨rfl, rfl, rfl, rfl, rfl⟩ rfl rfl rfl rfl rfl (by kernel_rfl) Try.func6 (by kernel_rfl)
    (of_decide_eq_true (by kernel_rfl)) (by unfold Func.isWrapper; first | (rw [if_pos (by decide +kernel)]; kernel_rfl) | (rw [if_neg (by decide +kernel)]; exact ⟨rfl, rfl⟩))
    (fun os started H enc _ => lifted os started H enc)

theorem proved : Rows.TimerPlaysSaid :=
  over
#print axioms proved
end Go.Proofs.Ytbngcepekaicjaa.timerPlays
