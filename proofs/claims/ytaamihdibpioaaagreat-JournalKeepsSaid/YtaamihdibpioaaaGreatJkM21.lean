/- The code's reader: lists and records (printed by wip/gen_rdloop.py). -/
import Derived.Test.YtaamihdibpioaaaGreatJkM14
import Derived.Test.YtaamihdibpioaaaGreatJkM20
import Derived.Deep.RegionLaw
import Derived.Deep.DeepCutAuto
namespace Go.Proofs.YtaamihdibpioaaaGreat
set_option linter.unusedVariables false
open Go.RowKit

theorem one_str (t : ByteArray) : ∀ u ∈ [Value.string t], u.oneCell' = true := fun u hu => by
  obtain rfl : u = .string t := by simpa using hu
  rfl
theorem reads_one (w : World) (v : Value) (t : TypeId) : Reads (w.alloc (.cells #[v] t)) (w.heap.size + 1) 1 (some ⟨w.heap.size, 0, none⟩) 1 [v] :=
  ⟨rfl, fun _ => ⟨_, rfl, by simp, cells_new w [v] t⟩⟩
theorem reads_row (w : World) (l : List Value) (t : TypeId) : Reads (w.alloc (.cells l.toArray t)) (w.heap.size + 1) l.length (some ⟨w.heap.size, 0, none⟩) 1 l :=
  ⟨by simp, fun _ => ⟨_, rfl, by simp, cells_new w l t⟩⟩
theorem own_form {w : World} {base n size : Nat} {e : TypeId} {v : Value} {xs : List Value} (h : w.ownsRow base e size v n xs) : ∃ a c, v = .slice a n c := by
  rcases h.2 with ⟨rfl, rfl⟩ | ⟨g, cap, cur, rfl, _⟩
  · exact ⟨none, 0, rfl⟩
  · exact ⟨_, _, rfl⟩
section
variable {A : Type} {E : Elem A} {TE : TypeId} {B : Nat} {w w' : World} {ns : List ByteArray} {us : List A} {sv xv : Value}
theorem Gath.alloc (h : Gath E TE B w ns us sv xv) (o : Obj) : Gath E TE B (w.alloc o) ns us sv xv := h.below ((Below.refl _ w).alloc (Nat.le_refl _) o)
theorem Gath.nge (h : Gath E TE B w ns us sv xv) {k : Nat} (hk : sv.ownBlock = some k) : B ≤ k := (h.names.lt k hk).1
theorem Gath.xge (h : Gath E TE B w ns us sv xv) {k : Nat} (hk : xv.ownBlock = some k) : B ≤ k := (h.items.lt k hk).1
theorem Gath.nlt (h : Gath E TE B w ns us sv xv) {k : Nat} (hk : sv.ownBlock = some k) : k < w.heap.size := (h.names.lt k hk).2
theorem Gath.xlt (h : Gath E TE B w ns us sv xv) {k : Nat} (hk : xv.ownBlock = some k) : k < w.heap.size := (h.items.lt k hk).2
end
theorem only_app2 {w a b : World} {r : Nat} {row : Option Nat} (h : Only w a r) (hg : a.grownBy b row) (hr : ∀ k, row = some k → w.heap.size ≤ k) : Only w b r :=
  ⟨hg.os.trans h.os, hg.tape.trans h.tape, hg.output.trans h.output, Nat.le_trans h.size hg.size, fun i hi hne => (hg.block i (Nat.lt_of_lt_of_le hi h.size) (fun e => by have := hr i e.symm; omega)).trans (h.block i hi hne)⟩
theorem RS.grow {TE : TypeId} {w w6 w8 : World} {g V : Nat} {s : ByteArray} {q : Nat} {m : Int} {cs : List Value} {o : Obj} {row : Option Nat} (h : RS TE w w6 g V s q m cs) (hg : (w6.alloc o).grownBy w8 row) (hr : ∀ k, row = some k → V + 1 ≤ k) : RS TE w w8 g V s q m cs :=
  ⟨(h.rd.alloc o).grown hg (fun e => by have := hr g e.symm; have := h.lt; omega), (h.blk.alloc o).grown hg (fun e => by have := hr V e.symm; omega), only_app2 (h.only.alloc o) hg (fun k hk => by have := hr k hk; rw [← h.eq]; omega), h.lt, h.eq⟩

theorem node_end {k : Int} {w wr : World} {g V M q : Nat} {s : ByteArray} {cs : List Value} {ns : List ByteArray} {us : List Val} {an ax : Option Addr} {cn cx : Nat} (h : RS 37 w wr g V s q (M : Int) cs) (hg : Gath valE 37 (V + 1) wr ns us (.slice an ns.length cn) (.slice ax us.length cx))
    {r : Except Int (Val × Nat × Nat)} (hr : r = .ok (Val.node k ns (us.map Val.erase), q, M)) (hk : i64r k) (hn : ns.length ≤ 200) (hx : us.length ≤ 200) (ht : ∀ t, t ∈ ns → t.size ≤ 30) :
    ValRead r s g w (.returned (.agg #[.int .i64 k, .int .i64 0, .float .f64 0, .string ⟨#[]⟩, .slice an ns.length cn, .slice ax us.length cx])) wr := by
  refine ⟨h.only, ?_⟩
  rw [hr]
  obtain ⟨sn, hsn, hln, hspn⟩ := lies_of_own hg.names
  obtain ⟨sx, hsx, hlx, hspx⟩ := rowLies_of_own hg.items
  have hV := h.eq
  refine ⟨.mk k 0 0 ⟨#[]⟩ sn ns sx us, ?_, ?_, ?_, ?_, h.rd⟩
  · show _ = Ending.returned (.agg #[.int .i64 k, .int .i64 0, .float .f64 0, .string ⟨#[]⟩, sn.val ns.length, sx.val us.length])
    rw [← hsn, ← hsx]
  · rw [Val.erase_eq]
    rfl
  · rw [Val.in_iff]
    refine ⟨⟨hk, by unfold i64r; simp [Val.n], by simp [Val.f], by unfold strok; simp [Val.s]; decide, ?_, ?_, fun s hs => ?_⟩, hln, hlx, fun x hx' => (hg.each x hx').1⟩
    · show ns.length ≤ _; omega
    · show us.length ≤ _; omega
    · have := ht s hs; unfold strok; omega
  · rw [Val.sep_iff]
    exact ⟨hspn.mono (fun b hb => by omega), hspx.mono (fun b hb => by omega), fun x hx' => (hg.each x hx').2.mono (fun b hb => by have := hb.1; omega)⟩

set_option maxHeartbeats 2000000 in
set_option maxRecDepth 100000 in
theorem rv_list (s : ByteArray) (hs : s.size ≤ 100000) (d p m deep g : Nat) (w : World) (hd : deep + d = 12) (hp : p ≤ s.size) (hm : m ≤ 200) (hm1 : m + 1 ≤ 200) (hin : p < s.size) (hk : (byteAt s p).toNat = 5) (ih : ∀ (p m g : Nat) (w : World), p ≤ s.size → m ≤ 200 → At w g s p (m : Int) → Calls Tryz.prog 153 #[.pointer (some ⟨g, 0, none⟩), .int .i64 ((deep : Int) + 1)] w fun e w' => ValRead (rdV s d p m) s g w e w') (h : At w g s p (m : Int)) :
    Calls Tryz.prog 153 #[.pointer (some ⟨g, 0, none⟩), .int .i64 deep] w fun e w' => ValRead (rdV s (d + 1) p m) s g w e w' := by
  have hkt : (decide ((byteAt s p).toNat = 6)) = false := by rw [hk]; rfl
  have hdw : IntKind.i64.wrap ((deep : Int) + 1) = (deep : Int) + 1 := IntWalk.i64_in _ (by omega)
  obtain ⟨i0, hi0, hz0, hz1, hz2⟩ := info_parts val_facts
  obtain ⟨i1, hi1, hy0, hy1, hy2⟩ := info_parts str_facts
  have HIH := Lib.hid ih
  clear ih

  have hsf := run_store_flt
  obtain ⟨V, hV⟩ : ∃ V, V = w.heap.size := ⟨_, rfl⟩
  obtain ⟨W, hW⟩ : ∃ W, W = w.alloc (.cells #[.int .i64 0, .int .i64 0, .float .f64 0, .string ⟨#[]⟩, .slice none 0 0, .slice none 0 0] 37) := ⟨_, rfl⟩
  have hst : RS 37 w W g V s p (m : Int) [.int .i64 0, .int .i64 0, .float .f64 0, .string ⟨#[]⟩, .slice none 0 0, .slice none 0 0] := by rw [hV, hW]; exact RS.start w g s p m _ h
  have HV := Lib.hid hV; have HW := Lib.hid hW; have HS0 := Lib.hid hst
  clear hV hW hst h

  have HBEG := Lib.hid (rbegin_ok s p m deep g W (by omega) hm1 HS0.out.rd)
  cases hmm : readM s (p + 1) with
  | error k =>
    have HE : Hid (rdV s (d + 1) p m = .error k) := Lib.hid (by unfold rdV; rw [if_neg (by omega), if_neg (by omega), if_neg (by rw [hk]; decide), if_neg (by rw [hk]; decide), if_neg (by rw [hk]; decide), if_neg (by rw [hk]; decide), if_pos (by rw [hk]; decide), hmm])
    go_enter Tryz.func153, Tryz.ntmps153
    go_wp2_with fail
    rw [← HW.out, ← HV.out]

    refine HBEG.out.mono ?_
    rintro e w1 ⟨rfl, ha1, ho1⟩
    have HS1 := Lib.hid (HS0.out.read ha1 ho1)
    clear ha1 ho1 HBEG HW

    have HB1 := Lib.hid (byte_k s p ((m + 1 : Nat) : Int) g 5 w1 hs hin HS1.out.rd hk)
    go_wp2_with fail
    refine HB1.out.mono ?_
    rintro e w2 ⟨rfl, ha2, ho2⟩
    have HS2 := Lib.hid (HS1.out.read ha2 ho2)
    clear ha2 ho2 HB1 HS1
    have c0 := HS2.out.cell 0; have f0 := HS2.out.frozen 0; have hvl := HS2.out.vlt
    simp only [List.getElem?_cons_zero, List.getElem?_cons_succ] at c0
    obtain ⟨W2, hW2⟩ : ∃ W2, W2 = w2.setCell ⟨V, 0, none⟩ (.int .i64 5) := ⟨_, rfl⟩
    have hs3 : RS 37 w W2 g V s (p + 1) ((m + 1 : Nat) : Int) [.int .i64 5, .int .i64 0, .float .f64 0, .string ⟨#[]⟩, .slice none 0 0, .slice none 0 0] := by rw [hW2]; exact HS2.out.set_ 0 _
    have HS3 := Lib.hid hs3; have HW2 := Lib.hid hW2
    clear hs3 hW2
    go_upto_region 3 with fail
    rw [← HW2.out]
    clear c0 f0 hvl HS2
    have c0 := HS3.out.cell 0; have hvl := HS3.out.vlt
    simp only [List.getElem?_cons_zero, List.getElem?_cons_succ] at c0
    have HR := Lib.hid (rmany_any s (p + 1) ((m + 1 : Nat) : Int) g W2 hs (by omega) HS3.out.rd)
    rw [hmm] at HR
    go_wp2_with fail
    refine HR.out.mono ?_
    rintro e w3 ⟨rfl, ho3⟩
    have ho := HS3.out.only.trans ho3

    unfold gives
    go_wp2
    refine ⟨rfl, ?_⟩
    refine ⟨ho, ?_⟩
    rw [HE.out]
    rfl
  | ok nq =>
    obtain ⟨n, q0⟩ := nq
    obtain ⟨hq0, hq0s, hn200⟩ := readM_lt hmm
    have hed : rdV s (d + 1) p m = (match rdL s (rdV s d) false n q0 (m + 1) with
        | .error k => .error k
        | .ok (ns, vs, q2, m2) => .ok (Val.node 5 ns vs, q2, m2)) := by
      unfold rdV
      rw [if_neg (by omega), if_neg (by omega), if_neg (by rw [hk]; decide), if_neg (by rw [hk]; decide), if_neg (by rw [hk]; decide), if_neg (by rw [hk]; decide), if_pos (by rw [hk]; decide), hmm]
      simp only [hkt]
      rw [hk]
      rfl
    have HED := Lib.hid hed; have HMM := Lib.hid hmm
    clear hed hkt hmm
    go_enter Tryz.func153, Tryz.ntmps153
    go_wp2_with fail
    rw [← HW.out, ← HV.out]

    refine HBEG.out.mono ?_
    rintro e w1 ⟨rfl, ha1, ho1⟩
    have HS1 := Lib.hid (HS0.out.read ha1 ho1)
    clear ha1 ho1 HBEG HW

    have HB1 := Lib.hid (byte_k s p ((m + 1 : Nat) : Int) g 5 w1 hs hin HS1.out.rd hk)
    go_wp2_with fail
    refine HB1.out.mono ?_
    rintro e w2 ⟨rfl, ha2, ho2⟩
    have HS2 := Lib.hid (HS1.out.read ha2 ho2)
    clear ha2 ho2 HB1 HS1
    have c0 := HS2.out.cell 0; have f0 := HS2.out.frozen 0; have hvl := HS2.out.vlt
    simp only [List.getElem?_cons_zero, List.getElem?_cons_succ] at c0
    obtain ⟨W2, hW2⟩ : ∃ W2, W2 = w2.setCell ⟨V, 0, none⟩ (.int .i64 5) := ⟨_, rfl⟩
    have hs3 : RS 37 w W2 g V s (p + 1) ((m + 1 : Nat) : Int) [.int .i64 5, .int .i64 0, .float .f64 0, .string ⟨#[]⟩, .slice none 0 0, .slice none 0 0] := by rw [hW2]; exact HS2.out.set_ 0 _
    have HS3 := Lib.hid hs3; have HW2 := Lib.hid hW2
    clear hs3 hW2
    go_upto_region 3 with fail
    rw [← HW2.out]
    clear c0 f0 hvl HS2
    have c0 := HS3.out.cell 0; have hvl := HS3.out.vlt
    simp only [List.getElem?_cons_zero, List.getElem?_cons_succ] at c0
    have HR := Lib.hid (rmany_any s (p + 1) ((m + 1 : Nat) : Int) g W2 hs (by omega) HS3.out.rd)
    rw [HMM.out] at HR
    go_wp2_with fail
    refine HR.out.mono ?_
    rintro e w3 ⟨rfl, ha3, ho3⟩
    have HS4 := Lib.hid (HS3.out.read ha3 ho3)
    clear ha3 ho3 HR HS3 c0 hvl
    go_wp2_with fail
    go_loopw [45] (fun iv wr => ∃ (i : Nat) (ns : List ByteArray) (us : List Val) (an ax : Option Addr) (cn cx q m' : Nat), iv = .int .i64 i ∧ i ≤ n ∧ q ≤ s.size ∧ m' ≤ 200 ∧ us.length ≤ n ∧ Hid (us.length = i) ∧ ns.length ≤ i ∧ Hid (Come s (rdV s d) false n q0 (m + 1) ns (us.map Val.erase) i q m') ∧
      Hid (RS 37 w wr g V s q (m' : Int) [.int .i64 5, .int .i64 0, .float .f64 0, .string ⟨#[]⟩, .slice an ns.length cn, .slice ax us.length cx]) ∧ Hid (Gath valE 37 (V + 1) wr ns us (.slice an ns.length cn) (.slice ax us.length cx))) (fun iv _ => n - (intOf iv).toNat)
    case atStart => exact ⟨0, [], [], none, none, 0, 0, q0, m + 1, rfl, by omega, hq0s, hm1, by simp, Lib.hid rfl, by simp, Lib.hid come_start, HS4, Lib.hid (gath_start _)⟩
    case round =>
      obtain ⟨i, ns, us, an, ax, cn, cx, q, m', rfl, hi, hqs, hm', hul, HUL, hnl, HCM, HRS, HG⟩ := hrel
      clear HS4
      have c0 := HRS.out.cell 0; have cn0 := HRS.out.cell 4; have cx0 := HRS.out.cell 5; have hvl := HRS.out.vlt
      simp only [List.getElem?_cons_zero, List.getElem?_cons_succ] at c0 cn0 cx0
      by_cases hlt : i < n
      · have j1 : decide ((i : Int) < (n : Int)) = true := by simp; omega
        cases hr : rdV s d q m' with
        | error k =>
          have HC := Lib.hid (fun (W : World) (h : At W g s q (m' : Int)) => HIH.out q m' g W (by omega) hm' h)
          rw [hr] at HC
          have HE : Hid (rdV s (d + 1) p m = .error k) := Lib.hid (by rw [HED.out, (HCM.out.item_bad0 hlt hr)])
          clear hr
          go_wp2_with fail
          refine wp_region_held_drew (S := (fun W => W.cell? ⟨V, 5, none⟩ = some (Value.slice ax us.length cx))) (by kernel_rfl) cx0 (fun hHeld => ?_)
          refine held_take (i := 0) (d := some 57) (v := ?_) rfl rfl (by kernel_rfl) (by kernel_rfl) (by kernel_rfl) (fun _ _ _ h => h) (by rfl) ?_ hHeld ?_
          rotate_left
          · (intro w hSw; (try dsimp only at hSw); go_simp; try with_reducible rfl)
          try simp only [Act.put, List.setIfInBounds_toArray, List.set_cons_zero, List.set_cons_succ]
          refine held_take (i := 1) (d := some 58) (v := ?_) rfl rfl (by kernel_rfl) (by kernel_rfl) (by kernel_rfl) (fun _ _ _ h => h) (by rfl) ?_ hHeld ?_
          rotate_left
          · (intro w hSw; (try dsimp only at hSw); go_simp; try with_reducible rfl)
          try simp only [Act.put, List.setIfInBounds_toArray, List.set_cons_zero, List.set_cons_succ]
          refine held_take (i := 2) (d := some 59) (v := ?_) rfl rfl (by kernel_rfl) (by kernel_rfl) (by kernel_rfl) (fun _ _ _ h => h) (by rfl) ?_ hHeld ?_
          rotate_left
          · (intro w hSw; (try dsimp only at hSw); go_simp; try with_reducible rfl)
          try simp only [Act.put, List.setIfInBounds_toArray, List.set_cons_zero, List.set_cons_succ]
          refine held_take (i := 3) (d := some 60) (v := ?_) rfl rfl (by kernel_rfl) (by kernel_rfl) (by kernel_rfl) (fun _ _ _ h => h) (by rfl) ?_ hHeld ?_
          rotate_left
          · (intro w hSw; (try dsimp only at hSw); go_simp; try with_reducible rfl)
          try simp only [Act.put, List.setIfInBounds_toArray, List.set_cons_zero, List.set_cons_succ]
          refine held_take (i := 4) (d := some 61) (v := ?_) rfl rfl (by kernel_rfl) (by kernel_rfl) (by kernel_rfl) (fun _ _ _ h => h) (by rfl) ?_ hHeld ?_
          rotate_left
          · (intro w hSw; (try dsimp only at hSw); go_simp; try with_reducible rfl)
          try simp only [Act.put, List.setIfInBounds_toArray, List.set_cons_zero, List.set_cons_succ]
          refine held_only (i := 5) (by kernel_rfl) rfl (by rfl) (fun K hK => ?_)
          go_simp
          go_at_call 153
          refine (HC.out _ (HRS.out.rd.drew)).mono ?_
          rintro e w6 ⟨ho6, rfl⟩
          have ho := (HRS.out.only.drew).trans ho6
          unfold gives
          go_wp2
          refine ⟨rfl, ho, ?_⟩
          rw [HE.out]
          rfl
        | ok x =>
          obtain ⟨v, q2, m2⟩ := x
          have hlts := rdV_lt s d q m' v q2 m2 (by omega) hm' hr
          have HC := Lib.hid (fun (W : World) (h : At W g s q (m' : Int)) => HIH.out q m' g W (by omega) hm' h)
          rw [hr] at HC
          have HCM2 := Lib.hid (HCM.out.next0 hlt hr)
          have HZS := Lib.hid (fun b (hb : (Value.slice an ns.length cn).ownBlock = some b) => HG.out.nlt hb)
          have HZX := Lib.hid (fun b (hb : (Value.slice ax us.length cx).ownBlock = some b) => HG.out.xlt hb)
          clear hr
          go_wp2_with fail
          have hvB : V + 1 ≤ wr.heap.size := HRS.out.vlt
          go_region_law (first
            | (refine step_append_any (w := w6.alloc (.cells #[.int .i64 u.k, .int .i64 u.n, .float .f64 u.f, .string u.s, .slice a4 u.ns.length b4, .slice a5 u.xs.length b5] 37)) rfl (.tmp 58) (.tmp 63) 35 rfl (V + 1) 37 i0 (.agg #[.int .i64 0, .int .i64 0, .float .f64 0, .string ByteArray.empty, .slice none 0 0, .slice none 0 0]) 6 88 Tryz.underlying35 hi0 hz0 hz1 hz2 rfl (by decide) (.slice ax us.length cx) us.length (valE.row us) rfl HOWN6.out (w6.heap.size + 1) (some ⟨w6.heap.size, 0, none⟩) 1 1 u.cells rfl HRED.out (valE.one u) (by unfold maxLen; omega) (by omega) (by simp; omega) ?_;
               intro v' w8 hown' hgrow hor;
               have hg8 := Gath.item (HG6.out.alloc (.cells #[.int .i64 u.k, .int .i64 u.n, .float .f64 u.f, .string u.s, .slice a4 u.ns.length b4, .slice a5 u.xs.length b5] 37)) (by simp; omega) (HUI.out.below ((Below.refl _ w6).alloc (Nat.le_refl _) (.cells #[.int .i64 u.k, .int .i64 u.n, .float .f64 u.f, .string u.s, .slice a4 u.ns.length b4, .slice a5 u.xs.length b5] 37))) HUS.out hvB HZS.out HZX.out hown' hgrow hor;
               have hr8 := HR6.out.grow hgrow (fun k hk => HG6.out.xge hk);
               obtain ⟨ax', cx', rfl⟩ := own_form hown';
               have c8 := hr8.cell 5; have f8 := hr8.frozen 5; have v8 := hr8.vlt;
               simp only [List.getElem?_cons_zero, List.getElem?_cons_succ] at c8;
               have HG8 := Lib.hid hg8; have HR8 := Lib.hid hr8;
               clear hg8 hr8 hown' hgrow hor)
            | (go_simp; go_at_call 153; refine (HC.out _ (HRS.out.rd.drew)).mono ?_; rintro e w6 ⟨ho6, u, rfl, hue, hui, hus, ha6⟩;
               obtain ⟨a4, b4, k4⟩ := hui.nslice;
               obtain ⟨a5, b5, k5⟩ := hui.xslice;
               unfold Val.agg;
               rw [k4, k5];
               have ho6' := ((Only.refl wr g).drew).trans ho6;
               have hz6 := ho6'.size;
               have hr6 := HRS.out.read ha6 ho6';
               have hg6 := HG.out.only ho6' (by have := hr6.lt; omega);
               have c6 := hr6.cell 5; have v6 := hr6.vlt;
               simp only [List.getElem?_cons_zero, List.getElem?_cons_succ] at c6;
               have hred : Reads (w6.alloc (.cells #[.int .i64 u.k, .int .i64 u.n, .float .f64 u.f, .string u.s, .slice a4 u.ns.length b4, .slice a5 u.xs.length b5] 37)) (w6.heap.size + 1) 6 (some ⟨w6.heap.size, 0, none⟩) 1 u.cells := by
                 unfold Val.cells; rw [k4, k5]; exact reads_row w6 _ 37;
               have hown6 := hg6.items.alloc (.cells #[.int .i64 u.k, .int .i64 u.n, .float .f64 u.f, .string u.s, .slice a4 u.ns.length b4, .slice a5 u.xs.length b5] 37);
               have HR6 := Lib.hid hr6; have HG6 := Lib.hid hg6; have HRED := Lib.hid hred; have HOWN6 := Lib.hid hown6; have HUI := Lib.hid hui; have HUS := Lib.hid hus; have HUE := Lib.hid hue;
               clear ha6 ho6 ho6' hr6 hg6 hred hown6 hui hus hue k4 k5))
          all_goals
            have HRS9 := Lib.hid (HR8.out.set_ 5 (.slice ax' (us.length + 1) cx'))
            have HG9 := Lib.hid (HG8.out.set_ (p := ⟨V, 5, none⟩) (by simp) (.slice ax' (us.length + 1) cx'))
            go_wp2
            go_roundw
            case rel => exact ⟨i + 1, ns, us ++ [u], an, ax', cn, cx', q2, m2, by go_num, by omega, by omega, by omega, by simp [HUL.out]; omega, Lib.hid (by simp [HUL.out]), by omega, Lib.hid (by rw [List.map_append, List.map_cons, List.map_nil, HUE.out]; exact HCM2.out), by simpa using HRS9, by simpa using HG9⟩
            case measure => simp [intOf]; omega
      · have j1 : decide ((i : Int) < (n : Int)) = false := by simp; omega
        obtain rfl : i = n := by omega
        have hdone := HCM.out.done
        have hfacts := rdL_lt (fun p m v q m' => rdV_lt s d p m v q m') i q0 (m + 1) ns (us.map Val.erase) q m' hq0s hm1 hdone
        have HE : Hid (rdV s (d + 1) p m = .ok (Val.node 5 ns (us.map Val.erase), q, m')) := Lib.hid (by rw [HED.out, hdone])
        have HTN := Lib.hid hfacts.2.2.2.2.2.2
        clear hdone hfacts c0 cn0 cx0
        have e0 := HRS.out.cell 0; have e1 := HRS.out.cell 1; have e2 := HRS.out.cell 2; have e3 := HRS.out.cell 3; have e4 := HRS.out.cell 4; have e5 := HRS.out.cell 5
        have f0 := HRS.out.frozen 0; have f1 := HRS.out.frozen 1; have f2 := HRS.out.frozen 2; have f3 := HRS.out.frozen 3; have f4 := HRS.out.frozen 4; have f5 := HRS.out.frozen 5
        simp only [List.getElem?_cons_zero, List.getElem?_cons_succ] at e0 e1 e2 e3 e4 e5
        obtain ⟨WF, hWF⟩ : ∃ WF, WF = ((((((wr.setCell ⟨V, 0, none⟩ (.int .i64 5)).setCell ⟨V, 1, none⟩ (.int .i64 0)).setCell ⟨V, 2, none⟩ (.float .f64 0)).setCell ⟨V, 3, none⟩ (.string ⟨#[]⟩)).setCell ⟨V, 4, none⟩ (.slice an ns.length cn)).setCell ⟨V, 5, none⟩ (.slice ax us.length cx)) := ⟨_, rfl⟩
        have HSF : Hid (RS 37 w WF g V s _ _ [.int .i64 5, .int .i64 0, .float .f64 0, .string ⟨#[]⟩, .slice an ns.length cn, .slice ax us.length cx]) := Lib.hid (by rw [hWF]; exact HRS.out.six _ _ _ _ _ _)
        have HWF := Lib.hid hWF
        clear hWF
        go_wp2_with fail
        rw [← HWF.out]
        clear e0 e1 e2 e3 e4 e5 f0 f1 f2 f3 f4 f5
        have e0 := HSF.out.cell 0; have e1 := HSF.out.cell 1; have e2 := HSF.out.cell 2; have e3 := HSF.out.cell 3; have e4 := HSF.out.cell 4; have e5 := HSF.out.cell 5
        simp only [List.getElem?_cons_zero, List.getElem?_cons_succ] at e0 e1 e2 e3 e4 e5
        refine bodyPost_ret (v := .agg #[.int .i64 5, .int .i64 0, .float .f64 0, .string ⟨#[]⟩, .slice an ns.length cn, .slice ax us.length cx]) (by simp [results, Tryz.results153, go_sem, e0, e1, e2, e3, e4, e5]) rfl ?_
        exact node_end HSF.out (by rw [HWF.out]; exact HG.out.only (stored6' HRS.out.blk _ _ _ _ _ _).2 (by omega)) HE.out (by unfold i64r; omega) (by omega) (by omega) HTN.out

set_option maxHeartbeats 2000000 in
set_option maxRecDepth 100000 in
theorem rv_rec (s : ByteArray) (hs : s.size ≤ 100000) (d p m deep g : Nat) (w : World) (hd : deep + d = 12) (hp : p ≤ s.size) (hm : m ≤ 200) (hm1 : m + 1 ≤ 200) (hin : p < s.size) (hk : (byteAt s p).toNat = 6) (ih : ∀ (p m g : Nat) (w : World), p ≤ s.size → m ≤ 200 → At w g s p (m : Int) → Calls Tryz.prog 153 #[.pointer (some ⟨g, 0, none⟩), .int .i64 ((deep : Int) + 1)] w fun e w' => ValRead (rdV s d p m) s g w e w') (h : At w g s p (m : Int)) :
    Calls Tryz.prog 153 #[.pointer (some ⟨g, 0, none⟩), .int .i64 deep] w fun e w' => ValRead (rdV s (d + 1) p m) s g w e w' := by
  have hkt : (decide ((byteAt s p).toNat = 6)) = true := by rw [hk]; rfl
  have hdw : IntKind.i64.wrap ((deep : Int) + 1) = (deep : Int) + 1 := IntWalk.i64_in _ (by omega)
  obtain ⟨i0, hi0, hz0, hz1, hz2⟩ := info_parts val_facts
  obtain ⟨i1, hi1, hy0, hy1, hy2⟩ := info_parts str_facts
  have HIH := Lib.hid ih
  clear ih

  have hsf := run_store_flt
  obtain ⟨V, hV⟩ : ∃ V, V = w.heap.size := ⟨_, rfl⟩
  obtain ⟨W, hW⟩ : ∃ W, W = w.alloc (.cells #[.int .i64 0, .int .i64 0, .float .f64 0, .string ⟨#[]⟩, .slice none 0 0, .slice none 0 0] 37) := ⟨_, rfl⟩
  have hst : RS 37 w W g V s p (m : Int) [.int .i64 0, .int .i64 0, .float .f64 0, .string ⟨#[]⟩, .slice none 0 0, .slice none 0 0] := by rw [hV, hW]; exact RS.start w g s p m _ h
  have HV := Lib.hid hV; have HW := Lib.hid hW; have HS0 := Lib.hid hst
  clear hV hW hst h

  have HBEG := Lib.hid (rbegin_ok s p m deep g W (by omega) hm1 HS0.out.rd)
  cases hmm : readM s (p + 1) with
  | error k =>
    have HE : Hid (rdV s (d + 1) p m = .error k) := Lib.hid (by unfold rdV; rw [if_neg (by omega), if_neg (by omega), if_neg (by rw [hk]; decide), if_neg (by rw [hk]; decide), if_neg (by rw [hk]; decide), if_neg (by rw [hk]; decide), if_pos (by rw [hk]; decide), hmm])
    go_enter Tryz.func153, Tryz.ntmps153
    go_wp2_with fail
    rw [← HW.out, ← HV.out]

    refine HBEG.out.mono ?_
    rintro e w1 ⟨rfl, ha1, ho1⟩
    have HS1 := Lib.hid (HS0.out.read ha1 ho1)
    clear ha1 ho1 HBEG HW

    have HB1 := Lib.hid (byte_k s p ((m + 1 : Nat) : Int) g 6 w1 hs hin HS1.out.rd hk)
    go_wp2_with fail
    refine HB1.out.mono ?_
    rintro e w2 ⟨rfl, ha2, ho2⟩
    have HS2 := Lib.hid (HS1.out.read ha2 ho2)
    clear ha2 ho2 HB1 HS1
    have c0 := HS2.out.cell 0; have f0 := HS2.out.frozen 0; have hvl := HS2.out.vlt
    simp only [List.getElem?_cons_zero, List.getElem?_cons_succ] at c0
    obtain ⟨W2, hW2⟩ : ∃ W2, W2 = w2.setCell ⟨V, 0, none⟩ (.int .i64 6) := ⟨_, rfl⟩
    have hs3 : RS 37 w W2 g V s (p + 1) ((m + 1 : Nat) : Int) [.int .i64 6, .int .i64 0, .float .f64 0, .string ⟨#[]⟩, .slice none 0 0, .slice none 0 0] := by rw [hW2]; exact HS2.out.set_ 0 _
    have HS3 := Lib.hid hs3; have HW2 := Lib.hid hW2
    clear hs3 hW2
    go_upto_region 3 with fail
    rw [← HW2.out]
    clear c0 f0 hvl HS2
    have c0 := HS3.out.cell 0; have hvl := HS3.out.vlt
    simp only [List.getElem?_cons_zero, List.getElem?_cons_succ] at c0
    have HR := Lib.hid (rmany_any s (p + 1) ((m + 1 : Nat) : Int) g W2 hs (by omega) HS3.out.rd)
    rw [hmm] at HR
    go_wp2_with fail
    refine HR.out.mono ?_
    rintro e w3 ⟨rfl, ho3⟩
    have ho := HS3.out.only.trans ho3

    unfold gives
    go_wp2
    refine ⟨rfl, ?_⟩
    refine ⟨ho, ?_⟩
    rw [HE.out]
    rfl
  | ok nq =>
    obtain ⟨n, q0⟩ := nq
    obtain ⟨hq0, hq0s, hn200⟩ := readM_lt hmm
    have hed : rdV s (d + 1) p m = (match rdL s (rdV s d) true n q0 (m + 1) with
        | .error k => .error k
        | .ok (ns, vs, q2, m2) => .ok (Val.node 6 ns vs, q2, m2)) := by
      unfold rdV
      rw [if_neg (by omega), if_neg (by omega), if_neg (by rw [hk]; decide), if_neg (by rw [hk]; decide), if_neg (by rw [hk]; decide), if_neg (by rw [hk]; decide), if_pos (by rw [hk]; decide), hmm]
      simp only [hkt]
      rw [hk]
      rfl
    have HED := Lib.hid hed; have HMM := Lib.hid hmm
    clear hed hkt hmm
    go_enter Tryz.func153, Tryz.ntmps153
    go_wp2_with fail
    rw [← HW.out, ← HV.out]

    refine HBEG.out.mono ?_
    rintro e w1 ⟨rfl, ha1, ho1⟩
    have HS1 := Lib.hid (HS0.out.read ha1 ho1)
    clear ha1 ho1 HBEG HW

    have HB1 := Lib.hid (byte_k s p ((m + 1 : Nat) : Int) g 6 w1 hs hin HS1.out.rd hk)
    go_wp2_with fail
    refine HB1.out.mono ?_
    rintro e w2 ⟨rfl, ha2, ho2⟩
    have HS2 := Lib.hid (HS1.out.read ha2 ho2)
    clear ha2 ho2 HB1 HS1
    have c0 := HS2.out.cell 0; have f0 := HS2.out.frozen 0; have hvl := HS2.out.vlt
    simp only [List.getElem?_cons_zero, List.getElem?_cons_succ] at c0
    obtain ⟨W2, hW2⟩ : ∃ W2, W2 = w2.setCell ⟨V, 0, none⟩ (.int .i64 6) := ⟨_, rfl⟩
    have hs3 : RS 37 w W2 g V s (p + 1) ((m + 1 : Nat) : Int) [.int .i64 6, .int .i64 0, .float .f64 0, .string ⟨#[]⟩, .slice none 0 0, .slice none 0 0] := by rw [hW2]; exact HS2.out.set_ 0 _
    have HS3 := Lib.hid hs3; have HW2 := Lib.hid hW2
    clear hs3 hW2
    go_upto_region 3 with fail
    rw [← HW2.out]
    clear c0 f0 hvl HS2
    have c0 := HS3.out.cell 0; have hvl := HS3.out.vlt
    simp only [List.getElem?_cons_zero, List.getElem?_cons_succ] at c0
    have HR := Lib.hid (rmany_any s (p + 1) ((m + 1 : Nat) : Int) g W2 hs (by omega) HS3.out.rd)
    rw [HMM.out] at HR
    go_wp2_with fail
    refine HR.out.mono ?_
    rintro e w3 ⟨rfl, ha3, ho3⟩
    have HS4 := Lib.hid (HS3.out.read ha3 ho3)
    clear ha3 ho3 HR HS3 c0 hvl
    go_wp2_with fail
    go_loopw [45] (fun iv wr => ∃ (i : Nat) (ns : List ByteArray) (us : List Val) (an ax : Option Addr) (cn cx q m' : Nat), iv = .int .i64 i ∧ i ≤ n ∧ q ≤ s.size ∧ m' ≤ 200 ∧ us.length ≤ n ∧ Hid (us.length = i) ∧ ns.length ≤ i ∧ Hid (Come s (rdV s d) true n q0 (m + 1) ns (us.map Val.erase) i q m') ∧
      Hid (RS 37 w wr g V s q (m' : Int) [.int .i64 6, .int .i64 0, .float .f64 0, .string ⟨#[]⟩, .slice an ns.length cn, .slice ax us.length cx]) ∧ Hid (Gath valE 37 (V + 1) wr ns us (.slice an ns.length cn) (.slice ax us.length cx))) (fun iv _ => n - (intOf iv).toNat)
    case atStart => exact ⟨0, [], [], none, none, 0, 0, q0, m + 1, rfl, by omega, hq0s, hm1, by simp, Lib.hid rfl, by simp, Lib.hid come_start, HS4, Lib.hid (gath_start _)⟩
    case round =>
      obtain ⟨i, ns, us, an, ax, cn, cx, q, m', rfl, hi, hqs, hm', hul, HUL, hnl, HCM, HRS, HG⟩ := hrel
      clear HS4
      have c0 := HRS.out.cell 0; have cn0 := HRS.out.cell 4; have cx0 := HRS.out.cell 5; have hvl := HRS.out.vlt
      simp only [List.getElem?_cons_zero, List.getElem?_cons_succ] at c0 cn0 cx0
      by_cases hlt : i < n
      · have j1 : decide ((i : Int) < (n : Int)) = true := by simp; omega
        have i6 : ((6 : Int) == 6) = true := rfl
        cases ht : readS s q 30 with
        | error k =>
          have HC := Lib.hid (fun (W : World) (h : At W g s q (m' : Int)) => rstr_any s q (m' : Int) 30 g W hs hqs (by omega) (by omega) h)
          rw [ht] at HC
          have HE : Hid (rdV s (d + 1) p m = .error k) := Lib.hid (by rw [HED.out, HCM.out.name_bad hlt ht])
          clear ht
          go_wp2_with fail
          refine wp_region_held_drew (S := (fun W => W.cell? ⟨V, 4, none⟩ = some (Value.slice an ns.length cn))) (by kernel_rfl) cn0 (fun hHeld => ?_)
          refine held_take (i := 0) (d := some 50) (v := ?_) rfl rfl (by kernel_rfl) (by kernel_rfl) (by kernel_rfl) (fun _ _ _ h => h) (by rfl) ?_ hHeld ?_
          rotate_left
          · (intro w hSw; (try dsimp only at hSw); go_simp; try with_reducible rfl)
          try simp only [Act.put, List.setIfInBounds_toArray, List.set_cons_zero, List.set_cons_succ]
          refine held_take (i := 1) (d := some 51) (v := ?_) rfl rfl (by kernel_rfl) (by kernel_rfl) (by kernel_rfl) (fun _ _ _ h => h) (by rfl) ?_ hHeld ?_
          rotate_left
          · (intro w hSw; (try dsimp only at hSw); go_simp; try with_reducible rfl)
          try simp only [Act.put, List.setIfInBounds_toArray, List.set_cons_zero, List.set_cons_succ]
          refine held_take (i := 2) (d := some 52) (v := ?_) rfl rfl (by kernel_rfl) (by kernel_rfl) (by kernel_rfl) (fun _ _ _ h => h) (by rfl) ?_ hHeld ?_
          rotate_left
          · (intro w hSw; (try dsimp only at hSw); go_simp; try with_reducible rfl)
          try simp only [Act.put, List.setIfInBounds_toArray, List.set_cons_zero, List.set_cons_succ]
          refine held_only (i := 3) (by kernel_rfl) rfl (by rfl) (fun K hK => ?_)
          go_simp
          go_at_call 178
          refine (HC.out _ (HRS.out.rd.drew)).mono ?_
          rintro e w6 ⟨rfl, ho6⟩
          have ho := (HRS.out.only.drew).trans ho6
          unfold gives
          go_wp2
          refine ⟨rfl, ho, ?_⟩
          rw [HE.out]
          rfl
        | ok tq =>
          obtain ⟨t, q1⟩ := tq
          obtain ⟨hqq, hq1s, htz⟩ := readS_lt ht
          have HC := Lib.hid (fun (W : World) (h : At W g s q (m' : Int)) => rstr_any s q (m' : Int) 30 g W hs hqs (by omega) (by omega) h)
          rw [ht] at HC
          have HT := Lib.hid ht
          clear ht
          go_upto_region 19 with fail
          go_cut [45] (fun iv wx => iv = .int .i64 i ∧ ∃ (ns2 : List ByteArray) (an2 : Option Addr) (cn2 : Nat), Hid (ns2 = ns ++ [t]) ∧ Hid (RS 37 w wx g V s q1 (m' : Int) [.int .i64 6, .int .i64 0, .float .f64 0, .string ⟨#[]⟩, .slice an2 ns2.length cn2, .slice ax us.length cx]) ∧ Hid (Gath valE 37 (V + 1) wx ns2 us (.slice an2 ns2.length cn2) (.slice ax us.length cx)))
          case first =>
            have hvB : V + 1 ≤ wr.heap.size := HRS.out.vlt
            go_region_law (first
              | (refine step_append_any (w := w6.alloc (.cells #[.string t] 9)) rfl (.tmp 51) (.tmp 54) 34 rfl (V + 1) 9 i1 (.string ByteArray.empty) 1 16 Tryz.underlying34 hi1 hy0 hy1 hy2 rfl (by decide) (.slice an ns.length cn) ns.length (ns.map Value.string) rfl HOWN6.out (w6.heap.size + 1) (some ⟨w6.heap.size, 0, none⟩) 1 1 [.string t] rfl HRED.out (one_str t) (by unfold maxLen; omega) (by omega) (by simp; omega) ?_;
                 intro v' w8 hown' hgrow hor;
                 have hg8 := Gath.name (HG6.out.alloc (.cells #[.string t] 9)) (by simp; omega) hown' hgrow hor;
                 have hr8 := HR6.out.grow hgrow (fun k hk => HG6.out.nge hk);
                 obtain ⟨an', cn', rfl⟩ := own_form hown';
                 have c8 := hr8.cell 4; have f8 := hr8.frozen 4; have v8 := hr8.vlt;
                 simp only [List.getElem?_cons_zero, List.getElem?_cons_succ] at c8;
                 have HG8 := Lib.hid hg8; have HR8 := Lib.hid hr8;
                 clear hg8 hr8 hown' hgrow hor)
              | (go_simp; go_at_call 178; refine (HC.out _ (HRS.out.rd.drew)).mono ?_; rintro e w6 ⟨rfl, ha6, ho6⟩;
                 have ho6' := ((Only.refl wr g).drew).trans ho6;
                 have hz6 := ho6'.size;
                 have hr6 := HRS.out.read ha6 ho6';
                 have hg6 := HG.out.only ho6' (by have := hr6.lt; omega);
                 have c6 := hr6.cell 4; have v6 := hr6.vlt;
                 simp only [List.getElem?_cons_zero, List.getElem?_cons_succ] at c6;
                 have hred := reads_one w6 (.string t) 9;
                 have hown6 := hg6.names.alloc (.cells #[.string t] 9);
                 have HR6 := Lib.hid hr6; have HG6 := Lib.hid hg6; have HRED := Lib.hid hred; have HOWN6 := Lib.hid hown6;
                 clear ha6 ho6 ho6' hr6 hg6 hred hown6))
            all_goals
              have HRS9 := Lib.hid (HR8.out.set_ 4 (.slice an' (ns.length + 1) cn'))
              have HG9 := Lib.hid (HG8.out.set_ (p := ⟨V, 4, none⟩) (by simp) (.slice an' (ns.length + 1) cn'))
              go_wp2
              go_meet
              exact ⟨rfl, ns ++ [t], an', cn', Lib.hid rfl, by simpa using HRS9, by simpa using HG9⟩
          case rest =>
          obtain ⟨rfl, ns2, an2, cn2, HN2, HRS2, HG2⟩ := hcut
          have hn2 : ns2.length ≤ i + 1 := by rw [HN2.out]; simp; omega
          clear HRS HG c0 cn0 cx0 hvl HC
          have HRS := HRS2
          have HG := HG2
          clear HRS2 HG2
          have c0 := HRS.out.cell 0; have cn0 := HRS.out.cell 4; have cx0 := HRS.out.cell 5; have hvl := HRS.out.vlt
          simp only [List.getElem?_cons_zero, List.getElem?_cons_succ] at c0 cn0 cx0
          cases hr : rdV s d q1 m' with
          | error k =>
            have HC := Lib.hid (fun (W : World) (h : At W g s q1 (m' : Int)) => HIH.out q1 m' g W (by omega) hm' h)
            rw [hr] at HC
            have HE : Hid (rdV s (d + 1) p m = .error k) := Lib.hid (by rw [HED.out, (HCM.out.item_bad1 hlt HT.out hr)])
            clear hr
            go_wp2_with fail
            refine wp_region_held_drew (S := (fun W => W.cell? ⟨V, 5, none⟩ = some (Value.slice ax us.length cx))) (by kernel_rfl) cx0 (fun hHeld => ?_)
            refine held_take (i := 0) (d := some 57) (v := ?_) rfl rfl (by kernel_rfl) (by kernel_rfl) (by kernel_rfl) (fun _ _ _ h => h) (by rfl) ?_ hHeld ?_
            rotate_left
            · (intro w hSw; (try dsimp only at hSw); go_simp; try with_reducible rfl)
            try simp only [Act.put, List.setIfInBounds_toArray, List.set_cons_zero, List.set_cons_succ]
            refine held_take (i := 1) (d := some 58) (v := ?_) rfl rfl (by kernel_rfl) (by kernel_rfl) (by kernel_rfl) (fun _ _ _ h => h) (by rfl) ?_ hHeld ?_
            rotate_left
            · (intro w hSw; (try dsimp only at hSw); go_simp; try with_reducible rfl)
            try simp only [Act.put, List.setIfInBounds_toArray, List.set_cons_zero, List.set_cons_succ]
            refine held_take (i := 2) (d := some 59) (v := ?_) rfl rfl (by kernel_rfl) (by kernel_rfl) (by kernel_rfl) (fun _ _ _ h => h) (by rfl) ?_ hHeld ?_
            rotate_left
            · (intro w hSw; (try dsimp only at hSw); go_simp; try with_reducible rfl)
            try simp only [Act.put, List.setIfInBounds_toArray, List.set_cons_zero, List.set_cons_succ]
            refine held_take (i := 3) (d := some 60) (v := ?_) rfl rfl (by kernel_rfl) (by kernel_rfl) (by kernel_rfl) (fun _ _ _ h => h) (by rfl) ?_ hHeld ?_
            rotate_left
            · (intro w hSw; (try dsimp only at hSw); go_simp; try with_reducible rfl)
            try simp only [Act.put, List.setIfInBounds_toArray, List.set_cons_zero, List.set_cons_succ]
            refine held_take (i := 4) (d := some 61) (v := ?_) rfl rfl (by kernel_rfl) (by kernel_rfl) (by kernel_rfl) (fun _ _ _ h => h) (by rfl) ?_ hHeld ?_
            rotate_left
            · (intro w hSw; (try dsimp only at hSw); go_simp; try with_reducible rfl)
            try simp only [Act.put, List.setIfInBounds_toArray, List.set_cons_zero, List.set_cons_succ]
            refine held_only (i := 5) (by kernel_rfl) rfl (by rfl) (fun K hK => ?_)
            go_simp
            go_at_call 153
            refine (HC.out _ (HRS.out.rd.drew)).mono ?_
            rintro e w6 ⟨ho6, rfl⟩
            have ho := (HRS.out.only.drew).trans ho6
            unfold gives
            go_wp2
            refine ⟨rfl, ho, ?_⟩
            rw [HE.out]
            rfl
          | ok x =>
            obtain ⟨v, q2, m2⟩ := x
            have hlts := rdV_lt s d q1 m' v q2 m2 (by omega) hm' hr
            have HC := Lib.hid (fun (W : World) (h : At W g s q1 (m' : Int)) => HIH.out q1 m' g W (by omega) hm' h)
            rw [hr] at HC
            have HCM2 := Lib.hid (HN2.out ▸ HCM.out.next1 hlt HT.out hr)
            have HZS := Lib.hid (fun b (hb : (Value.slice an2 ns2.length cn2).ownBlock = some b) => HG.out.nlt hb)
            have HZX := Lib.hid (fun b (hb : (Value.slice ax us.length cx).ownBlock = some b) => HG.out.xlt hb)
            clear hr
            go_wp2_with fail
            have hvB : V + 1 ≤ wc.heap.size := HRS.out.vlt
            go_region_law (first
              | (refine step_append_any (w := w6.alloc (.cells #[.int .i64 u.k, .int .i64 u.n, .float .f64 u.f, .string u.s, .slice a4 u.ns.length b4, .slice a5 u.xs.length b5] 37)) rfl (.tmp 58) (.tmp 63) 35 rfl (V + 1) 37 i0 (.agg #[.int .i64 0, .int .i64 0, .float .f64 0, .string ByteArray.empty, .slice none 0 0, .slice none 0 0]) 6 88 Tryz.underlying35 hi0 hz0 hz1 hz2 rfl (by decide) (.slice ax us.length cx) us.length (valE.row us) rfl HOWN6.out (w6.heap.size + 1) (some ⟨w6.heap.size, 0, none⟩) 1 1 u.cells rfl HRED.out (valE.one u) (by unfold maxLen; omega) (by omega) (by simp; omega) ?_;
                 intro v' w8 hown' hgrow hor;
                 have hg8 := Gath.item (HG6.out.alloc (.cells #[.int .i64 u.k, .int .i64 u.n, .float .f64 u.f, .string u.s, .slice a4 u.ns.length b4, .slice a5 u.xs.length b5] 37)) (by simp; omega) (HUI.out.below ((Below.refl _ w6).alloc (Nat.le_refl _) (.cells #[.int .i64 u.k, .int .i64 u.n, .float .f64 u.f, .string u.s, .slice a4 u.ns.length b4, .slice a5 u.xs.length b5] 37))) HUS.out hvB HZS.out HZX.out hown' hgrow hor;
                 have hr8 := HR6.out.grow hgrow (fun k hk => HG6.out.xge hk);
                 obtain ⟨ax', cx', rfl⟩ := own_form hown';
                 have c8 := hr8.cell 5; have f8 := hr8.frozen 5; have v8 := hr8.vlt;
                 simp only [List.getElem?_cons_zero, List.getElem?_cons_succ] at c8;
                 have HG8 := Lib.hid hg8; have HR8 := Lib.hid hr8;
                 clear hg8 hr8 hown' hgrow hor)
              | (go_simp; go_at_call 153; refine (HC.out _ (HRS.out.rd.drew)).mono ?_; rintro e w6 ⟨ho6, u, rfl, hue, hui, hus, ha6⟩;
                 obtain ⟨a4, b4, k4⟩ := hui.nslice;
                 obtain ⟨a5, b5, k5⟩ := hui.xslice;
                 unfold Val.agg;
                 rw [k4, k5];
                 have ho6' := ((Only.refl wc g).drew).trans ho6;
                 have hz6 := ho6'.size;
                 have hr6 := HRS.out.read ha6 ho6';
                 have hg6 := HG.out.only ho6' (by have := hr6.lt; omega);
                 have c6 := hr6.cell 5; have v6 := hr6.vlt;
                 simp only [List.getElem?_cons_zero, List.getElem?_cons_succ] at c6;
                 have hred : Reads (w6.alloc (.cells #[.int .i64 u.k, .int .i64 u.n, .float .f64 u.f, .string u.s, .slice a4 u.ns.length b4, .slice a5 u.xs.length b5] 37)) (w6.heap.size + 1) 6 (some ⟨w6.heap.size, 0, none⟩) 1 u.cells := by
                   unfold Val.cells; rw [k4, k5]; exact reads_row w6 _ 37;
                 have hown6 := hg6.items.alloc (.cells #[.int .i64 u.k, .int .i64 u.n, .float .f64 u.f, .string u.s, .slice a4 u.ns.length b4, .slice a5 u.xs.length b5] 37);
                 have HR6 := Lib.hid hr6; have HG6 := Lib.hid hg6; have HRED := Lib.hid hred; have HOWN6 := Lib.hid hown6; have HUI := Lib.hid hui; have HUS := Lib.hid hus; have HUE := Lib.hid hue;
                 clear ha6 ho6 ho6' hr6 hg6 hred hown6 hui hus hue k4 k5))
            all_goals
              have HRS9 := Lib.hid (HR8.out.set_ 5 (.slice ax' (us.length + 1) cx'))
              have HG9 := Lib.hid (HG8.out.set_ (p := ⟨V, 5, none⟩) (by simp) (.slice ax' (us.length + 1) cx'))
              go_wp2
              go_roundw
              case rel => exact ⟨i + 1, ns2, us ++ [u], an2, ax', cn2, cx', q2, m2, by go_num, by omega, by omega, by omega, by simp [HUL.out]; omega, Lib.hid (by simp [HUL.out]), by omega, Lib.hid (by rw [List.map_append, List.map_cons, List.map_nil, HUE.out]; exact HCM2.out), by simpa using HRS9, by simpa using HG9⟩
              case measure => simp [intOf]; omega
      · have j1 : decide ((i : Int) < (n : Int)) = false := by simp; omega
        obtain rfl : i = n := by omega
        have hdone := HCM.out.done
        have hfacts := rdL_lt (fun p m v q m' => rdV_lt s d p m v q m') i q0 (m + 1) ns (us.map Val.erase) q m' hq0s hm1 hdone
        have HE : Hid (rdV s (d + 1) p m = .ok (Val.node 6 ns (us.map Val.erase), q, m')) := Lib.hid (by rw [HED.out, hdone])
        have HTN := Lib.hid hfacts.2.2.2.2.2.2
        clear hdone hfacts c0 cn0 cx0
        have e0 := HRS.out.cell 0; have e1 := HRS.out.cell 1; have e2 := HRS.out.cell 2; have e3 := HRS.out.cell 3; have e4 := HRS.out.cell 4; have e5 := HRS.out.cell 5
        have f0 := HRS.out.frozen 0; have f1 := HRS.out.frozen 1; have f2 := HRS.out.frozen 2; have f3 := HRS.out.frozen 3; have f4 := HRS.out.frozen 4; have f5 := HRS.out.frozen 5
        simp only [List.getElem?_cons_zero, List.getElem?_cons_succ] at e0 e1 e2 e3 e4 e5
        obtain ⟨WF, hWF⟩ : ∃ WF, WF = ((((((wr.setCell ⟨V, 0, none⟩ (.int .i64 6)).setCell ⟨V, 1, none⟩ (.int .i64 0)).setCell ⟨V, 2, none⟩ (.float .f64 0)).setCell ⟨V, 3, none⟩ (.string ⟨#[]⟩)).setCell ⟨V, 4, none⟩ (.slice an ns.length cn)).setCell ⟨V, 5, none⟩ (.slice ax us.length cx)) := ⟨_, rfl⟩
        have HSF : Hid (RS 37 w WF g V s _ _ [.int .i64 6, .int .i64 0, .float .f64 0, .string ⟨#[]⟩, .slice an ns.length cn, .slice ax us.length cx]) := Lib.hid (by rw [hWF]; exact HRS.out.six _ _ _ _ _ _)
        have HWF := Lib.hid hWF
        clear hWF
        go_wp2_with fail
        rw [← HWF.out]
        clear e0 e1 e2 e3 e4 e5 f0 f1 f2 f3 f4 f5
        have e0 := HSF.out.cell 0; have e1 := HSF.out.cell 1; have e2 := HSF.out.cell 2; have e3 := HSF.out.cell 3; have e4 := HSF.out.cell 4; have e5 := HSF.out.cell 5
        simp only [List.getElem?_cons_zero, List.getElem?_cons_succ] at e0 e1 e2 e3 e4 e5
        refine bodyPost_ret (v := .agg #[.int .i64 6, .int .i64 0, .float .f64 0, .string ⟨#[]⟩, .slice an ns.length cn, .slice ax us.length cx]) (by simp [results, Tryz.results153, go_sem, e0, e1, e2, e3, e4, e5]) rfl ?_
        exact node_end HSF.out (by rw [HWF.out]; exact HG.out.only (stored6' HRS.out.blk _ _ _ _ _ _).2 (by omega)) HE.out (by unfold i64r; omega) (by omega) (by omega) HTN.out

/-- A value, whatever the bytes. -/
theorem rvalue_any (s : ByteArray) (hs : s.size ≤ 100000) (d : Nat) : ∀ (deep p m g : Nat) (w : World), deep + d = 13 → p ≤ s.size → m ≤ 200 → At w g s p (m : Int) →
    Calls Tryz.prog 153 #[.pointer (some ⟨g, 0, none⟩), .int .i64 deep] w fun e w' => ValRead (rdV s d p m) s g w e w' := by
  induction d with
  | zero =>
    intro deep p m g w hd hp hm h
    obtain rfl : deep = 13 := by omega
    exact rv_deep s hs p m g w hp hm h
  | succ d ih =>
    intro deep p m g w hd hp hm h
    have hd' : deep + d = 12 := by omega
    by_cases hm1 : m + 1 ≤ 200
    case neg => exact rv_begin s hs d p m deep g w hd' hp hm (by omega) h
    by_cases hin : p < s.size
    case neg => exact rv_torn s hs d p m deep g w hd' hp hm hm1 hin h
    by_cases h1 : (byteAt s p).toNat = 1
    · by_cases h2 : p + 1 < s.size
      case neg => exact rv_bool_torn s hs d p m deep g w hd' hp hm hm1 hin h1 h2 h
      by_cases h3 : (byteAt s (p + 1)).toNat ≤ 1
      case neg => exact rv_bool_bad s hs d p m deep g w hd' hp hm hm1 hin h1 h2 h3 h
      exact rv_bool s hs d p m deep g w hd' hp hm hm1 hin h1 h2 h3 h
    by_cases h2 : (byteAt s p).toNat = 2
    · cases hu : readU s (p + 1) 0 0 with
      | error k => exact rv_int_bad s hs d p m deep g w hd' hp hm hm1 hin h2 k hu h
      | ok x => exact rv_int s hs d p m deep g w hd' hp hm hm1 hin h2 x.1 x.2 hu h
    by_cases h3 : (byteAt s p).toNat = 3
    · cases hu : readF s (p + 1) with
      | error k => exact rv_float_bad s hs d p m deep g w hd' hp hm hm1 hin h3 k hu h
      | ok x => exact rv_float s hs d p m deep g w hd' hp hm hm1 hin h3 x.1 x.2 hu h
    by_cases h4 : (byteAt s p).toNat = 4
    · cases hu : readS s (p + 1) 200 with
      | error k => exact rv_str_bad s hs d p m deep g w hd' hp hm hm1 hin h4 k hu h
      | ok x => exact rv_str s hs d p m deep g w hd' hp hm hm1 hin h4 x.1 x.2 hu h
    have ih' := fun (p m g : Nat) (w : World) hp hm h => ih (deep + 1) p m g w (by omega) hp hm h
    by_cases h5 : (byteAt s p).toNat = 5
    · exact rv_list s hs d p m deep g w hd' hp hm hm1 hin h5 ih' h
    by_cases h6 : (byteAt s p).toNat = 6
    · exact rv_rec s hs d p m deep g w hd' hp hm hm1 hin h6 ih' h
    exact rv_other s hs d p m deep g w hd' hp hm hm1 hin (by omega) h
end Go.Proofs.YtaamihdibpioaaaGreat

/- The code's reader: a type, whatever the bytes (printed by wip/gen_rdtyp.py). -/
namespace Go.Proofs.YtaamihdibpioaaaGreat
set_option linter.unusedVariables false
open Go.RowKit

end Go.Proofs.YtaamihdibpioaaaGreat
