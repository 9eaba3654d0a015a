/- The document's parser: the five texts of basculelaw09.awake. -/
import Derived.Test.YtjpdbhhjlnmacaaGreatTjM23
import Derived.Test.YtjpdbhhjlnmacaaGreatTjM47
namespace Go.Proofs.YtjpdbhhjlnmacaaGreat
set_option linter.unusedVariables false
open Go.RowKit

section
variable {p : Nat} {tp : Option Addr} {tc : Nat} {ts : List Tok} {en i j l d : Nat} {Q P : Exp → Prop}
/-- No sign of these is next. -/
def noSign (ts : List Tok) (i : Nat) (l : List (List UInt8)) : Bool := l.all fun s => !tokIs ts i ⟨s.toArray⟩
theorem noSign_at {l : List (List UInt8)} (h : noSign ts i l = true) (s : List UInt8) (hs : s ∈ l) : tokIs ts i ⟨s.toArray⟩ = false := by
  have := List.all_eq_true.1 h s hs
  simpa using this
theorem prod_of (hin : ∀ w, PS w p tp tc ts en i (d + 1) → Calls Tryz.prog 138 #[.pointer (some ⟨p, 0, none⟩)] w fun e w' => PX Q p tp tc ts en j (d + 1) w e w') (hi : i < 1000000) (hj : j < 1000000) (hd : d < 100) (n0 : noSign ts i [[45], [33]] = true) (n1 : noSign ts j [[46], [91], [42], [47], [37]] = true) (w : World) (h : PS w p tp tc ts en i d) :
    Calls Tryz.prog 134 #[.pointer (some ⟨p, 0, none⟩)] w fun e w' => PX Q p tp tc ts en j d w e w' :=
  prod_pass (fun w h => unary_pass (fun w h => post_pass hin (by omega) (noSign_at n1 [46] (by simp)) (noSign_at n1 [91] (by simp)) w h) (by omega) hd (noSign_at n0 [45] (by simp)) (noSign_at n0 [33] (by simp)) w h) (by omega) (noSign_at n1 [42] (by simp)) (noSign_at n1 [47] (by simp)) (noSign_at n1 [37] (by simp)) w h
theorem sum_of (hin : ∀ w, PS w p tp tc ts en i (d + 1) → Calls Tryz.prog 138 #[.pointer (some ⟨p, 0, none⟩)] w fun e w' => PX Q p tp tc ts en j (d + 1) w e w') (hi : i < 1000000) (hj : j < 1000000) (hd : d < 100) (n0 : noSign ts i [[45], [33]] = true) (n1 : noSign ts j [[46], [91], [42], [47], [37]] = true) (n2 : noSign ts j [[43], [45]] = true) (w : World) (h : PS w p tp tc ts en i d) :
    Calls Tryz.prog 133 #[.pointer (some ⟨p, 0, none⟩)] w fun e w' => PX Q p tp tc ts en j d w e w' :=
  sum_pass (fun w h => prod_of hin hi hj hd n0 n1 w h) (by omega) (noSign_at n2 [43] (by simp)) (noSign_at n2 [45] (by simp)) w h
theorem expr_of_sum (hin : ∀ w, PS w p tp tc ts en i (d + 1) → Calls Tryz.prog 133 #[.pointer (some ⟨p, 0, none⟩)] w fun e w' => PX Q p tp tc ts en j (d + 1) w e w') (hj : j < 1000000) (hd : d < 100) (n1 : noSign ts j [[61, 61], [60, 61], [60], [38, 38], [124, 124], [63]] = true) (w : World) (h : PS w p tp tc ts en i d) :
    Calls Tryz.prog 64 #[.pointer (some ⟨p, 0, none⟩)] w fun e w' => PX Q p tp tc ts en j d w e w' :=
  expr_pass (fun w h => or_pass (fun w h => and_pass (fun w h => cmp_pass hin (by omega) (noSign_at n1 [61, 61] (by simp)) (noSign_at n1 [60, 61] (by simp)) (noSign_at n1 [60] (by simp)) w h) (by omega) (noSign_at n1 [38, 38] (by simp)) w h) (by omega) (noSign_at n1 [124, 124] (by simp)) w h) (by omega) hd (noSign_at n1 [63] (by simp)) w h
/-- A name, a number, a float. -/
theorem nameP_at (s : ByteArray) (a n : Int) (ht : ts[i]? = some (Tok.mk 5 a n 0 0 s)) (hs : strok s) (m : (s.toList.length == 1) = true) (hi : i < 1000000) (n0 : noSign ts i [[40], [91], [123]] = true) (w : World) (h : PS w p tp tc ts en i d) :
    Calls Tryz.prog 138 #[.pointer (some ⟨p, 0, none⟩)] w fun e w' => PX (fun x => x = leafX 2 s 0 0 0 ⟨#[]⟩) p tp tc ts en (i + 1) d w e w' := by
  have hm : s.toList.length = 1 := by simpa using m
  exact prim_name _ ht rfl hs (list_ne_len (by simp [hm])) (list_ne_len (by simp [hm])) (list_ne_len (by simp [hm])) (list_ne_len (by simp [hm])) (list_ne_len (by simp [hm])) (list_ne_len (by simp [hm])) (by omega) (noSign_at n0 [40] (by simp)) (noSign_at n0 [91] (by simp)) (noSign_at n0 [123] (by simp)) w h
theorem numP_at (v a n : Int) (ht : ts[i]? = some (Tok.mk 2 a n v 0 ⟨#[]⟩)) (hv : i64r v) (hi : i < 1000000) (n0 : noSign ts i [[40], [91], [123]] = true) (w : World) (h : PS w p tp tc ts en i d) :
    Calls Tryz.prog 138 #[.pointer (some ⟨p, 0, none⟩)] w fun e w' => PX (fun x => x = leafX 1 ⟨#[]⟩ 2 v 0 ⟨#[]⟩) p tp tc ts en (i + 1) d w e w' :=
  prim_num _ ht rfl hv (by omega) (noSign_at n0 [40] (by simp)) (noSign_at n0 [91] (by simp)) (noSign_at n0 [123] (by simp)) w h
theorem fltP_at (f : Nat) (a n : Int) (ht : ts[i]? = some (Tok.mk 3 a n 0 f ⟨#[]⟩)) (hf : f < 18446744073709551616) (hi : i < 1000000) (n0 : noSign ts i [[40], [91], [123]] = true) (w : World) (h : PS w p tp tc ts en i d) :
    Calls Tryz.prog 138 #[.pointer (some ⟨p, 0, none⟩)] w fun e w' => PX (fun x => x = leafX 1 ⟨#[]⟩ 3 0 f ⟨#[]⟩) p tp tc ts en (i + 1) d w e w' :=
  prim_flt _ ht rfl hf (by omega) (noSign_at n0 [40] (by simp)) (noSign_at n0 [91] (by simp)) (noSign_at n0 [123] (by simp)) w h
end

abbrev xX : Exp := leafX 2 ⟨#[120]⟩ 0 0 0 ⟨#[]⟩
abbrev yX : Exp := leafX 2 ⟨#[121]⟩ 0 0 0 ⟨#[]⟩
abbrev nX (v : Int) : Exp := leafX 1 ⟨#[]⟩ 2 v 0 ⟨#[]⟩
abbrev fX : Exp := leafX 1 ⟨#[]⟩ 3 0 4607182418800017408 ⟨#[]⟩
def Q4 (x : Exp) : Prop := x = yX
def Q5 (x : Exp) : Prop := x = listX .no []
def Q3 (x : Exp) : Prop := SumQ (fun x => x = xX) (fun x => x = fX) x
def Q2 (x : Exp) : Prop := SumQ (fun x => x = listX .no []) (fun x => ∃ xa y, x = listX xa [y] ∧ y = nX 1) x
def Q1 (x : Exp) : Prop := ∃ g a b, x = Exp.two 11 (.at_ g 0 2) a b ∧ SumQ (fun x => x = xX) (fun x => x = nX 1) a ∧ b = nX 2
theorem strok1 (c : UInt8) : strok ⟨#[c]⟩ := by show (⟨#[c]⟩ : ByteArray).size ≤ _; show 1 ≤ _; omega

theorem parse_tx4 (w : World) : Calls Tryz.prog 45 #[.string tx4] w fun e w' => ∃ x : Exp, e = .returned (.tuple #[x.agg, .int .i64 0, .int .i64 0]) ∧ Q4 x ∧ x.In w' ∧ x.Sep (fun b => w.heap.size ≤ b) ∧ Below w.heap.size w w' :=
  parse_ok tx4 tx4T tx4P Q4 (by decide) tx4_lexed (by decide) (fun w p tp tc h => expr_of_sum (j := 1) (fun w h => sum_of (i := 0) (j := 1) (fun w h => nameP_at (i := 0) ⟨#[121]⟩ _ _ rfl (strok1 _) (by kernel_rfl) (by omega) (by kernel_rfl) w h) (by omega) (by omega) (by omega) (by kernel_rfl) (by kernel_rfl) (by kernel_rfl) w h) (by decide) (by omega) (by kernel_rfl) w h)
    (fun x hx => by rw [show x = yX from hx]; kernel_rfl) w
theorem parse_tx5 (w : World) : Calls Tryz.prog 45 #[.string tx5] w fun e w' => ∃ x : Exp, e = .returned (.tuple #[x.agg, .int .i64 0, .int .i64 0]) ∧ Q5 x ∧ x.In w' ∧ x.Sep (fun b => w.heap.size ≤ b) ∧ Below w.heap.size w w' :=
  parse_ok tx5 tx5T tx5P Q5 (by decide) tx5_lexed (by decide) (fun w p tp tc h => expr_of_sum (j := 2) (fun w h => sum_of (i := 0) (j := 2) (fun w h => prim_list (i := 0) (j := 2) (fun w h => list_nil (i := 1) (by omega) (by kernel_rfl) w h) (by omega) (by kernel_rfl) (by kernel_rfl) w h) (by omega) (by omega) (by omega) (by kernel_rfl) (by kernel_rfl) (by kernel_rfl) w h) (by decide) (by omega) (by kernel_rfl) w h)
    (fun x hx => by rw [show x = listX .no [] from hx]; kernel_rfl) w
theorem parse_tx3 (w : World) : Calls Tryz.prog 45 #[.string tx3] w fun e w' => ∃ x : Exp, e = .returned (.tuple #[x.agg, .int .i64 0, .int .i64 0]) ∧ Q3 x ∧ x.In w' ∧ x.Sep (fun b => w.heap.size ≤ b) ∧ Below w.heap.size w w' :=
  parse_ok tx3 tx3T tx3P Q3 (by decide) tx3_lexed (by decide) (fun w p tp tc h => expr_of_sum (fun w h => sum_plus (j := 1)
      (fun w h => prod_of (fun w h => nameP_at ⟨#[120]⟩ _ _ rfl (strok1 _) (by kernel_rfl) (by omega) (by kernel_rfl) w h) (by omega) (by omega) (by omega) (by kernel_rfl) (by kernel_rfl) w h)
      (fun w h => prod_of (fun w h => fltP_at 4607182418800017408 _ _ rfl (by decide) (by omega) (by kernel_rfl) w h) (by omega) (by omega) (by omega) (by kernel_rfl) (by kernel_rfl) w h)
      (by decide) (by decide) (by kernel_rfl) (by kernel_rfl) (by kernel_rfl) w h) (by decide) (by omega) (by kernel_rfl) w h)
    (fun x hx => by obtain ⟨g, a, b, rfl, rfl, rfl⟩ := hx; kernel_rfl) w
theorem parse_tx2 (w : World) : Calls Tryz.prog 45 #[.string tx2] w fun e w' => ∃ x : Exp, e = .returned (.tuple #[x.agg, .int .i64 0, .int .i64 0]) ∧ Q2 x ∧ x.In w' ∧ x.Sep (fun b => w.heap.size ≤ b) ∧ Below w.heap.size w w' :=
  parse_ok tx2 tx2T tx2P Q2 (by decide) tx2_lexed (by decide) (fun w p tp tc h => expr_of_sum (fun w h => sum_plus (j := 2)
      (fun w h => prod_of (fun w h => prim_list (fun w h => list_nil (by omega) (by kernel_rfl) w h) (by omega) (by kernel_rfl) (by kernel_rfl) w h) (by omega) (by omega) (by omega) (by kernel_rfl) (by kernel_rfl) w h)
      (fun w h => prod_of (fun w h => prim_list (fun w h => list_one (j := 5) (fun w h => expr_of_sum (fun w h => sum_of (fun w h => numP_at 1 _ _ rfl (by unfold i64r; decide) (by omega) (by kernel_rfl) w h) (by omega) (by omega) (by omega) (by kernel_rfl) (by kernel_rfl) (by kernel_rfl) w h) (by decide) (by omega) (by kernel_rfl) w h) (by omega) (by omega) (by kernel_rfl) (by kernel_rfl) (by kernel_rfl) w h) (by omega) (by kernel_rfl) (by kernel_rfl) w h) (by omega) (by omega) (by omega) (by kernel_rfl) (by kernel_rfl) w h)
      (by decide) (by decide) (by kernel_rfl) (by kernel_rfl) (by kernel_rfl) w h) (by decide) (by omega) (by kernel_rfl) w h)
    (fun x hx => by obtain ⟨g, a, b, rfl, rfl, xa, y, rfl, rfl⟩ := hx; kernel_rfl) w
theorem parse_tx1 (w : World) : Calls Tryz.prog 45 #[.string tx1] w fun e w' => ∃ x : Exp, e = .returned (.tuple #[x.agg, .int .i64 0, .int .i64 0]) ∧ Q1 x ∧ x.In w' ∧ x.Sep (fun b => w.heap.size ≤ b) ∧ Below w.heap.size w w' :=
  parse_ok tx1 tx1T tx1P Q1 (by decide) tx1_lexed (by decide) (fun w p tp tc h => expr_pass (fun w h => or_pass (fun w h => and_pass (fun w h => cmp_less (j := 3)
      (fun w h => sum_plus (j := 1)
        (fun w h => prod_of (fun w h => nameP_at ⟨#[120]⟩ _ _ rfl (strok1 _) (by kernel_rfl) (by omega) (by kernel_rfl) w h) (by omega) (by omega) (by omega) (by kernel_rfl) (by kernel_rfl) w h)
        (fun w h => prod_of (fun w h => numP_at 1 _ _ rfl (by unfold i64r; decide) (by omega) (by kernel_rfl) w h) (by omega) (by omega) (by omega) (by kernel_rfl) (by kernel_rfl) w h)
        (by decide) (by decide) (by kernel_rfl) (by kernel_rfl) (by kernel_rfl) w h)
      (fun w h => sum_of (fun w h => numP_at 2 _ _ rfl (by unfold i64r; decide) (by omega) (by kernel_rfl) w h) (by omega) (by omega) (by omega) (by kernel_rfl) (by kernel_rfl) (by kernel_rfl) w h)
      (by decide) (by kernel_rfl) (by kernel_rfl) (by kernel_rfl) w h) (by decide) (by kernel_rfl) w h) (by decide) (by kernel_rfl) w h) (by decide) (by omega) (by kernel_rfl) w h)
    (fun x hx => by obtain ⟨g, a, b, rfl, ⟨g', a', b', rfl, rfl, rfl⟩, rfl⟩ := hx; kernel_rfl) w
end Go.Proofs.YtjpdbhhjlnmacaaGreat

/- types.own of any type: the same in memory of its own. -/
namespace Go.Proofs.YtjpdbhhjlnmacaaGreat
set_option linter.unusedVariables false
open Go.RowKit

def Owned (t : Ty) (w : World) (e : Ending) (w' : World) : Prop := ∃ u : Ty, e = .returned u.agg ∧ u.erase = t.erase ∧ u.In w' ∧ u.Sep (fun b => w.heap.size ≤ b) ∧ Below w.heap.size w w'
set_option maxHeartbeats 8000000 in
set_option maxRecDepth 100000 in
theorem own_step (d : Nat) (ih : ∀ (t : Ty) (w : World), t.sz ≤ d → t.In w → Calls Tryz.prog 31 #[t.agg] w fun e w' => Owned t w e w') (t : Ty) (w : World) (hd : t.sz ≤ d + 1) (ht : t.In w) : Calls Tryz.prog 31 #[t.agg] w fun e w' => Owned t w e w' := by
  obtain ⟨W, hW⟩ : ∃ W, W = (w.alloc (.cells #[.int .i64 t.k, t.na.val t.ns.length, t.xa.val t.xs.length] 36)).alloc (.cells #[.int .i64 0, .slice none 0 0, .slice none 0 0] 36) := ⟨_, rfl⟩
  have hBW : Below w.heap.size w W := by rw [hW]; exact ((Below.refl _ w).alloc (Nat.le_refl _) _).alloc (by simp) _
  have hb : Blk W w.heap.size 36 #[.int .i64 t.k, t.na.val t.ns.length, t.xa.val t.xs.length] := by rw [hW]; exact (Blk.new w 36 _).alloc _
  have hbr : Blk W (w.heap.size + 1) 36 #[.int .i64 0, .slice none 0 0, .slice none 0 0] := by
    rw [hW]
    have := Blk.new (w.alloc (.cells #[.int .i64 t.k, t.na.val t.ns.length, t.xa.val t.xs.length] 36)) 36 #[.int .i64 0, .slice none 0 0, .slice none 0 0]
    rw [show (w.alloc (.cells #[.int .i64 t.k, t.na.val t.ns.length, t.xa.val t.xs.length] 36)).heap.size = w.heap.size + 1 from by simp] at this
    exact this
  have hWS : W.heap.size = w.heap.size + 2 := by rw [hW]; simp
  have hcl := clone_any _ t.ns W (TNamesAt.of (ht.below hBW)) ht.ok.2.1
  obtain ⟨p4, q4, e4⟩ := ht.nslice
  obtain ⟨p5, q5, e5, hx⟩ := titems_at ht
  rw [e4, e5] at hW hb
  rw [e4] at hcl
  unfold Ty.agg
  rw [e4, e5]
  obtain ⟨A, hA⟩ : ∃ A, A = w.heap.size := ⟨_, rfl⟩
  rw [← hA] at hb hbr hWS
  obtain ⟨M, hM⟩ : ∃ M, M = t.xs.length := ⟨_, rfl⟩
  rw [← hM] at hW hb ⊢
  have hMb : M ≤ 2513169434843 := by rw [hM]; exact ht.ok.2.2.1
  have c0 := hb.cell 0; have c1 := hb.cell 1; have c2 := hb.cell 2; have f1 := hb.frozen 1
  simp at c0 c1 c2
  obtain ⟨i0, hi0, hz0, hz1, hz2⟩ := info_parts tty_facts'
  have HW := Lib.hid hW; have HBW := Lib.hid hBW; have HB := Lib.hid hb; have HBR := Lib.hid hbr; have HA := Lib.hid hA; have HX := Lib.hid hx; have HM := Lib.hid hM; have HIH := Lib.hid ih; have HOK := Lib.hid ht.ok; have HCL := Lib.hid hcl; have HWS := Lib.hid hWS
  have HMM := Lib.hid (show ∀ y, y ∈ t.xs → y.sz ≤ d from fun y hy => by have := Ty.size_mem hy; omega)
  clear hW hBW hb hbr hA hx hM ih ht hcl hd hWS e4 e5
  go_enter Tryz.func31, Tryz.ntmps31
  go_wp2_with fail
  rw [← HW.out, ← HA.out]
  refine HCL.out.mono ?_
  rintro e w3 ⟨sn, rfl, hlie, hsep, hb3⟩
  obtain ⟨p6, q6, e6⟩ := hlie.slice
  rw [e6]
  have hbA := HB.out.below hb3 HB.out.lt
  have hbR := HBR.out.below hb3 HBR.out.lt
  clear c0 c1 c2 f1
  have c1 := hbA.cell 1; have f1 := hbA.frozen 1
  simp at c1
  obtain ⟨W4, hW4⟩ : ∃ W4, W4 = w3.setCell ⟨A, 1, none⟩ (.slice p6 t.ns.length q6) := ⟨_, rfl⟩
  have hbA4 : Blk W4 A 36 #[.int .i64 t.k, .slice p6 t.ns.length q6, .slice p5 M q5] := by rw [hW4]; exact hbA.set_ 1 _
  have hbR4 : Blk W4 (A + 1) 36 #[.int .i64 0, .slice none 0 0, .slice none 0 0] := by rw [hW4]; exact hbR.far (p := ⟨A, 1, none⟩) (by simp) _
  have hB4 : Below w.heap.size w W4 := by rw [hW4]; exact (HBW.out.trans (hb3.mono HBW.out.size)).setCell (p := ⟨A, 1, none⟩) (by show w.heap.size ≤ A; have := HA.out; omega) _
  have hz4 : W4.heap.size = w3.heap.size := by rw [hW4]; simp [World.setCell]
  have hz3 := hb3.size
  have hlie4 : sn.lies W4 1 t.ns.length (fun i => [.string (t.ns.getD i ByteArray.empty)]) := by
    refine hlie.carryS hsep (fun b o hb _ => ?_) (by omega)
    rw [hW4]
    exact World.cell?_setCell_other w3 ⟨A, 1, none⟩ ⟨b, o, none⟩ _ (fun e => by injection e with e _; have := HB.out.lt; omega)
  have HW4 := Lib.hid hW4; have HA4 := Lib.hid hbA4; have HR4 := Lib.hid hbR4; have HB4 := Lib.hid hB4; have HLI := Lib.hid hlie4; have HSP := Lib.hid hsep; have E6 := Lib.hid e6
  have hW34 : W.heap.size ≤ W4.heap.size := by omega
  clear hW4 hbA4 hbR4 hB4 hlie4 hsep e6 hlie hbA hbR hb3 hz4 hz3
  go_upto_region 2 with fail
  rw [← HW4.out]
  clear c1 f1
  have c2 := HA4.out.cell 2
  simp at c2
  go_wp2_with fail
  clear c2
  go_loopw [3, 13] (fun sv iv wr => ∃ (i : Nat) (us : List Ty) (ax : Option Addr) (cx : Nat), sv = .slice ax us.length cx ∧ iv = .int .i64 (i : Int) ∧ i ≤ M ∧ Hid (us.length = i) ∧ Hid (us.map Ty.erase = (t.xs.take i).map Ty.erase) ∧
    Hid (Rowed tyE (fun _ => False) W4.heap.size 36 wr us (.slice ax us.length cx)) ∧ Hid (Below W4.heap.size W4 wr)) (fun _ iv _ => M - (intOf iv).toNat)
  case atStart => exact ⟨0, [], none, 0, rfl, rfl, by omega, Lib.hid rfl, Lib.hid rfl, Lib.hid (rowed_start _), Lib.hid (Below.refl _ _)⟩
  case round =>
    obtain ⟨i, us, ax, cx, rfl, rfl, hi, HUL, HUE, HG, HBL⟩ := hrel
    have hbw : Below w.heap.size w wr := HB4.out.trans (HBL.out.mono HB4.out.size)
    have HBW4 := Lib.hid hbw
    clear hbw
    by_cases hlt : i < M
    · have hil : i < t.xs.length := by rw [← HM.out]; exact hlt
      obtain ⟨xb, xo, rfl, hpx0, hlc⟩ := HX.out i hil
      rw [← HM.out] at hlc
      obtain ⟨x, hxx⟩ : ∃ x, x = t.xs[i]'hil := ⟨_, rfl⟩
      have htk : (t.xs.take (i + 1)).map Ty.erase = (t.xs.take i).map Ty.erase ++ [x.erase] := by rw [List.take_succ_eq_append_getElem hil, List.map_append, hxx]; rfl
      have hxs := HMM.out (t.xs[i]'hil) (by simp)
      rw [← hxx] at hpx0 hxs
      have hpx := hpx0.below HBW4.out
      have u0 := hpx.c0; have u1 := hpx.c1; have u2 := hpx.c2
      obtain ⟨k4, l4, f4⟩ := hpx.in.nslice
      obtain ⟨k5, l5, f5⟩ := hpx.in.xslice
      rw [f4] at u1; rw [f5] at u2
      obtain ⟨W5, hW5⟩ : ∃ W5, W5 = wr.alloc (.cells #[.int .i64 x.k, .slice k4 x.ns.length l4, .slice k5 x.xs.length l5] 36) := ⟨_, rfl⟩
      have hb5 : Below wr.heap.size wr W5 := by rw [hW5]; exact (Below.refl _ _).alloc (Nat.le_refl _) _
      have hbx5 : Blk W5 wr.heap.size 36 #[.int .i64 x.k, .slice k4 x.ns.length l4, .slice k5 x.xs.length l5] := by rw [hW5]; exact Blk.new wr 36 _
      have hc := HIH.out x W5 hxs (hpx.in.below hb5)
      unfold Ty.agg at hc
      rw [f4, f5] at hc
      have hk0 : (0 : Int) ≤ (i : Int) := by omega
      have hk1 : (i : Int) < (M : Int) := by omega
      have hbxl := hpx.2.1
      have HC := Lib.hid hc; have HW5 := Lib.hid hW5; have HB5 := Lib.hid hb5; have HBX := Lib.hid hbx5; have HTK := Lib.hid htk
      have hzr : W4.heap.size ≤ wr.heap.size := HBL.out.size
      clear hc hW5 hb5 hbx5 htk hpx hpx0 hxx hxs hil f4 f5
      go_upto_region 6 with fail
      rw [← HW5.out]
      clear u0 u1 u2
      have u0 := HBX.out.cell 0; have u1 := HBX.out.cell 1; have u2 := HBX.out.cell 2
      simp at u0 u1 u2
      go_wp2_with fail
      refine HC.out.mono ?_
      rintro e w6 ⟨u, rfl, hue, hui, hus, hb6⟩
      obtain ⟨a4, b4, g4⟩ := hui.nslice
      obtain ⟨a5, b5, g5⟩ := hui.xslice
      unfold Ty.agg
      rw [g4, g5]
      have hb06 := HB5.out.trans (hb6.mono HB5.out.size)
      have hz6 := hb06.size
      have hg6 := HG.out.below hb06
      have hus2 : u.Sep (fun b => False ∨ wr.heap.size ≤ b) := hus.mono (fun b hb => .inr (by have := HB5.out.size; omega))
      have hred : Reads (w6.alloc (.cells #[.int .i64 u.k, .slice a4 u.ns.length b4, .slice a5 u.xs.length b5] 36)) (w6.heap.size + 1) 3 (some ⟨w6.heap.size, 0, none⟩) 1 u.cells := by
        unfold Ty.cells; rw [g4, g5]; exact row_reads w6 _ 36
      have hown6 := hg6.items.alloc (.cells #[.int .i64 u.k, .slice a4 u.ns.length b4, .slice a5 u.xs.length b5] 36)
      have hxz : ∀ b, (Value.slice ax us.length cx).ownBlock = some b → b < wr.heap.size := fun b hb => (HG.out.items.lt b hb).2
      have HG6 := Lib.hid hg6; have HRED := Lib.hid hred; have HOWN6 := Lib.hid hown6; have HUI := Lib.hid hui; have HUS := Lib.hid hus2; have HUER := Lib.hid hue; have HXZ := Lib.hid hxz; have HBL6 := Lib.hid (HBL.out.trans (hb06.mono hzr))
      have hul : us.length ≤ M := by rw [HUL.out]; exact hi
      clear hg6 hred hown6 hui hus hus2 hue hxz hb6 hb06 g4 g5 u0 u1 u2
      go_wp2_with (at_builtin; refine wpList_append_any _ rfl _ _ 34 rfl W4.heap.size 36 i0 (.agg #[.int .i64 0, .slice none 0 0, .slice none 0 0]) 3 56 Tryz.underlying34 hi0 hz0 hz1 hz2 rfl (by decide) _ us.length (tyE.row us) rfl HOWN6.out (w6.heap.size + 1) _ 1 _ u.cells rfl HRED.out (tyE.one u) ?c1 ?c2 ?c3 ?_)
      case c1 => unfold maxLen; omega
      case c2 => omega
      case c3 => simp; omega
      intro v' w8 hown' hgrow hor
      have hg8 := Rowed.item (Rowed.below HG6.out ((Below.refl _ w6).alloc (Nat.le_refl _) (.cells #[.int .i64 u.k, .slice a4 u.ns.length b4, .slice a5 u.xs.length b5] 36))) (fun b hb => hb.elim) (by simp; omega) (HUI.out.below ((Below.refl _ w6).alloc (Nat.le_refl _) (.cells #[.int .i64 u.k, .slice a4 u.ns.length b4, .slice a5 u.xs.length b5] 36))) HUS.out hzr HXZ.out hown' hgrow (by simpa using hor)
      have hb8 := (HBL6.out.alloc HBL6.out.size (.cells #[.int .i64 u.k, .slice a4 u.ns.length b4, .slice a5 u.xs.length b5] 36)).grown hgrow (by have := HBL6.out.size; simp; omega) (fun k hk => own_ge HG6.out.items hk)
      obtain ⟨ax', cx', rfl⟩ := row_form hown'
      have HG8 := Lib.hid hg8; have HB8 := Lib.hid hb8
      clear hg8 hb8 hown' hgrow hor
      go_wp2
      go_roundw
      case rel => exact ⟨i + 1, us ++ [u], ax', cx', by simp, by go_num, by omega, Lib.hid (by simp [HUL.out]), Lib.hid (by rw [List.map_append, HUE.out, HTK.out, List.map_cons, List.map_nil, HUER.out]), by simpa using HG8, HB8⟩
      case measure => simp [intOf]; omega
    · obtain rfl : i = M := by omega
      have hA4 := HA4.out.below HBL.out HA4.out.lt
      have hR4 := HR4.out.below HBL.out HR4.out.lt
      have a0 := hA4.cell 0; have a1 := hA4.cell 1; have a2 := hA4.cell 2; have fa2 := hA4.frozen 2
      have hAs := hA4.set_ 2 (.slice ax us.length cx)
      have d0 := hAs.cell 0; have d1 := hAs.cell 1; have d2 := hAs.cell 2
      have hRs := hR4.far (p := ⟨A, 2, none⟩) (by simp) (.slice ax us.length cx)
      have r0 := hRs.cell 0; have r1 := hRs.cell 1; have r2 := hRs.cell 2
      have s0 := hRs.frozen 0; have s1 := hRs.frozen 1; have s2 := hRs.frozen 2
      simp at a0 a1 a2 d0 d1 d2 r0 r1 r2
      obtain ⟨WF, hWF⟩ : ∃ WF, WF = (((wr.setCell ⟨A, 2, none⟩ (.slice ax us.length cx)).setCell ⟨A + 1, 0, none⟩ (.int .i64 t.k)).setCell ⟨A + 1, 1, none⟩ (.slice p6 t.ns.length q6)).setCell ⟨A + 1, 2, none⟩ (.slice ax us.length cx) := ⟨_, rfl⟩
      have hF : Blk WF (A + 1) 36 #[.int .i64 t.k, .slice p6 t.ns.length q6, .slice ax us.length cx] := by rw [hWF]; exact blk3_set hRs _ _ _
      have hBF : Below w.heap.size w WF := by
        rw [hWF]
        exact below3_set (HBW4.out.setCell (p := ⟨A, 2, none⟩) (by show w.heap.size ≤ A; have := HA.out; omega) _) (by have := HA.out; omega) _ _ _
      have hg2 : Rowed tyE (fun _ => False) W4.heap.size 36 WF us (.slice ax us.length cx) := by
        rw [hWF]
        have hl := HR4.out.lt
        exact (((HG.out.set_ (p := ⟨A, 2, none⟩) (fun b hb => hb.elim) (by show A < _; omega) _).set_ (p := ⟨A + 1, 0, none⟩) (fun b hb => hb.elim) hl _).set_ (p := ⟨A + 1, 1, none⟩) (fun b hb => hb.elim) hl _).set_ (p := ⟨A + 1, 2, none⟩) (fun b hb => hb.elim) hl _
      obtain ⟨sx, hsx, hlx, hspx⟩ := trowLies_of_own hg2.items
      have hsn : sn.lies WF 1 t.ns.length (fun i => [.string (t.ns.getD i ByteArray.empty)]) := by
        have h1 : sn.lies wr 1 t.ns.length (fun i => [.string (t.ns.getD i ByteArray.empty)]) := HLI.out.carry (fun b o hlt => HBL.out.cell (p := ⟨b, o, none⟩) hlt) HBL.out.size
        refine h1.carryS HSP.out (fun b o hb _ => ?_) (by rw [hWF]; simp [World.setCell])
        have hne : ∀ (c k : Nat), c = A ∨ c = A + 1 → (⟨c, k, none⟩ : Addr) ≠ ⟨b, o, none⟩ := fun c k hc e => by injection e with e _; have := HBR.out.lt; omega
        rw [hWF, World.cell?_setCell_other _ _ _ _ (hne _ 2 (.inr rfl)), World.cell?_setCell_other _ _ _ _ (hne _ 1 (.inr rfl)), World.cell?_setCell_other _ _ _ _ (hne _ 0 (.inr rfl)), World.cell?_setCell_other _ _ _ _ (hne _ 2 (.inl rfl))]
      have hfin : Owned t w (.returned (.agg #[.int .i64 t.k, .slice p6 t.ns.length q6, .slice ax us.length cx])) WF := by
        refine ⟨.mk t.k sn t.ns sx us, ?_, ?_, ?_, ?_, hBF⟩
        · show _ = Ending.returned (.agg #[.int .i64 t.k, sn.val t.ns.length, sx.val us.length])
          rw [← hsx, E6.out]
        · rw [Ty.erase_eq, Ty.erase_eq t]
          show Ty.mk t.k .no t.ns .no (us.map Ty.erase) = _
          rw [HUE.out, HM.out, List.take_length]
        · rw [Ty.in_iff]
          exact ⟨⟨HOK.out.1, HOK.out.2.1, by show us.length ≤ _; rw [HUL.out]; omega, HOK.out.2.2.2⟩, hsn, hlx, fun y hy => (hg2.each y hy).1⟩
        · rw [Ty.sep_iff]
          have hw2 : w.heap.size ≤ W.heap.size := HBW.out.size
          exact ⟨HSP.out.mono (fun b hb => by omega), hspx.mono (fun b hb => by omega), fun y hy => (hg2.each y hy).2.mono (fun b hb => by rcases hb.1 with h | h; exact h.elim; omega)⟩
      have HWF := Lib.hid hWF; have HF := Lib.hid hF; have HFIN := Lib.hid hfin
      have t1 : decide ((i : Int) < (i : Int)) = false := by simp
      clear hWF hF hfin hBF hg2 hsx hlx hspx hsn hAs hRs hA4 hR4 hlt
      go_wp2_with fail
      rw [← HWF.out]
      clear a0 a1 a2 fa2 d0 d1 d2 r0 r1 r2 s0 s1 s2
      have f0 := HF.out.cell 0; have f1 := HF.out.cell 1; have f2 := HF.out.cell 2
      simp at f0 f1 f2
      refine bodyPost_ret (v := .agg #[.int .i64 t.k, .slice p6 t.ns.length q6, .slice ax us.length cx]) (by simp [results, Tryz.results31, go_sem, f0, f1, f2]) rfl ?_
      exact HFIN.out
theorem own_any : ∀ (d : Nat) (t : Ty) (w : World), t.sz ≤ d → t.In w → Calls Tryz.prog 31 #[t.agg] w fun e w' => Owned t w e w'
  | 0, t, w, hd, _ => by rw [Ty.sz_eq] at hd; omega
  | d + 1, t, w, hd, h => own_step d (fun t w h1 h2 => own_any d t w h1 h2) t w hd h
end Go.Proofs.YtjpdbhhjlnmacaaGreat
