/- value.Canon of any value: one that is the same but for its floats, in new memory. -/
import Derived.Test.YtemhinagajfemaaConeM15
namespace Go.Proofs.Ytemhinagajfemaa
set_option linter.unusedVariables false
open Go.RowKit

mutual
/-- The value with floats made canonical, without its places. -/
def Val.canon : Val → Val
  | .mk k n f s _ ns _ xs => .mk k n (fcan f) s .no ns .no (Val.canonAll xs)
def Val.canonAll : List Val → List Val
  | [] => []
  | x :: xs => x.canon :: Val.canonAll xs
end
theorem Val.canonAll_map : ∀ xs : List Val, Val.canonAll xs = xs.map Val.canon
  | [] => rfl
  | x :: xs => by simp [Val.canonAll, Val.canonAll_map xs]
theorem Val.canon_eq (v : Val) : v.canon = .mk v.k v.n (fcan v.f) v.s .no v.ns .no (v.xs.map Val.canon) := by
  cases v
  simp only [Val.canon, Val.canonAll_map, Val.k, Val.n, Val.f, Val.s, Val.ns, Val.xs]

theorem run_store_flt (w : World) (a : Addr) (k : FloatKind) (f : Nat) (m : Mode) : (store a (.float k f) m).run Try.prog w = stored Try.prog w a (.float k f) m := run_store Try.prog w a _ m rfl
theorem Sl.lies.slice {w : World} {a : Sl} {c n : Nat} {row : Nat → List Value} (h : a.lies w c n row) : ∃ p q, a.val n = .slice p n q := by
  cases a with
  | no => exact ⟨none, 0, by have : n = 0 := h; simp [Sl.val, this]⟩
  | odd a => exact ⟨some a, 0, by have : n = 0 := h; simp [Sl.val, this]⟩
  | at_ b o cap => exact ⟨_, _, rfl⟩
theorem val_facts : (Try.prog.info? 46).map (fun i => (i.zero, i.size, i.bytes)) = some (some (.agg #[.int .i64 0, .int .i64 0, .float .f64 0, .string ByteArray.empty, .slice none 0 0, .slice none 0 0]), 6, 88) := by kernel_rfl

theorem own_below {w w' : World} {base n size : Nat} {e : TypeId} {v : Value} {xs : List Value} (h : w.ownsRow base e size v n xs) (hb : Below w.heap.size w w') : w'.ownsRow base e size v n xs :=
  h.kept (row := none) ⟨hb.os, hb.tape, hb.output, hb.size, fun k hk _ => hb.block k hk⟩ (by cases v.ownBlock; exact .inl rfl; exact .inr (by simp))
theorem canon_step {Z : Nat} {wr w6 w8 : World} {sv v' : Value} {us : List Val} {u : Val} {o : Obj}
    (hzr : Z ≤ wr.heap.size) (hus : ∀ y, y ∈ us → y.In wr ∧ y.Sep (fun b => Z ≤ b ∧ some b ≠ sv.ownBlock)) (hown : ∀ g, sv.ownBlock = some g → g < wr.heap.size)
    (hb : Below wr.heap.size wr w6) (hui : u.In w6) (hsep : u.Sep (fun b => wr.heap.size ≤ b))
    (hgrow : (w6.alloc o).grownBy w8 sv.ownBlock) (hor : v'.ownBlock = sv.ownBlock ∨ v'.ownBlock = some (w6.heap.size + 1)) :
    ∀ y, y ∈ us ++ [u] → y.In w8 ∧ y.Sep (fun b => Z ≤ b ∧ some b ≠ v'.ownBlock) := by
  have hz6 := hb.size
  have ha : (w6.alloc o).heap.size = w6.heap.size + 1 := by simp
  have hz8 := hgrow.size
  have hblk : ∀ b, b < w6.heap.size → some b ≠ sv.ownBlock → w8.heap[b]? = w6.heap[b]? := fun b h1 h2 => (hgrow.block b (by omega) h2).trans (Below.heap_alloc w6 o b h1)
  intro y hy
  rcases List.mem_append.1 hy with hy | hy
  · obtain ⟨h1, h2⟩ := hus y hy
    have h3 := h2.and h1.sep
    refine ⟨h1.carryS h2 (fun b o' hs hlt => ?_) (by omega), h3.mono (fun b hb' => ⟨hb'.1.1, ?_⟩)⟩
    · exact (World.cell?_of_block (a := ⟨b, o', none⟩) (hblk b (by omega) hs.2)).trans (hb.cell (p := ⟨b, o', none⟩) hlt)
    · rcases hor with h | h
      · rw [h]; exact hb'.1.2
      · rw [h]
        intro e
        injection e with e
        have := hb'.2
        omega
  · obtain rfl : y = u := by simpa using hy
    have h3 := hsep.and hui.sep
    refine ⟨hui.carryS hsep (fun b o' hs hlt => ?_) (by omega), h3.mono (fun b hb' => ⟨by have := hb'.1; omega, ?_⟩)⟩
    · exact World.cell?_of_block (a := ⟨b, o', none⟩) (hblk b hlt (fun e => by have := hown b e.symm; omega))
    · rcases hor with h | h
      · rw [h]
        intro e
        have := hown b e.symm
        have := hb'.1
        omega
      · rw [h]
        intro e
        injection e with e
        have := hb'.2
        omega

def Canoned (v : Val) (w : World) (e : Ending) (w' : World) : Prop :=
  ∃ u : Val, e = .returned u.agg ∧ u.In w' ∧ u.Sep (fun b => w.heap.size ≤ b) ∧ u.erase = v.canon ∧ Below w.heap.size w w'

theorem six_stored {wr WF : World} {B : Nat} {T : TypeId} {z0 z1 z2 z3 z4 z5 s u0 u1 u2 u3 u4 u5 : Value}
    (hWF : WF = ((((((wr.setCell ⟨B, 5, none⟩ s).setCell ⟨B + 1, 0, none⟩ u0).setCell ⟨B + 1, 1, none⟩ u1).setCell ⟨B + 1, 2, none⟩ u2).setCell ⟨B + 1, 3, none⟩ u3).setCell ⟨B + 1, 4, none⟩ u4).setCell ⟨B + 1, 5, none⟩ u5)
    (hb : Blk wr (B + 1) T #[z0, z1, z2, z3, z4, z5]) :
    Blk WF (B + 1) T #[u0, u1, u2, u3, u4, u5] ∧ (∀ b o, B + 2 ≤ b → WF.cell? ⟨b, o, none⟩ = wr.cell? ⟨b, o, none⟩) ∧ WF.heap.size = wr.heap.size ∧ ∀ w, Below B w wr → Below B w WF := by
  subst hWF
  have hne : ∀ (b j c k : Nat), c < b → (⟨b, j, none⟩ : Addr) ≠ ⟨c, k, none⟩ := fun b j c k hb e => by injection e with e _; omega
  have k1 := hb.far (p := ⟨B, 5, none⟩) (by simp) s
  have k2 := k1.set_ 0 u0
  have k3 := k2.set_ 1 u1
  have k4 := k3.set_ 2 u2
  have k5 := k4.set_ 3 u3
  have k6 := k5.set_ 4 u4
  have k7 := k6.set_ 5 u5
  refine ⟨k7, fun b o hb => ?_, by simp [World.setCell], fun w h1 => ?_⟩
  · rw [World.cell?_setCell_other _ _ _ _ (Ne.symm (hne b o (B + 1) 5 (by omega))), World.cell?_setCell_other _ _ _ _ (Ne.symm (hne b o (B + 1) 4 (by omega))), World.cell?_setCell_other _ _ _ _ (Ne.symm (hne b o (B + 1) 3 (by omega))), World.cell?_setCell_other _ _ _ _ (Ne.symm (hne b o (B + 1) 2 (by omega))),
      World.cell?_setCell_other _ _ _ _ (Ne.symm (hne b o (B + 1) 1 (by omega))), World.cell?_setCell_other _ _ _ _ (Ne.symm (hne b o (B + 1) 0 (by omega))), World.cell?_setCell_other _ _ _ _ (Ne.symm (hne b o B 5 (by omega)))]
  · have b1 : B ≤ B + 1 := by omega
    have h2 := h1.setCell (p := ⟨B, 5, none⟩) (Nat.le_refl _) s
    have h3 := h2.setCell (p := ⟨B + 1, 0, none⟩) b1 u0
    have h4 := h3.setCell (p := ⟨B + 1, 1, none⟩) b1 u1
    have h5 := h4.setCell (p := ⟨B + 1, 2, none⟩) b1 u2
    have h6 := h5.setCell (p := ⟨B + 1, 3, none⟩) b1 u3
    have h7 := h6.setCell (p := ⟨B + 1, 4, none⟩) b1 u4
    exact h7.setCell (p := ⟨B + 1, 5, none⟩) b1 u5

theorem canon_end {v : Val} {w W4 wr WF : World} {us : List Val} {sn sx : Sl} {S : Nat → Prop} {p4 px : Option Addr} {q4 qx : Nat}
    (hok : i64r v.k ∧ i64r v.n ∧ v.f < 18446744073709551616 ∧ strok v.s ∧ v.ns.length ≤ 8796093021952 ∧ v.xs.length ≤ 1599289640354 ∧ ∀ s, s ∈ v.ns → strok s)
    (hul : us.length = v.xs.length) (hue : us.map Val.erase = v.xs.map Val.canon) (e4 : sn.val v.ns.length = .slice p4 v.ns.length q4) (kx : sx.val us.length = .slice px us.length qx)
    (hz4 : w.heap.size + 2 ≤ W4.heap.size) (hli : sn.lies W4 1 v.ns.length (fun i => [.string (v.ns.getD i ByteArray.empty)])) (hsep : sn.sep (fun b => w.heap.size + 2 ≤ b) v.ns.length)
    (hbl : Below W4.heap.size W4 wr) (hlx : sx.lies wr 6 us.length (fun i => (us.getD i Val.zero).cells)) (hspx : sx.sep (fun b => W4.heap.size ≤ b) us.length)
    (hus : ∀ y, y ∈ us → y.In wr ∧ y.Sep (fun b => W4.heap.size ≤ b ∧ S b))
    (hcF : ∀ b o, w.heap.size + 2 ≤ b → WF.cell? ⟨b, o, none⟩ = wr.cell? ⟨b, o, none⟩) (hzF : WF.heap.size = wr.heap.size) (hBF : Below w.heap.size w WF) :
    Canoned v w (.returned (.agg #[.int .i64 v.k, .int .i64 v.n, .float .f64 (fcan v.f), .string v.s, .slice p4 v.ns.length q4, .slice px us.length qx])) WF := by
  obtain ⟨hk, hn, hf, hs, hnl, hxl, hns⟩ := hok
  have hzr := hbl.size
  refine ⟨.mk v.k v.n (fcan v.f) v.s sn v.ns sx us, ?_, ?_, ?_, ?_, hBF⟩
  · show _ = Ending.returned (.agg #[.int .i64 v.k, .int .i64 v.n, .float .f64 (fcan v.f), .string v.s, sn.val v.ns.length, sx.val us.length])
    rw [e4, kx]
  · rw [Val.in_iff]
    refine ⟨⟨hk, hn, fcan_lt hf, hs, hnl, by rw [← hul] at hxl; exact hxl, hns⟩, ?_, ?_, fun y hy => ?_⟩
    · exact hli.carryS hsep (fun b o' hb hlt => (hcF b o' hb).trans (hbl.cell (p := ⟨b, o', none⟩) hlt)) (by omega)
    · exact hlx.carryS hspx (fun b o' hb hlt => hcF b o' (by omega)) (by omega)
    · exact (hus y hy).1.carryS (hus y hy).2 (fun b o' hb hlt => hcF b o' (by have := hb.1; omega)) (by omega)
  · rw [Val.sep_iff]
    exact ⟨hsep.mono (fun b hb => by omega), hspx.mono (fun b hb => by omega), fun y hy => (hus y hy).2.mono (fun b hb => by have := hb.1; omega)⟩
  · rw [Val.erase_eq, Val.canon_eq]
    show Val.mk v.k v.n (fcan v.f) v.s .no v.ns .no (us.map Val.erase) = _
    rw [hue]

set_option maxHeartbeats 4000000 in
set_option maxRecDepth 100000 in
theorem canon_val : ∀ (d : Nat) (v : Val) (w : World), v.sz ≤ d → v.In w → Calls Try.prog 66 #[v.agg] w fun e w' => Canoned v w e w'
  | 0, v, w, hd, _ => by rw [Val.sz_eq] at hd; omega
  | d + 1, v, w, hd, h => by
    obtain ⟨hk, hn, hf, hs, hnl, hxl, hns⟩ := h.ok
    obtain ⟨W, hW⟩ : ∃ W, W = (w.alloc (.cells #[.int .i64 v.k, .int .i64 v.n, .float .f64 v.f, .string v.s, v.na.val v.ns.length, v.xa.val v.xs.length] 46)).alloc (.cells #[.int .i64 0, .int .i64 0, .float .f64 0, .string ⟨#[]⟩, .slice none 0 0, .slice none 0 0] 46) := ⟨_, rfl⟩
    have hb0 : Blk W w.heap.size 46 #[.int .i64 v.k, .int .i64 v.n, .float .f64 v.f, .string v.s, v.na.val v.ns.length, v.xa.val v.xs.length] := by rw [hW]; exact (Blk.new w 46 _).alloc _
    have hb1 : Blk W (w.heap.size + 1) 46 #[.int .i64 0, .int .i64 0, .float .f64 0, .string ⟨#[]⟩, .slice none 0 0, .slice none 0 0] := by
      rw [hW]
      have := Blk.new (w.alloc (.cells #[.int .i64 v.k, .int .i64 v.n, .float .f64 v.f, .string v.s, v.na.val v.ns.length, v.xa.val v.xs.length] 46)) 46 #[.int .i64 0, .int .i64 0, .float .f64 0, .string ⟨#[]⟩, .slice none 0 0, .slice none 0 0]
      rw [show (w.alloc (.cells #[.int .i64 v.k, .int .i64 v.n, .float .f64 v.f, .string v.s, v.na.val v.ns.length, v.xa.val v.xs.length] 46)).heap.size = w.heap.size + 1 from by simp] at this
      exact this
    have hBW : Below w.heap.size w W := by rw [hW]; exact ((Below.refl _ w).alloc (Nat.le_refl _) _).alloc (by simp) _
    have c2 := hb0.cell 2
    have f2 := hb0.frozen 2
    have c4 := hb0.cell 4
    simp at c2 c4
    have HW := Lib.hid hW; have HB0 := Lib.hid hb0; have HB1 := Lib.hid hb1; have HBW := Lib.hid hBW; have HIN := Lib.hid h
    clear hW hb0 hb1 hBW h
    have hsf := run_store_flt
    unfold Val.agg
    go_enter Try.func66, Try.ntmps66
    go_wp2_with fail
    rw [← HW.out]
    refine (canon_any _ _).mono ?_
    rintro e w' ⟨rfl, rfl⟩
    obtain ⟨W2, hW2⟩ : ∃ W2, W2 = W.setCell ⟨w.heap.size, 2, none⟩ (.float .f64 (fcan v.f)) := ⟨_, rfl⟩
    have hB2 : Below w.heap.size w W2 := by rw [hW2]; exact HBW.out.setCell (p := ⟨w.heap.size, 2, none⟩) (Nat.le_refl _) _
    have hb0 : Blk W2 w.heap.size 46 #[.int .i64 v.k, .int .i64 v.n, .float .f64 (fcan v.f), .string v.s, v.na.val v.ns.length, v.xa.val v.xs.length] := by rw [hW2]; exact HB0.out.set_ 2 _
    have hb1 : Blk W2 (w.heap.size + 1) 46 #[.int .i64 0, .int .i64 0, .float .f64 0, .string ⟨#[]⟩, .slice none 0 0, .slice none 0 0] := by rw [hW2]; exact Blk.far HB1.out (p := ⟨w.heap.size, 2, none⟩) (by simp) _
    have hcl := clone_any _ v.ns W2 (NamesAt.of (HIN.out.below hB2)) hnl
    have HW2 := Lib.hid hW2; have HB2 := Lib.hid hB2; have HB0 := Lib.hid hb0; have HB1 := Lib.hid hb1; have HCL := Lib.hid hcl
    clear hW2 hB2 hb0 hb1 hcl
    go_wp2_with fail
    rw [← HW2.out]
    refine HCL.out.mono ?_
    rintro e w3 ⟨sn, rfl, hlie, hsep, hb3⟩
    clear c2 f2 c4 HCL
    obtain ⟨p4, q4, e4⟩ := hlie.slice
    have hz2 := HB1.out.lt
    have hz0 := HB0.out.lt
    have hb0 := HB0.out.below hb3 hz0
    have hb1 := HB1.out.below hb3 hz2
    have hB3 := HB2.out.trans (hb3.mono HB2.out.size)
    have hz3 := hb3.size
    have c4 := hb0.cell 4
    have f4 := hb0.frozen 4
    have c5 := hb0.cell 5
    simp at c4 c5
    obtain ⟨p5, q5, e5⟩ := HIN.out.xslice
    rw [e5] at c5
    obtain ⟨W4, hW4⟩ : ∃ W4, W4 = w3.setCell ⟨w.heap.size, 4, none⟩ (.slice p4 v.ns.length q4) := ⟨_, rfl⟩
    have hB4 : Below w.heap.size w W4 := by rw [hW4]; exact hB3.setCell (p := ⟨w.heap.size, 4, none⟩) (Nat.le_refl _) _
    have hb0' : Blk W4 w.heap.size 46 #[.int .i64 v.k, .int .i64 v.n, .float .f64 (fcan v.f), .string v.s, sn.val v.ns.length, v.xa.val v.xs.length] := by rw [hW4, e4]; exact hb0.set_ 4 _
    have hb1' : Blk W4 (w.heap.size + 1) 46 #[.int .i64 0, .int .i64 0, .float .f64 0, .string ⟨#[]⟩, .slice none 0 0, .slice none 0 0] := by rw [hW4]; exact Blk.far hb1 (p := ⟨w.heap.size, 4, none⟩) (by simp) _
    have hz4 : W4.heap.size = w3.heap.size := by rw [hW4]; simp [World.setCell]
    have hsep' : sn.sep (fun b => w.heap.size + 2 ≤ b) v.ns.length := hsep.mono (fun b hb => by omega)
    have hlie' : sn.lies W4 1 v.ns.length (fun i => [.string (v.ns.getD i ByteArray.empty)]) := by
      refine hlie.carryS hsep' (fun b o hb _ => ?_) (by omega)
      rw [hW4]
      exact World.cell?_setCell_other w3 ⟨w.heap.size, 4, none⟩ ⟨b, o, none⟩ _ (fun e => by injection e with e _; omega)
    have HW4 := Lib.hid hW4; have HB0' := Lib.hid hb0'; have HB1' := Lib.hid hb1'; have HB4 := Lib.hid hB4; have HLI := Lib.hid hlie'; have HSEP := Lib.hid hsep'; have E5 := Lib.hid e5
    clear hW4 hb0' hb1' hB4 hlie' hsep' hb0 hb1 hB3 hlie hsep hb3 HB0 HB1 HB2 HBW HW HW2 e5
    rw [e4]
    have E4 := Lib.hid e4
    clear e4
    go_wp2_with fail
    rw [← HW4.out]
    have HIN4 := Lib.hid (HIN.out.below HB4.out)
    have hz4' : w.heap.size + 2 ≤ W4.heap.size := by have := HB1'.out.lt; omega
    clear hz4
    rcases HIN4.out.items with ⟨pz, x1, x2⟩ | ⟨xb, xo, cap, x1, x2, x3, x4⟩
    · have hlen0 : v.xs.length = 0 := by rw [x2]; rfl
      have X2 := Lib.hid x2
      rw [hlen0]
      have HL0 := Lib.hid hlen0
      clear x1 x2 c4 f4 c5 hlen0
      go_loopw [3, 17] (fun sv iv wr => sv = .slice none 0 0 ∧ iv = .int .i64 0 ∧ wr = W4) (fun _ _ _ => 0)
      case atStart => exact ⟨rfl, rfl, rfl⟩
      case round =>
        obtain ⟨rfl, rfl, rfl⟩ := hrel
        have hb0w := HB0'.out
        have hb1w := HB1'.out
        rw [E4.out] at hb0w
        have m0 := hb0w.cell 0; have m1 := hb0w.cell 1; have m2 := hb0w.cell 2; have m3 := hb0w.cell 3; have m4 := hb0w.cell 4; have m5 := hb0w.cell 5
        have f5 := hb0w.frozen 5
        have r0 := hb1w.cell 0; have r1 := hb1w.cell 1; have r2 := hb1w.cell 2; have r3 := hb1w.cell 3; have r4 := hb1w.cell 4; have r5 := hb1w.cell 5
        have s0 := hb1w.frozen 0; have s1 := hb1w.frozen 1; have s2 := hb1w.frozen 2; have s3 := hb1w.frozen 3; have s4 := hb1w.frozen 4; have s5 := hb1w.frozen 5
        simp at m0 m1 m2 m3 m4 m5 r0 r1 r2 r3 r4 r5
        clear hb0w hb1w
        go_wp2_with fail
        obtain ⟨WF, hWF⟩ : ∃ WF, WF = ((((((wr.setCell ⟨w.heap.size, 5, none⟩ (.slice none 0 0)).setCell ⟨w.heap.size + 1, 0, none⟩ (.int .i64 v.k)).setCell ⟨w.heap.size + 1, 1, none⟩ (.int .i64 v.n)).setCell ⟨w.heap.size + 1, 2, none⟩ (.float .f64 (fcan v.f))).setCell ⟨w.heap.size + 1, 3, none⟩ (.string v.s)).setCell ⟨w.heap.size + 1, 4, none⟩ (.slice p4 v.ns.length q4)).setCell ⟨w.heap.size + 1, 5, none⟩ (.slice none 0 0) := ⟨_, rfl⟩
        rw [← hWF]
        obtain ⟨hbF, hcF, hzF, hBF⟩ := six_stored hWF HB1'.out
        have hBF := hBF w HB4.out
        have HCF := Lib.hid hcF; have HZF := Lib.hid hzF; have HBF := Lib.hid hBF; have HWF := Lib.hid hWF
        clear hcF hzF hBF hWF m0 m1 m2 m3 m4 m5 f5 r0 r1 r2 r3 r4 r5 s0 s1 s2 s3 s4 s5
        have e0 := hbF.cell 0; have e1 := hbF.cell 1; have e2 := hbF.cell 2; have e3 := hbF.cell 3; have e4 := hbF.cell 4; have e5 := hbF.cell 5
        simp at e0 e1 e2 e3 e4 e5
        refine bodyPost_ret (v := .agg #[.int .i64 v.k, .int .i64 v.n, .float .f64 (fcan v.f), .string v.s, .slice p4 v.ns.length q4, .slice none 0 0]) (by simp [results, Try.results66, go_sem, e0, e1, e2, e3, e4, e5]) rfl ?_
        exact canon_end (us := []) (sx := .no) (px := none) (qx := 0) (S := fun _ => True) ⟨hk, hn, hf, hs, hnl, hxl, hns⟩ (by rw [HL0.out]; rfl) (by rw [X2.out]; rfl) E4.out rfl hz4' HLI.out HSEP.out (Below.refl _ _) rfl trivial (fun y hy => by simp at hy) HCF.out HZF.out HBF.out
    · rw [E5.out] at x1
      obtain ⟨rfl, rfl⟩ : p5 = some ⟨xb, xo, none⟩ ∧ q5 = cap := by injection x1 with a1 a2 a3; exact ⟨a1, a3⟩
      obtain ⟨M, hM⟩ : ∃ M, M = v.xs.length := ⟨_, rfl⟩
      rw [← hM]
      rw [← hM] at x2 hxl
      have HM := Lib.hid hM
      have HX4 := Lib.hid x4
      have hmem : ∀ x, x ∈ v.xs → x.sz ≤ d := fun x hx => by have := Val.size_mem hx; omega
      have HMEM := Lib.hid hmem
      have HIH := Lib.hid (fun (x : Val) (w : World) (hx : x.sz ≤ d) (h : x.In w) => canon_val d x w hx h)
      obtain ⟨i0, hi, hz0, hz1, hz2'⟩ := info_parts val_facts
      have hxbW : 0 < M → xb < W4.heap.size := fun h0 => (x4 0 (by omega)).2.1
      clear x1 hM x4 c4 f4 c5 hmem
      go_loopw [3, 17] (fun sv iv wr => ∃ (i : Nat) (us : List Val), iv = .int .i64 (i : Int) ∧ i ≤ M ∧ Hid (us.length = i) ∧ Hid (us.map Val.erase = (v.xs.take i).map Val.canon) ∧ Hid (wr.ownsRow W4.heap.size 46 6 sv i (rowCells us)) ∧
        Hid (∀ u, u ∈ us → u.In wr ∧ u.Sep (fun b => W4.heap.size ≤ b ∧ some b ≠ sv.ownBlock)) ∧ Hid (Below W4.heap.size W4 wr)) (fun _ iv _ => M - (intOf iv).toNat)
      case atStart => exact ⟨0, [], rfl, by omega, Lib.hid rfl, Lib.hid rfl, Lib.hid ⟨rfl, .inl ⟨rfl, rfl⟩⟩, Lib.hid (fun u hu => by simp at hu), Lib.hid (Below.refl _ _)⟩
      case round =>
        obtain ⟨i, us, rfl, hi', HUL, HUE, HOWN, HUS, HBL⟩ := hrel
        by_cases hlt : i < M
        · have hil : i < v.xs.length := by rw [← HM.out]; exact hlt
          have hp0 := HX4.out i hil
          have hxlt := hxbW (by omega)
          have hp := hp0.below HBL.out
          obtain ⟨x, hx⟩ : ∃ x, x = v.xs[i]'hil := ⟨_, rfl⟩
          rw [← hx] at hp
          have hxm : x ∈ v.xs := by rw [hx]; simp
          have htk : (v.xs.take (i + 1)).map Val.canon = (v.xs.take i).map Val.canon ++ [x.canon] := by rw [List.take_succ_eq_append_getElem hil, List.map_append, hx]; rfl
          have HX := Lib.hid htk
          have HXD := Lib.hid (HMEM.out x hxm)
          have HXIN := Lib.hid hp.in
          have d0 := hp.c0; have d1 := hp.c1; have d2 := hp.c2; have d3 := hp.c3; have d4 := hp.c4; have d5 := hp.c5
          obtain ⟨r4, t4, g4⟩ := hp.in.nslice
          obtain ⟨r5, t5, g5⟩ := hp.in.xslice
          rw [g4] at d4
          rw [g5] at d5
          have G4 := Lib.hid g4; have G5 := Lib.hid g5
          have hpl := hp.2.1
          clear hp0 hp hx hxm g4 g5 htk
          clear hil
          obtain ⟨W5, hW5⟩ : ∃ W5, W5 = wr.alloc (.cells #[.int .i64 x.k, .int .i64 x.n, .float .f64 x.f, .string x.s, .slice r4 x.ns.length t4, .slice r5 x.xs.length t5] 46) := ⟨_, rfl⟩
          have hz5 : wr.heap.size ≤ W5.heap.size := by rw [hW5]; simp
          have hb5 : Below wr.heap.size wr W5 := by rw [hW5]; exact (Below.refl _ _).alloc (Nat.le_refl _) _
          have hzr := HBL.out.size
          have hc := HIH.out x W5 HXD.out (HXIN.out.below hb5)
          unfold Val.agg at hc
          rw [G4.out, G5.out] at hc
          have HC := Lib.hid hc; have HW5 := Lib.hid hW5; have HB5 := Lib.hid hb5
          clear hc hW5 hb5
          go_wp2_with fail
          rw [← HW5.out]
          refine HC.out.mono ?_
          rintro e w6 ⟨u, rfl, hui, hus, hue, hb6⟩
          obtain ⟨a4, b4, k4⟩ := hui.nslice
          obtain ⟨a5, b5, k5⟩ := hui.xslice
          unfold Val.agg
          rw [k4, k5]
          have hcells : [Value.int .i64 u.k, .int .i64 u.n, .float .f64 u.f, .string u.s, .slice a4 u.ns.length b4, .slice a5 u.xs.length b5] = u.cells := by unfold Val.cells; rw [k4, k5]
          have hz6 := hb6.size
          have hg6 : Below W4.heap.size W4 w6 := HBL.out.trans ((HB5.out.mono hzr).trans (hb6.mono (by omega)))
          have hb06 := HB5.out.trans (hb6.mono hz5)
          have hown6 := own_below HOWN.out hb06
          have hownlt : ∀ g, u3.ownBlock = some g → g < wr.heap.size := fun g hg => (HOWN.out.lt g hg).2
          have husep : u.Sep (fun b => wr.heap.size ≤ b) := hus.mono (fun b hb => by omega)
          have HUI := Lib.hid hui; have HUSP := Lib.hid husep; have HUER := Lib.hid hue; have HG6 := Lib.hid hg6; have HB06 := Lib.hid hb06; have HLT := Lib.hid hownlt
          have hred : Reads (w6.alloc (.cells #[.int .i64 u.k, .int .i64 u.n, .float .f64 u.f, .string u.s, .slice a4 u.ns.length b4, .slice a5 u.xs.length b5] 46)) (w6.heap.size + 1) 6 (some ⟨w6.heap.size, 0, none⟩) 1 u.cells := by
            rw [← hcells]
            exact ⟨rfl, fun _ => ⟨_, rfl, by simp, cells_new w6 _ _⟩⟩
          have HRED := Lib.hid hred; have HOWN6 := Lib.hid (hown6.alloc (.cells #[.int .i64 u.k, .int .i64 u.n, .float .f64 u.f, .string u.s, .slice a4 u.ns.length b4, .slice a5 u.xs.length b5] 46))
          clear hui hus hue hg6 hb06 hown6 hownlt husep hcells hred hb6 k4 k5 hpl d0 d1 d2 d3 d4 d5
          go_wp2_with (at_builtin; refine wpList_append_any _ rfl _ _ 42 rfl W4.heap.size 46 i0 (.agg #[.int .i64 0, .int .i64 0, .float .f64 0, .string ByteArray.empty, .slice none 0 0, .slice none 0 0]) 6 88 Try.underlying42 hi hz0 hz1 hz2' rfl (by decide) _ i (rowCells us) rfl HOWN6.out (w6.heap.size + 1) _ 1 _ u.cells rfl HRED.out (cells_oneCell u) ?c1 ?c2 ?c3 ?_)
          case c1 => unfold maxLen; omega
          case c2 => omega
          case c3 => simp; omega
          intro v' w8 hown' hgrow hor
          have hst := canon_step hzr HUS.out HLT.out HB06.out HUI.out HUSP.out hgrow hor
          rw [← rowCells_snoc] at hown'
          have hb8 := (HG6.out.alloc HG6.out.size _).grown hgrow (by simp; omega) (fun k hk => own_ge HOWN.out hk)
          have HOWN8 := Lib.hid hown'; have HST := Lib.hid hst; have HB8 := Lib.hid hb8
          have hue8 : (us ++ [u]).map Val.erase = (v.xs.take (i + 1)).map Val.canon := by rw [List.map_append, HUE.out, HX.out, List.map_cons, List.map_nil, HUER.out]
          have HUE8 := Lib.hid hue8
          clear hown' hst hb8 hgrow hor hue8
          go_wp2
          go_roundw
          case rel => exact ⟨i + 1, us ++ [u], by go_num, by omega, Lib.hid (by simp [HUL.out]), HUE8, HOWN8, HST, HB8⟩
          case measure => simp [intOf]; omega
        · have hiM : i = v.xs.length := by rw [← HM.out]; omega
          have hul : us.length = v.xs.length := by rw [HUL.out]; exact hiM
          have hown := HOWN.out
          rw [← HUL.out] at hown
          obtain ⟨sx, hsx, hlx, hspx⟩ := rowLies_of_own hown
          obtain ⟨px, qx, kx⟩ := hlx.slice
          have hb0w := HB0'.out.below HBL.out (by omega)
          have hb1w := HB1'.out.below HBL.out (by omega)
          rw [kx] at hsx
          subst hsx
          rw [E4.out] at hb0w
          have m0 := hb0w.cell 0; have m1 := hb0w.cell 1; have m2 := hb0w.cell 2; have m3 := hb0w.cell 3; have m4 := hb0w.cell 4; have m5 := hb0w.cell 5
          have f5 := hb0w.frozen 5
          have r0 := hb1w.cell 0; have r1 := hb1w.cell 1; have r2 := hb1w.cell 2; have r3 := hb1w.cell 3; have r4 := hb1w.cell 4; have r5 := hb1w.cell 5
          have s0 := hb1w.frozen 0; have s1 := hb1w.frozen 1; have s2 := hb1w.frozen 2; have s3 := hb1w.frozen 3; have s4 := hb1w.frozen 4; have s5 := hb1w.frozen 5
          simp at m0 m1 m2 m3 m4 m5 r0 r1 r2 r3 r4 r5
          have HB0X := Lib.hid hb0w; have HB1X := Lib.hid hb1w; have HSX := Lib.hid hlx; have HSPX := Lib.hid hspx; have KX := Lib.hid kx; have HULN := Lib.hid hul
          have HIM := Lib.hid hiM
          clear hb0w hb1w hlx hspx kx hown hul hiM
          go_wp2_with fail
          obtain ⟨WF, hWF⟩ : ∃ WF, WF = ((((((wr.setCell ⟨w.heap.size, 5, none⟩ (.slice px us.length qx)).setCell ⟨w.heap.size + 1, 0, none⟩ (.int .i64 v.k)).setCell ⟨w.heap.size + 1, 1, none⟩ (.int .i64 v.n)).setCell ⟨w.heap.size + 1, 2, none⟩ (.float .f64 (fcan v.f))).setCell ⟨w.heap.size + 1, 3, none⟩ (.string v.s)).setCell ⟨w.heap.size + 1, 4, none⟩ (.slice p4 v.ns.length q4)).setCell ⟨w.heap.size + 1, 5, none⟩ (.slice px us.length qx) := ⟨_, rfl⟩
          rw [← hWF]
          obtain ⟨hbF, hcF, hzF, hBF⟩ := six_stored hWF HB1X.out
          have hBF := hBF w (HB4.out.trans (HBL.out.mono (by omega)))
          have HCF := Lib.hid hcF; have HZF := Lib.hid hzF; have HBF := Lib.hid hBF; have HWF := Lib.hid hWF
          clear hcF hzF hBF hWF m0 m1 m2 m3 m4 m5 f5 r0 r1 r2 r3 r4 r5 s0 s1 s2 s3 s4 s5
          have e0 := hbF.cell 0; have e1 := hbF.cell 1; have e2 := hbF.cell 2; have e3 := hbF.cell 3; have e4 := hbF.cell 4; have e5 := hbF.cell 5
          simp at e0 e1 e2 e3 e4 e5
          refine bodyPost_ret (v := .agg #[.int .i64 v.k, .int .i64 v.n, .float .f64 (fcan v.f), .string v.s, .slice p4 v.ns.length q4, .slice px us.length qx]) (by simp [results, Try.results66, go_sem, e0, e1, e2, e3, e4, e5]) rfl ?_
          exact canon_end ⟨hk, hn, hf, hs, hnl, by rw [← HM.out]; exact hxl, hns⟩ HULN.out (by rw [HUE.out, HIM.out, List.take_length]) E4.out KX.out hz4' HLI.out HSEP.out HBL.out HSX.out HSPX.out HUS.out HCF.out HZF.out HBF.out
end Go.Proofs.Ytemhinagajfemaa
