/- A box's copy. -/
import Derived.Test.YtemhinagajfemaaPostOrdM
namespace Go.Proofs.Ytemhinagajfemaa
set_option linter.unusedVariables false
open Go.RowKit

/-- The copy, so far: its first letters, and where they lie. -/
structure Copied (w : World) (gc i : Nat) (N : Int) (ms cs : List (Val × Val)) (wr : World) : Prop where
  len : cs.length = i
  blk : Blk wr gc 107 (boxC (cs ++ List.replicate (6 - i) zLet) N).toArray
  era : cs.map (fun m => (m.1.erase, m.2.erase)) = (ms.take i).map (fun m => (m.1.canon, m.2.canon))
  ins : ∀ m, m ∈ cs → (m.1.In wr ∧ m.1.Sep (fun b => w.heap.size ≤ b ∧ b ≠ gc)) ∧ (m.2.In wr ∧ m.2.Sep (fun b => w.heap.size ≤ b ∧ b ≠ gc))
  all : Below w.heap.size w wr
def CopyOut (g : Nat) (ms : List (Val × Val)) (w : World) (e : Ending) (w' : World) : Prop :=
  ∃ cs, e = .returned (.pointer (some ⟨w.heap.size, 0, none⟩)) ∧ BoxAt w' w.heap.size cs ∧ cs.map (fun m => (m.1.erase, m.2.erase)) = ms.map (fun m => (m.1.canon, m.2.canon)) ∧
    (∀ m, m ∈ cs → m.1.Sep (fun b => w.heap.size ≤ b) ∧ m.2.Sep (fun b => w.heap.size ≤ b)) ∧ Below w.heap.size w w'
theorem set_copied {cs : List (Val × Val)} {i : Nat} (h : cs.length = i) (hi : i < 6) (m : Val × Val) : (cs ++ List.replicate (6 - i) zLet).set i m = (cs ++ [m]) ++ List.replicate (6 - (i + 1)) zLet := by
  rw [List.set_append_right _ _ (by omega), h, Nat.sub_self]
  obtain ⟨k, hk⟩ : ∃ k, 6 - i = k + 1 := ⟨5 - i, by omega⟩
  rw [hk, show 6 - (i + 1) = k by omega, List.replicate_succ]
  simp
theorem copied_len {cs : List (Val × Val)} {i : Nat} (h : cs.length = i) (hi : i ≤ 6) : (cs ++ List.replicate (6 - i) zLet).length = 6 := by simp [h]; omega

set_option maxHeartbeats 4000000 in
set_option maxRecDepth 100000 in
theorem copy_any (g : Nat) (ms : List (Val × Val)) (w : World) (hbx : BoxAt w g ms) : Calls Try.prog 30 #[.pointer (some ⟨g, 0, none⟩)] w fun e w' => CopyOut g ms w e w' := by
  have hnp : ∀ (W : World) (a : Addr), (binOp .eql 49 (.pointer (some a)) (.pointer none)).run Try.prog W = .ok (.bool false) W := fun _ _ => rfl
  have hglt := hbx.1.lt
  have hbk : Blk w g 107 (boxC (arrOf ms) ms.length).toArray := by
    have := hbx.1
    rwa [boxCells_arr hbx.2.1] at this
  have hn := hbx.n
  have hle := hbx.2.1
  obtain ⟨N, hN⟩ : ∃ N, N = ms.length := ⟨_, rfl⟩
  rw [← hN] at hle hn
  have HN := Lib.hid hN; have HBX := Lib.hid hbx; have HBK := Lib.hid hbk
  clear hN hbx hbk
  go_enter Try.func30, Try.ntmps30
  go_wp2_with fail
  obtain ⟨W0, hW0⟩ : ∃ W0, W0 = w.alloc (.cells (boxC (List.replicate 6 zLet) N).toArray 107) := ⟨_, rfl⟩
  have HC0 : Hid (Copied w w.heap.size 0 N ms [] W0) := Lib.hid ⟨rfl, by rw [hW0]; exact Blk.new w 107 _, rfl, fun m hm => by simp at hm, by rw [hW0]; exact (Below.refl _ _).alloc (Nat.le_refl _) _⟩
  change Code.wp _ _ _ _ (w.alloc (.cells (boxC (List.replicate 6 zLet) N).toArray 107))
  rw [← hW0]
  obtain ⟨gc, hgc⟩ : ∃ gc, gc = w.heap.size := ⟨_, rfl⟩
  rw [← hgc] at HC0 ⊢
  have hggc : g < gc := by omega
  have HGC := Lib.hid hgc
  clear hW0 hgc
  go_loopw [17] (fun iv wr => ∃ (i : Nat) (cs : List (Val × Val)), iv = .int .i64 (i : Int) ∧ i ≤ N ∧ Copied w gc i N ms cs wr) (fun iv _ => N - (intOf iv).toNat)
  case atStart => exact ⟨0, [], rfl, by omega, HC0.out⟩
  case round =>
    obtain ⟨i, cs, rfl, hi, hcp⟩ := hrel
    have HCP := Lib.hid hcp
    clear hcp HC0
    by_cases hlt : i < N
    · have hil : i < ms.length := by rw [← HN.out]; exact hlt
      obtain ⟨m, hm⟩ : ∃ m, ms[i]? = some m := ⟨ms[i]'hil, List.getElem?_eq_getElem _⟩
      have hma : (arrOf ms)[i]? = some (m.1, m.2) := by rw [arrOf_in hil]; exact hm
      obtain ⟨d0, d1, d2, d3, d4, d5, d6, d7, d8, d9, d10, d11⟩ := let_cells (HBK.out.below HCP.out.all hglt) hma
      have hmem : m ∈ ms := List.mem_of_getElem? hm
      have ha1 : m.1.In wr := (HBX.out.2.2 _ hmem).1.1.below HCP.out.all
      have ha2 : m.2.In wr := (HBX.out.2.2 _ hmem).2.1.below HCP.out.all
      obtain ⟨s4, z4, g4⟩ := ha1.nslice
      obtain ⟨s5, z5, g5⟩ := ha1.xslice
      obtain ⟨s6, z6, g6⟩ := ha2.nslice
      obtain ⟨s7, z7, g7⟩ := ha2.xslice
      rw [g4] at d4
      rw [g5] at d5
      rw [g6] at d10
      rw [g7] at d11
      have hc1 := canon_val m.1.sz m.1 wr.drew (Nat.le_refl _) ha1.drew
      have hc2 := fun (W : World) (hb : Below wr.heap.size wr W) => canon_val m.2.sz m.2 W (Nat.le_refl _) (ha2.below hb)
      unfold Val.agg at hc1 hc2
      rw [g4, g5] at hc1
      simp only [g6, g7] at hc2
      have htk : (ms.take (i + 1)).map (fun m => (m.1.canon, m.2.canon)) = (ms.take i).map (fun m => (m.1.canon, m.2.canon)) ++ [(m.1.canon, m.2.canon)] := by
        rw [List.take_add_one, hm]
        simp
      have HX := Lib.hid htk; have HC1 := Lib.hid hc1; have HC2 := Lib.hid hc2
      have HS0 : Hid (wr.drew.cell? ⟨g, i * 12, none⟩ = some (.int .i64 m.1.k) ∧ wr.drew.cell? ⟨g, i * 12 + 1, none⟩ = some (.int .i64 m.1.n) ∧ wr.drew.cell? ⟨g, i * 12 + 2, none⟩ = some (.float .f64 m.1.f) ∧ wr.drew.cell? ⟨g, i * 12 + 3, none⟩ = some (.string m.1.s) ∧ wr.drew.cell? ⟨g, i * 12 + 4, none⟩ = some (.slice s4 m.1.ns.length z4) ∧ wr.drew.cell? ⟨g, i * 12 + 5, none⟩ = some (.slice s5 m.1.xs.length z5) ∧ wr.drew.cell? ⟨g, i * 12 + 6, none⟩ = some (.int .i64 m.2.k) ∧ wr.drew.cell? ⟨g, i * 12 + 7, none⟩ = some (.int .i64 m.2.n) ∧ wr.drew.cell? ⟨g, i * 12 + 8, none⟩ = some (.float .f64 m.2.f) ∧ wr.drew.cell? ⟨g, i * 12 + 9, none⟩ = some (.string m.2.s) ∧ wr.drew.cell? ⟨g, i * 12 + 10, none⟩ = some (.slice s6 m.2.ns.length z6) ∧ wr.drew.cell? ⟨g, i * 12 + 11, none⟩ = some (.slice s7 m.2.xs.length z7)) := Lib.hid (And.intro d0 (And.intro d1 (And.intro d2 (And.intro d3 (And.intro d4 (And.intro d5 (And.intro d6 (And.intro d7 (And.intro d8 (And.intro d9 (And.intro d10 d11)))))))))))
      have hk0 : (0 : Int) ≤ (i : Int) := by omega
      have hk1 : (i : Int) < (N : Int) := by omega
      have hk6 : (i : Int) < 6 := by omega
      have hi6 : i < 6 := by omega
      have hgr : g < wr.heap.size := by have := HCP.out.all.size; omega
      have hgw : gc < wr.heap.size := HCP.out.blk.lt
      have hsf := run_store_flt
      clear hil hm hma hmem ha1 ha2 g4 g5 g6 g7 hc1 hc2 htk d0 d1 d2 d3 d4 d5 d6 d7 d8 d9 d10 d11
      go_wp2_with fail
      go_region_held3 (fun W => W.cell? ⟨g, i * 12, none⟩ = some (.int .i64 m.1.k) ∧ W.cell? ⟨g, i * 12 + 1, none⟩ = some (.int .i64 m.1.n) ∧ W.cell? ⟨g, i * 12 + 2, none⟩ = some (.float .f64 m.1.f) ∧ W.cell? ⟨g, i * 12 + 3, none⟩ = some (.string m.1.s) ∧ W.cell? ⟨g, i * 12 + 4, none⟩ = some (.slice s4 m.1.ns.length z4) ∧ W.cell? ⟨g, i * 12 + 5, none⟩ = some (.slice s5 m.1.xs.length z5) ∧ W.cell? ⟨g, i * 12 + 6, none⟩ = some (.int .i64 m.2.k) ∧ W.cell? ⟨g, i * 12 + 7, none⟩ = some (.int .i64 m.2.n) ∧ W.cell? ⟨g, i * 12 + 8, none⟩ = some (.float .f64 m.2.f) ∧ W.cell? ⟨g, i * 12 + 9, none⟩ = some (.string m.2.s) ∧ W.cell? ⟨g, i * 12 + 10, none⟩ = some (.slice s6 m.2.ns.length z6) ∧ W.cell? ⟨g, i * 12 + 11, none⟩ = some (.slice s7 m.2.xs.length z7))
        (first | with_reducible exact HS0.out | with_reducible exact HS4.out | with_reducible exact HS5.out | with_reducible exact HS6.out | fail)
        (first
          | (go_at_call_of 66 (Value.agg #[.int .i64 m.1.k, .int .i64 m.1.n, .float .f64 m.1.f, .string m.1.s, .slice s4 m.1.ns.length z4, .slice s5 m.1.xs.length z5]); refine HC1.out.mono ?_; rintro e w4 ⟨a, rfl, hai, has, hae, hba⟩;
             have HBA := Lib.hid ((Below.refl wr.heap.size wr).drew.trans hba);
             have HS4 : Hid (w4.cell? ⟨g, i * 12, none⟩ = some (.int .i64 m.1.k) ∧ w4.cell? ⟨g, i * 12 + 1, none⟩ = some (.int .i64 m.1.n) ∧ w4.cell? ⟨g, i * 12 + 2, none⟩ = some (.float .f64 m.1.f) ∧ w4.cell? ⟨g, i * 12 + 3, none⟩ = some (.string m.1.s) ∧ w4.cell? ⟨g, i * 12 + 4, none⟩ = some (.slice s4 m.1.ns.length z4) ∧ w4.cell? ⟨g, i * 12 + 5, none⟩ = some (.slice s5 m.1.xs.length z5) ∧ w4.cell? ⟨g, i * 12 + 6, none⟩ = some (.int .i64 m.2.k) ∧ w4.cell? ⟨g, i * 12 + 7, none⟩ = some (.int .i64 m.2.n) ∧ w4.cell? ⟨g, i * 12 + 8, none⟩ = some (.float .f64 m.2.f) ∧ w4.cell? ⟨g, i * 12 + 9, none⟩ = some (.string m.2.s) ∧ w4.cell? ⟨g, i * 12 + 10, none⟩ = some (.slice s6 m.2.ns.length z6) ∧ w4.cell? ⟨g, i * 12 + 11, none⟩ = some (.slice s7 m.2.xs.length z7)) := Lib.hid (by obtain ⟨e0, e1, e2, e3, e4, e5, e6, e7, e8, e9, e10, e11⟩ := HS0.out; exact And.intro ((hba.cell (p := ⟨g, i * 12, none⟩) hgr).trans e0) (And.intro ((hba.cell (p := ⟨g, i * 12 + 1, none⟩) hgr).trans e1) (And.intro ((hba.cell (p := ⟨g, i * 12 + 2, none⟩) hgr).trans e2) (And.intro ((hba.cell (p := ⟨g, i * 12 + 3, none⟩) hgr).trans e3) (And.intro ((hba.cell (p := ⟨g, i * 12 + 4, none⟩) hgr).trans e4) (And.intro ((hba.cell (p := ⟨g, i * 12 + 5, none⟩) hgr).trans e5) (And.intro ((hba.cell (p := ⟨g, i * 12 + 6, none⟩) hgr).trans e6) (And.intro ((hba.cell (p := ⟨g, i * 12 + 7, none⟩) hgr).trans e7) (And.intro ((hba.cell (p := ⟨g, i * 12 + 8, none⟩) hgr).trans e8) (And.intro ((hba.cell (p := ⟨g, i * 12 + 9, none⟩) hgr).trans e9) (And.intro ((hba.cell (p := ⟨g, i * 12 + 10, none⟩) hgr).trans e10) ((hba.cell (p := ⟨g, i * 12 + 11, none⟩) hgr).trans e11))))))))))));
             have HD2 := Lib.hid (HC2.out w4 HBA.out);
             obtain ⟨pa, qa, ka⟩ := hai.nslice; obtain ⟨pb, qb, kb⟩ := hai.xslice;
             unfold Val.agg; rw [ka, kb]; have KA := Lib.hid ka; have KB := Lib.hid kb;
             have HAI := Lib.hid hai; have HAS := Lib.hid has; have HAE := Lib.hid hae;
             clear hai has hae hba HC1 HC2 ka kb)
          | (go_at_call 66; refine HD2.out.mono ?_; rintro e w5 ⟨b, rfl, hbi, hbs, hbe, hbb⟩;
             have HBB := Lib.hid (HBA.out.trans (hbb.mono HBA.out.size));
             obtain ⟨pc, qc, kc⟩ := hbi.nslice; obtain ⟨pd, qd, kd⟩ := hbi.xslice;
             unfold Val.agg; rw [kc, kd]; have KC := Lib.hid kc; have KD := Lib.hid kd;
             have HBI := Lib.hid hbi; have HBS := Lib.hid hbs; have HBE := Lib.hid hbe; have HBB1 := Lib.hid hbb;
             have hbk5 := HCP.out.blk.below HBB.out hgw;
             have HS5 : Hid (w5.cell? ⟨g, i * 12, none⟩ = some (.int .i64 m.1.k) ∧ w5.cell? ⟨g, i * 12 + 1, none⟩ = some (.int .i64 m.1.n) ∧ w5.cell? ⟨g, i * 12 + 2, none⟩ = some (.float .f64 m.1.f) ∧ w5.cell? ⟨g, i * 12 + 3, none⟩ = some (.string m.1.s) ∧ w5.cell? ⟨g, i * 12 + 4, none⟩ = some (.slice s4 m.1.ns.length z4) ∧ w5.cell? ⟨g, i * 12 + 5, none⟩ = some (.slice s5 m.1.xs.length z5) ∧ w5.cell? ⟨g, i * 12 + 6, none⟩ = some (.int .i64 m.2.k) ∧ w5.cell? ⟨g, i * 12 + 7, none⟩ = some (.int .i64 m.2.n) ∧ w5.cell? ⟨g, i * 12 + 8, none⟩ = some (.float .f64 m.2.f) ∧ w5.cell? ⟨g, i * 12 + 9, none⟩ = some (.string m.2.s) ∧ w5.cell? ⟨g, i * 12 + 10, none⟩ = some (.slice s6 m.2.ns.length z6) ∧ w5.cell? ⟨g, i * 12 + 11, none⟩ = some (.slice s7 m.2.xs.length z7)) := Lib.hid (by obtain ⟨e0, e1, e2, e3, e4, e5, e6, e7, e8, e9, e10, e11⟩ := HS0.out; exact And.intro ((HBB.out.cell (p := ⟨g, i * 12, none⟩) hgr).trans e0) (And.intro ((HBB.out.cell (p := ⟨g, i * 12 + 1, none⟩) hgr).trans e1) (And.intro ((HBB.out.cell (p := ⟨g, i * 12 + 2, none⟩) hgr).trans e2) (And.intro ((HBB.out.cell (p := ⟨g, i * 12 + 3, none⟩) hgr).trans e3) (And.intro ((HBB.out.cell (p := ⟨g, i * 12 + 4, none⟩) hgr).trans e4) (And.intro ((HBB.out.cell (p := ⟨g, i * 12 + 5, none⟩) hgr).trans e5) (And.intro ((HBB.out.cell (p := ⟨g, i * 12 + 6, none⟩) hgr).trans e6) (And.intro ((HBB.out.cell (p := ⟨g, i * 12 + 7, none⟩) hgr).trans e7) (And.intro ((HBB.out.cell (p := ⟨g, i * 12 + 8, none⟩) hgr).trans e8) (And.intro ((HBB.out.cell (p := ⟨g, i * 12 + 9, none⟩) hgr).trans e9) (And.intro ((HBB.out.cell (p := ⟨g, i * 12 + 10, none⟩) hgr).trans e10) ((HBB.out.cell (p := ⟨g, i * 12 + 11, none⟩) hgr).trans e11))))))))))));
             have HS6 : Hid (((((((((((((w5.setCell ⟨gc, i * 12, none⟩ (.int .i64 a.k)).setCell ⟨gc, i * 12 + 1, none⟩ (.int .i64 a.n)).setCell ⟨gc, i * 12 + 2, none⟩ (.float .f64 a.f)).setCell ⟨gc, i * 12 + 3, none⟩ (.string a.s)).setCell ⟨gc, i * 12 + 4, none⟩ (.slice pa a.ns.length qa)).setCell ⟨gc, i * 12 + 5, none⟩ (.slice pb a.xs.length qb)).setCell ⟨gc, i * 12 + 6, none⟩ (.int .i64 b.k)).setCell ⟨gc, i * 12 + 7, none⟩ (.int .i64 b.n)).setCell ⟨gc, i * 12 + 8, none⟩ (.float .f64 b.f)).setCell ⟨gc, i * 12 + 9, none⟩ (.string b.s)).setCell ⟨gc, i * 12 + 10, none⟩ (.slice pc b.ns.length qc)).setCell ⟨gc, i * 12 + 11, none⟩ (.slice pd b.xs.length qd)).cell? ⟨g, i * 12, none⟩ = some (.int .i64 m.1.k) ∧ ((((((((((((w5.setCell ⟨gc, i * 12, none⟩ (.int .i64 a.k)).setCell ⟨gc, i * 12 + 1, none⟩ (.int .i64 a.n)).setCell ⟨gc, i * 12 + 2, none⟩ (.float .f64 a.f)).setCell ⟨gc, i * 12 + 3, none⟩ (.string a.s)).setCell ⟨gc, i * 12 + 4, none⟩ (.slice pa a.ns.length qa)).setCell ⟨gc, i * 12 + 5, none⟩ (.slice pb a.xs.length qb)).setCell ⟨gc, i * 12 + 6, none⟩ (.int .i64 b.k)).setCell ⟨gc, i * 12 + 7, none⟩ (.int .i64 b.n)).setCell ⟨gc, i * 12 + 8, none⟩ (.float .f64 b.f)).setCell ⟨gc, i * 12 + 9, none⟩ (.string b.s)).setCell ⟨gc, i * 12 + 10, none⟩ (.slice pc b.ns.length qc)).setCell ⟨gc, i * 12 + 11, none⟩ (.slice pd b.xs.length qd)).cell? ⟨g, i * 12 + 1, none⟩ = some (.int .i64 m.1.n) ∧ ((((((((((((w5.setCell ⟨gc, i * 12, none⟩ (.int .i64 a.k)).setCell ⟨gc, i * 12 + 1, none⟩ (.int .i64 a.n)).setCell ⟨gc, i * 12 + 2, none⟩ (.float .f64 a.f)).setCell ⟨gc, i * 12 + 3, none⟩ (.string a.s)).setCell ⟨gc, i * 12 + 4, none⟩ (.slice pa a.ns.length qa)).setCell ⟨gc, i * 12 + 5, none⟩ (.slice pb a.xs.length qb)).setCell ⟨gc, i * 12 + 6, none⟩ (.int .i64 b.k)).setCell ⟨gc, i * 12 + 7, none⟩ (.int .i64 b.n)).setCell ⟨gc, i * 12 + 8, none⟩ (.float .f64 b.f)).setCell ⟨gc, i * 12 + 9, none⟩ (.string b.s)).setCell ⟨gc, i * 12 + 10, none⟩ (.slice pc b.ns.length qc)).setCell ⟨gc, i * 12 + 11, none⟩ (.slice pd b.xs.length qd)).cell? ⟨g, i * 12 + 2, none⟩ = some (.float .f64 m.1.f) ∧ ((((((((((((w5.setCell ⟨gc, i * 12, none⟩ (.int .i64 a.k)).setCell ⟨gc, i * 12 + 1, none⟩ (.int .i64 a.n)).setCell ⟨gc, i * 12 + 2, none⟩ (.float .f64 a.f)).setCell ⟨gc, i * 12 + 3, none⟩ (.string a.s)).setCell ⟨gc, i * 12 + 4, none⟩ (.slice pa a.ns.length qa)).setCell ⟨gc, i * 12 + 5, none⟩ (.slice pb a.xs.length qb)).setCell ⟨gc, i * 12 + 6, none⟩ (.int .i64 b.k)).setCell ⟨gc, i * 12 + 7, none⟩ (.int .i64 b.n)).setCell ⟨gc, i * 12 + 8, none⟩ (.float .f64 b.f)).setCell ⟨gc, i * 12 + 9, none⟩ (.string b.s)).setCell ⟨gc, i * 12 + 10, none⟩ (.slice pc b.ns.length qc)).setCell ⟨gc, i * 12 + 11, none⟩ (.slice pd b.xs.length qd)).cell? ⟨g, i * 12 + 3, none⟩ = some (.string m.1.s) ∧ ((((((((((((w5.setCell ⟨gc, i * 12, none⟩ (.int .i64 a.k)).setCell ⟨gc, i * 12 + 1, none⟩ (.int .i64 a.n)).setCell ⟨gc, i * 12 + 2, none⟩ (.float .f64 a.f)).setCell ⟨gc, i * 12 + 3, none⟩ (.string a.s)).setCell ⟨gc, i * 12 + 4, none⟩ (.slice pa a.ns.length qa)).setCell ⟨gc, i * 12 + 5, none⟩ (.slice pb a.xs.length qb)).setCell ⟨gc, i * 12 + 6, none⟩ (.int .i64 b.k)).setCell ⟨gc, i * 12 + 7, none⟩ (.int .i64 b.n)).setCell ⟨gc, i * 12 + 8, none⟩ (.float .f64 b.f)).setCell ⟨gc, i * 12 + 9, none⟩ (.string b.s)).setCell ⟨gc, i * 12 + 10, none⟩ (.slice pc b.ns.length qc)).setCell ⟨gc, i * 12 + 11, none⟩ (.slice pd b.xs.length qd)).cell? ⟨g, i * 12 + 4, none⟩ = some (.slice s4 m.1.ns.length z4) ∧ ((((((((((((w5.setCell ⟨gc, i * 12, none⟩ (.int .i64 a.k)).setCell ⟨gc, i * 12 + 1, none⟩ (.int .i64 a.n)).setCell ⟨gc, i * 12 + 2, none⟩ (.float .f64 a.f)).setCell ⟨gc, i * 12 + 3, none⟩ (.string a.s)).setCell ⟨gc, i * 12 + 4, none⟩ (.slice pa a.ns.length qa)).setCell ⟨gc, i * 12 + 5, none⟩ (.slice pb a.xs.length qb)).setCell ⟨gc, i * 12 + 6, none⟩ (.int .i64 b.k)).setCell ⟨gc, i * 12 + 7, none⟩ (.int .i64 b.n)).setCell ⟨gc, i * 12 + 8, none⟩ (.float .f64 b.f)).setCell ⟨gc, i * 12 + 9, none⟩ (.string b.s)).setCell ⟨gc, i * 12 + 10, none⟩ (.slice pc b.ns.length qc)).setCell ⟨gc, i * 12 + 11, none⟩ (.slice pd b.xs.length qd)).cell? ⟨g, i * 12 + 5, none⟩ = some (.slice s5 m.1.xs.length z5) ∧ ((((((((((((w5.setCell ⟨gc, i * 12, none⟩ (.int .i64 a.k)).setCell ⟨gc, i * 12 + 1, none⟩ (.int .i64 a.n)).setCell ⟨gc, i * 12 + 2, none⟩ (.float .f64 a.f)).setCell ⟨gc, i * 12 + 3, none⟩ (.string a.s)).setCell ⟨gc, i * 12 + 4, none⟩ (.slice pa a.ns.length qa)).setCell ⟨gc, i * 12 + 5, none⟩ (.slice pb a.xs.length qb)).setCell ⟨gc, i * 12 + 6, none⟩ (.int .i64 b.k)).setCell ⟨gc, i * 12 + 7, none⟩ (.int .i64 b.n)).setCell ⟨gc, i * 12 + 8, none⟩ (.float .f64 b.f)).setCell ⟨gc, i * 12 + 9, none⟩ (.string b.s)).setCell ⟨gc, i * 12 + 10, none⟩ (.slice pc b.ns.length qc)).setCell ⟨gc, i * 12 + 11, none⟩ (.slice pd b.xs.length qd)).cell? ⟨g, i * 12 + 6, none⟩ = some (.int .i64 m.2.k) ∧ ((((((((((((w5.setCell ⟨gc, i * 12, none⟩ (.int .i64 a.k)).setCell ⟨gc, i * 12 + 1, none⟩ (.int .i64 a.n)).setCell ⟨gc, i * 12 + 2, none⟩ (.float .f64 a.f)).setCell ⟨gc, i * 12 + 3, none⟩ (.string a.s)).setCell ⟨gc, i * 12 + 4, none⟩ (.slice pa a.ns.length qa)).setCell ⟨gc, i * 12 + 5, none⟩ (.slice pb a.xs.length qb)).setCell ⟨gc, i * 12 + 6, none⟩ (.int .i64 b.k)).setCell ⟨gc, i * 12 + 7, none⟩ (.int .i64 b.n)).setCell ⟨gc, i * 12 + 8, none⟩ (.float .f64 b.f)).setCell ⟨gc, i * 12 + 9, none⟩ (.string b.s)).setCell ⟨gc, i * 12 + 10, none⟩ (.slice pc b.ns.length qc)).setCell ⟨gc, i * 12 + 11, none⟩ (.slice pd b.xs.length qd)).cell? ⟨g, i * 12 + 7, none⟩ = some (.int .i64 m.2.n) ∧ ((((((((((((w5.setCell ⟨gc, i * 12, none⟩ (.int .i64 a.k)).setCell ⟨gc, i * 12 + 1, none⟩ (.int .i64 a.n)).setCell ⟨gc, i * 12 + 2, none⟩ (.float .f64 a.f)).setCell ⟨gc, i * 12 + 3, none⟩ (.string a.s)).setCell ⟨gc, i * 12 + 4, none⟩ (.slice pa a.ns.length qa)).setCell ⟨gc, i * 12 + 5, none⟩ (.slice pb a.xs.length qb)).setCell ⟨gc, i * 12 + 6, none⟩ (.int .i64 b.k)).setCell ⟨gc, i * 12 + 7, none⟩ (.int .i64 b.n)).setCell ⟨gc, i * 12 + 8, none⟩ (.float .f64 b.f)).setCell ⟨gc, i * 12 + 9, none⟩ (.string b.s)).setCell ⟨gc, i * 12 + 10, none⟩ (.slice pc b.ns.length qc)).setCell ⟨gc, i * 12 + 11, none⟩ (.slice pd b.xs.length qd)).cell? ⟨g, i * 12 + 8, none⟩ = some (.float .f64 m.2.f) ∧ ((((((((((((w5.setCell ⟨gc, i * 12, none⟩ (.int .i64 a.k)).setCell ⟨gc, i * 12 + 1, none⟩ (.int .i64 a.n)).setCell ⟨gc, i * 12 + 2, none⟩ (.float .f64 a.f)).setCell ⟨gc, i * 12 + 3, none⟩ (.string a.s)).setCell ⟨gc, i * 12 + 4, none⟩ (.slice pa a.ns.length qa)).setCell ⟨gc, i * 12 + 5, none⟩ (.slice pb a.xs.length qb)).setCell ⟨gc, i * 12 + 6, none⟩ (.int .i64 b.k)).setCell ⟨gc, i * 12 + 7, none⟩ (.int .i64 b.n)).setCell ⟨gc, i * 12 + 8, none⟩ (.float .f64 b.f)).setCell ⟨gc, i * 12 + 9, none⟩ (.string b.s)).setCell ⟨gc, i * 12 + 10, none⟩ (.slice pc b.ns.length qc)).setCell ⟨gc, i * 12 + 11, none⟩ (.slice pd b.xs.length qd)).cell? ⟨g, i * 12 + 9, none⟩ = some (.string m.2.s) ∧ ((((((((((((w5.setCell ⟨gc, i * 12, none⟩ (.int .i64 a.k)).setCell ⟨gc, i * 12 + 1, none⟩ (.int .i64 a.n)).setCell ⟨gc, i * 12 + 2, none⟩ (.float .f64 a.f)).setCell ⟨gc, i * 12 + 3, none⟩ (.string a.s)).setCell ⟨gc, i * 12 + 4, none⟩ (.slice pa a.ns.length qa)).setCell ⟨gc, i * 12 + 5, none⟩ (.slice pb a.xs.length qb)).setCell ⟨gc, i * 12 + 6, none⟩ (.int .i64 b.k)).setCell ⟨gc, i * 12 + 7, none⟩ (.int .i64 b.n)).setCell ⟨gc, i * 12 + 8, none⟩ (.float .f64 b.f)).setCell ⟨gc, i * 12 + 9, none⟩ (.string b.s)).setCell ⟨gc, i * 12 + 10, none⟩ (.slice pc b.ns.length qc)).setCell ⟨gc, i * 12 + 11, none⟩ (.slice pd b.xs.length qd)).cell? ⟨g, i * 12 + 10, none⟩ = some (.slice s6 m.2.ns.length z6) ∧ ((((((((((((w5.setCell ⟨gc, i * 12, none⟩ (.int .i64 a.k)).setCell ⟨gc, i * 12 + 1, none⟩ (.int .i64 a.n)).setCell ⟨gc, i * 12 + 2, none⟩ (.float .f64 a.f)).setCell ⟨gc, i * 12 + 3, none⟩ (.string a.s)).setCell ⟨gc, i * 12 + 4, none⟩ (.slice pa a.ns.length qa)).setCell ⟨gc, i * 12 + 5, none⟩ (.slice pb a.xs.length qb)).setCell ⟨gc, i * 12 + 6, none⟩ (.int .i64 b.k)).setCell ⟨gc, i * 12 + 7, none⟩ (.int .i64 b.n)).setCell ⟨gc, i * 12 + 8, none⟩ (.float .f64 b.f)).setCell ⟨gc, i * 12 + 9, none⟩ (.string b.s)).setCell ⟨gc, i * 12 + 10, none⟩ (.slice pc b.ns.length qc)).setCell ⟨gc, i * 12 + 11, none⟩ (.slice pd b.xs.length qd)).cell? ⟨g, i * 12 + 11, none⟩ = some (.slice s7 m.2.xs.length z7)) := Lib.hid (by obtain ⟨e0, e1, e2, e3, e4, e5, e6, e7, e8, e9, e10, e11⟩ := HS5.out; exact And.intro (keep12 (g := gc) (o := i * 12) e0 (.inl (by omega)) (.int .i64 a.k) (.int .i64 a.n) (.float .f64 a.f) (.string a.s) (.slice pa a.ns.length qa) (.slice pb a.xs.length qb) (.int .i64 b.k) (.int .i64 b.n) (.float .f64 b.f) (.string b.s) (.slice pc b.ns.length qc) (.slice pd b.xs.length qd)) (And.intro (keep12 (g := gc) (o := i * 12) e1 (.inl (by omega)) (.int .i64 a.k) (.int .i64 a.n) (.float .f64 a.f) (.string a.s) (.slice pa a.ns.length qa) (.slice pb a.xs.length qb) (.int .i64 b.k) (.int .i64 b.n) (.float .f64 b.f) (.string b.s) (.slice pc b.ns.length qc) (.slice pd b.xs.length qd)) (And.intro (keep12 (g := gc) (o := i * 12) e2 (.inl (by omega)) (.int .i64 a.k) (.int .i64 a.n) (.float .f64 a.f) (.string a.s) (.slice pa a.ns.length qa) (.slice pb a.xs.length qb) (.int .i64 b.k) (.int .i64 b.n) (.float .f64 b.f) (.string b.s) (.slice pc b.ns.length qc) (.slice pd b.xs.length qd)) (And.intro (keep12 (g := gc) (o := i * 12) e3 (.inl (by omega)) (.int .i64 a.k) (.int .i64 a.n) (.float .f64 a.f) (.string a.s) (.slice pa a.ns.length qa) (.slice pb a.xs.length qb) (.int .i64 b.k) (.int .i64 b.n) (.float .f64 b.f) (.string b.s) (.slice pc b.ns.length qc) (.slice pd b.xs.length qd)) (And.intro (keep12 (g := gc) (o := i * 12) e4 (.inl (by omega)) (.int .i64 a.k) (.int .i64 a.n) (.float .f64 a.f) (.string a.s) (.slice pa a.ns.length qa) (.slice pb a.xs.length qb) (.int .i64 b.k) (.int .i64 b.n) (.float .f64 b.f) (.string b.s) (.slice pc b.ns.length qc) (.slice pd b.xs.length qd)) (And.intro (keep12 (g := gc) (o := i * 12) e5 (.inl (by omega)) (.int .i64 a.k) (.int .i64 a.n) (.float .f64 a.f) (.string a.s) (.slice pa a.ns.length qa) (.slice pb a.xs.length qb) (.int .i64 b.k) (.int .i64 b.n) (.float .f64 b.f) (.string b.s) (.slice pc b.ns.length qc) (.slice pd b.xs.length qd)) (And.intro (keep12 (g := gc) (o := i * 12) e6 (.inl (by omega)) (.int .i64 a.k) (.int .i64 a.n) (.float .f64 a.f) (.string a.s) (.slice pa a.ns.length qa) (.slice pb a.xs.length qb) (.int .i64 b.k) (.int .i64 b.n) (.float .f64 b.f) (.string b.s) (.slice pc b.ns.length qc) (.slice pd b.xs.length qd)) (And.intro (keep12 (g := gc) (o := i * 12) e7 (.inl (by omega)) (.int .i64 a.k) (.int .i64 a.n) (.float .f64 a.f) (.string a.s) (.slice pa a.ns.length qa) (.slice pb a.xs.length qb) (.int .i64 b.k) (.int .i64 b.n) (.float .f64 b.f) (.string b.s) (.slice pc b.ns.length qc) (.slice pd b.xs.length qd)) (And.intro (keep12 (g := gc) (o := i * 12) e8 (.inl (by omega)) (.int .i64 a.k) (.int .i64 a.n) (.float .f64 a.f) (.string a.s) (.slice pa a.ns.length qa) (.slice pb a.xs.length qb) (.int .i64 b.k) (.int .i64 b.n) (.float .f64 b.f) (.string b.s) (.slice pc b.ns.length qc) (.slice pd b.xs.length qd)) (And.intro (keep12 (g := gc) (o := i * 12) e9 (.inl (by omega)) (.int .i64 a.k) (.int .i64 a.n) (.float .f64 a.f) (.string a.s) (.slice pa a.ns.length qa) (.slice pb a.xs.length qb) (.int .i64 b.k) (.int .i64 b.n) (.float .f64 b.f) (.string b.s) (.slice pc b.ns.length qc) (.slice pd b.xs.length qd)) (And.intro (keep12 (g := gc) (o := i * 12) e10 (.inl (by omega)) (.int .i64 a.k) (.int .i64 a.n) (.float .f64 a.f) (.string a.s) (.slice pa a.ns.length qa) (.slice pb a.xs.length qb) (.int .i64 b.k) (.int .i64 b.n) (.float .f64 b.f) (.string b.s) (.slice pc b.ns.length qc) (.slice pd b.xs.length qd)) (keep12 (g := gc) (o := i * 12) e11 (.inl (by omega)) (.int .i64 a.k) (.int .i64 a.n) (.float .f64 a.f) (.string a.s) (.slice pa a.ns.length qa) (.slice pb a.xs.length qb) (.int .i64 b.k) (.int .i64 b.n) (.float .f64 b.f) (.string b.s) (.slice pc b.ns.length qc) (.slice pd b.xs.length qd)))))))))))));
             obtain ⟨⟨x0, hx0⟩, f0, ⟨x1, hx1⟩, f1, ⟨x2, hx2⟩, f2, ⟨x3, hx3⟩, f3, ⟨x4, hx4⟩, f4, ⟨x5, hx5⟩, f5, ⟨x6, hx6⟩, f6, ⟨x7, hx7⟩, f7, ⟨x8, hx8⟩, f8, ⟨x9, hx9⟩, f9, ⟨x10, hx10⟩, f10, ⟨x11, hx11⟩, f11⟩ := twelve hbk5 (o := i * 12) (by rw [List.size_toArray, boxC_len (copied_len HCP.out.len (by omega))]; omega) (.int .i64 a.k) (.int .i64 a.n) (.float .f64 a.f) (.string a.s) (.slice pa a.ns.length qa) (.slice pb a.xs.length qb) (.int .i64 b.k) (.int .i64 b.n) (.float .f64 b.f) (.string b.s) (.slice pc b.ns.length qc) (.slice pd b.xs.length qd);
             have HW12 := Lib.hid (stored12 (o := i * 12) hbk5 (.int .i64 a.k) (.int .i64 a.n) (.float .f64 a.f) (.string a.s) (.slice pa a.ns.length qa) (.slice pb a.xs.length qb) (.int .i64 b.k) (.int .i64 b.n) (.float .f64 b.f) (.string b.s) (.slice pc b.ns.length qc) (.slice pd b.xs.length qd));
             clear hbi hbs hbe hbb hbk5 HD2 kc kd))
      clear hx0 f0 hx1 f1 hx2 f2 hx3 f3 hx4 f4 hx5 f5 hx6 f6 hx7 f7 hx8 f8 hx9 f9 hx10 f10 hx11 f11 HS5 HS6
      have hX := HW12.out
      clear HW12
      generalize ((((((((((((w5.setCell ⟨gc, i * 12, none⟩ (.int .i64 a.k)).setCell ⟨gc, i * 12 + 1, none⟩ (.int .i64 a.n)).setCell ⟨gc, i * 12 + 2, none⟩ (.float .f64 a.f)).setCell ⟨gc, i * 12 + 3, none⟩ (.string a.s)).setCell ⟨gc, i * 12 + 4, none⟩ (.slice pa a.ns.length qa)).setCell ⟨gc, i * 12 + 5, none⟩ (.slice pb a.xs.length qb)).setCell ⟨gc, i * 12 + 6, none⟩ (.int .i64 b.k)).setCell ⟨gc, i * 12 + 7, none⟩ (.int .i64 b.n)).setCell ⟨gc, i * 12 + 8, none⟩ (.float .f64 b.f)).setCell ⟨gc, i * 12 + 9, none⟩ (.string b.s)).setCell ⟨gc, i * 12 + 10, none⟩ (.slice pc b.ns.length qc)).setCell ⟨gc, i * 12 + 11, none⟩ (.slice pd b.xs.length qd)) = w6 at hX ⊢
      obtain ⟨hb6, ho6⟩ := hX
      have ec : [Value.int .i64 a.k, .int .i64 a.n, .float .f64 a.f, .string a.s, .slice pa a.ns.length qa, .slice pb a.xs.length qb, .int .i64 b.k, .int .i64 b.n, .float .f64 b.f, .string b.s, .slice pc b.ns.length qc, .slice pd b.xs.length qd] = letC (a, b) := by
        show _ = a.cells ++ b.cells
        unfold Val.cells; rw [KA.out, KB.out, KC.out, KD.out]; rfl
      rw [ec, boxC_set (copied_len HCP.out.len (by omega)) hi6, set_copied HCP.out.len hi6] at hb6
      have hws : w.heap.size ≤ wr.heap.size := HCP.out.all.size
      have hkeep : ∀ u : Val, u.In w5 → u.Sep (fun x => w.heap.size ≤ x ∧ x ≠ gc) → u.In w6 := fun u h1 h2 => h1.carryS (h2.mono (fun x hx => hx.2)) ho6.cellN ho6.size
      have hsa : a.Sep (fun x => w.heap.size ≤ x ∧ x ≠ gc) := HAS.out.mono (fun x hx => by have : wr.heap.size ≤ x := hx; omega)
      have hsb : b.Sep (fun x => w.heap.size ≤ x ∧ x ≠ gc) := HBS.out.mono (fun x hx => by have := HBA.out.size; have : wr.heap.size ≤ x := Nat.le_trans HBA.out.size hx; omega)
      have HCP6 : Hid (Copied w gc (i + 1) N ms (cs ++ [(a, b)]) w6) := Lib.hid ⟨by simp [HCP.out.len], hb6, by rw [List.map_append, HCP.out.era, HX.out, List.map_cons, List.map_nil, HAE.out, HBE.out], fun y hy => by
        rcases List.mem_append.1 hy with h | h
        · obtain ⟨⟨h1, h2⟩, h3, h4⟩ := HCP.out.ins y h
          exact ⟨⟨hkeep _ (h1.below HBB.out) h2, h2⟩, hkeep _ (h3.below HBB.out) h4, h4⟩
        · obtain rfl : y = (a, b) := by simpa using h
          exact ⟨⟨hkeep _ (HAI.out.below HBB1.out) hsa, hsa⟩, hkeep _ HBI.out hsb, hsb⟩, Below.only (HCP.out.all.trans (HBB.out.mono hws)) ho6 (by rw [HGC.out]; exact Nat.le_refl _) (by have := HBB.out.size; omega)⟩
      clear hb6 ho6 ec hkeep hsa hsb
      go_wp2
      go_roundw
      case rel => exact ⟨i + 1, _, by go_num, by omega, HCP6.out⟩
      case measure => simp [intOf]; omega
    · have hiN : i = N := by omega
      have HR : Hid (CopyOut g ms w (.returned (.pointer (some ⟨gc, 0, none⟩))) wr) := Lib.hid (by
        have hl : cs.length = ms.length := by rw [HCP.out.len, hiN, HN.out]
        refine ⟨cs, by rw [HGC.out], ?_, by rw [HCP.out.era, hiN, HN.out, List.take_length], fun m hm => ?_, HCP.out.all⟩
        · rw [← HGC.out]
          refine ⟨?_, by rw [hl]; exact HBX.out.2.1, fun m hm => ?_⟩
          · have hb := HCP.out.blk
            rw [boxCells_arr (by rw [hl]; exact HBX.out.2.1)]
            have e : arrOf cs = cs ++ List.replicate (6 - i) zLet := by unfold arrOf; rw [HCP.out.len]
            rw [e, hl, ← HN.out]
            exact hb
          · obtain ⟨⟨h1, h2⟩, h3, h4⟩ := HCP.out.ins m hm
            exact ⟨⟨h1, h2.mono (fun x hx => hx.2)⟩, h3, h4.mono (fun x hx => hx.2)⟩
        · obtain ⟨⟨h1, h2⟩, h3, h4⟩ := HCP.out.ins m hm
          exact ⟨h2.mono (fun x hx => hx.1), h4.mono (fun x hx => hx.1)⟩)
      clear hiN
      go_wp2
      go_ret
      exact HR.out
end Go.Proofs.Ytemhinagajfemaa
