/- The statements of layer 18: the tick; what is awake, in plain terms. -/
import Derived.Test.YtaamihdibpioaaaGreatJaM43
import Derived.Test.YtaamihdibpioaaaGreatJaM44
namespace Go.Proofs.YtaamihdibpioaaaGreat.Jr
set_option linter.unusedVariables false
open Go.RowKit Go.Proofs.YtaamihdibpioaaaGreat.Crc Go.Proofs.YtaamihdibpioaaaGreat.Pk

/-- The command that is a tick. -/
def tickC : Cm := ⟨4, 0, 0, 0, 0, Val.zero, Val.zero⟩
theorem tick_in (w : World) : tickC.In w := ⟨fun x hx => by
  simp only [tickC, Cm.ints, List.mem_cons, List.not_mem_nil, or_false] at hx
  rcases hx with rfl | rfl | rfl | rfl | rfl <;> exact ⟨by omega, by omega⟩, zero_in _, zero_in _⟩
theorem tick_enc : tickC.enc = some [4, 0, 0, 0, 0, 0, 0] := by
  have h1 : ub (Int.toNat 4) = [4] := by rw [ub_small (by decide)]; rfl
  have h2 : ub (Int.toNat 0) = [0] := by rw [ub_small (by decide)]; rfl
  have hs : someB Val.zero = some [0] := by
    unfold someB
    rw [if_pos (show Val.zero.k = 0 from rfl), show Val.zero.noneB = true from by decide +kernel]
    rfl
  have hn : numsB tickC.ints = [4, 0, 0, 0, 0] := by
    simp only [numsB, tickC, Cm.ints, List.flatMap_cons, List.flatMap_nil, h1, h2]
    rfl
  unfold Cm.enc
  have hA : tickC.ints.all numOk = true := by decide
  rw [hA]
  simp only [cond_true]
  show (match someB Val.zero with | none => none | some a => match someB Val.zero with | none => none | some b => some (numsB tickC.ints ++ a ++ b)) = _
  rw [hs, hn]
  rfl
set_option maxHeartbeats 1000000 in
theorem tick_any (w : World) : Calls Tryz.prog 21 #[] w fun e w' => e = .returned tickC.agg ∧ Below w.heap.size w w' := by
  have hsf := run_store_flt
  have hag : tickC.agg = .agg #[.int .i64 4, .int .i64 0, .int .i64 0, .int .i64 0, .int .i64 0, .int .i64 0, .int .i64 0, .float .f64 0, .string ByteArray.empty, .slice none 0 0, .slice none 0 0, .int .i64 0, .int .i64 0, .float .f64 0, .string ByteArray.empty, .slice none 0 0, .slice none 0 0] := rfl
  rw [hag]
  obtain ⟨W, hW⟩ : ∃ W, W = w.alloc (.cells #[.int .i64 4, .int .i64 0, .int .i64 0, .int .i64 0, .int .i64 0, .int .i64 0, .int .i64 0, .float .f64 0, .string ⟨#[]⟩, .slice none 0 0, .slice none 0 0, .int .i64 0, .int .i64 0, .float .f64 0, .string ⟨#[]⟩, .slice none 0 0, .slice none 0 0] 39) := ⟨_, rfl⟩
  have hb : Below w.heap.size w W := by rw [hW]; exact (Below.refl _ _).alloc (Nat.le_refl _) _
  have hblk : Blk W w.heap.size 39 #[.int .i64 4, .int .i64 0, .int .i64 0, .int .i64 0, .int .i64 0, .int .i64 0, .int .i64 0, .float .f64 0, .string ⟨#[]⟩, .slice none 0 0, .slice none 0 0, .int .i64 0, .int .i64 0, .float .f64 0, .string ⟨#[]⟩, .slice none 0 0, .slice none 0 0] := by rw [hW]; exact Blk.new _ _ _
  have HB := Lib.hid hb; have HK := Lib.hid hblk; have HW := Lib.hid hW
  clear hb hblk hW hag
  go_enter Tryz.func21, Tryz.ntmps21
  go_wp2
  rw [← HW.out]
  have e0 := HK.out.cell 0; have e1 := HK.out.cell 1; have e2 := HK.out.cell 2; have e3 := HK.out.cell 3; have e4 := HK.out.cell 4; have e5 := HK.out.cell 5; have e6 := HK.out.cell 6; have e7 := HK.out.cell 7; have e8 := HK.out.cell 8; have e9 := HK.out.cell 9; have e10 := HK.out.cell 10; have e11 := HK.out.cell 11; have e12 := HK.out.cell 12; have e13 := HK.out.cell 13; have e14 := HK.out.cell 14; have e15 := HK.out.cell 15; have e16 := HK.out.cell 16
  simp only [List.getElem?_toArray, List.getElem?_cons_zero, List.getElem?_cons_succ] at e0 e1 e2 e3 e4 e5 e6 e7 e8 e9 e10 e11 e12 e13 e14 e15 e16
  refine bodyPost_ret (v := .agg #[.int .i64 4, .int .i64 0, .int .i64 0, .int .i64 0, .int .i64 0, .int .i64 0, .int .i64 0, .float .f64 0, .string ⟨#[]⟩, .slice none 0 0, .slice none 0 0, .int .i64 0, .int .i64 0, .float .f64 0, .string ⟨#[]⟩, .slice none 0 0, .slice none 0 0]) (by simp [results, Tryz.results21, go_sem, e0, e1, e2, e3, e4, e5, e6, e7, e8, e9, e10, e11, e12, e13, e14, e15, e16]) rfl ?_
  exact ⟨rfl, HB.out⟩

end Go.Proofs.YtaamihdibpioaaaGreat.Jr

/- The statements of layer 18: what is awake, in plain terms. No program in sight. -/
namespace Go.Proofs.YtaamihdibpioaaaGreat.Jr
set_option linter.unusedVariables false
open Go.RowKit Go.Proofs.YtaamihdibpioaaaGreat.Crc Go.Proofs.YtaamihdibpioaaaGreat.Pk

theorem cat_le {L : Nat} : ∀ ps : List ByteArray, (∀ p, p ∈ ps → p.size ≤ 2000 ∧ p.size ≤ L) → (cat ps).size ≤ ps.length * (L + 6)
  | [], _ => by simp [cat]
  | p :: ps, h => by
    have ih := cat_le ps (fun q hq => h q (by simp [hq]))
    have h1 := h p (by simp)
    have h2 := frame_lenAt h1.1
    show (frameOf p ++ cat ps).size ≤ _
    rw [ByteArray.size_append, h2, List.length_cons, Nat.succ_mul]
    omega
/-- A write that is not refused. -/
theorem jE_ok {s : Jt} {H : List He} {r : Nat → ByteArray} {label : Int} {l : List UInt8} {L : Nat} (h : Good s H r) (ht : s.torn = false) (hs : isSeg s.n label = true) (hl : l.length + 4 ≤ 2000) (hH : ∀ x, x ∈ H → x.bytes.length ≤ L) (hz : H.length * (L + 10) + (l.length + 10) ≤ 4000) : jE s label (some l) = 0 := by
  have hg := h.dk.at_ hs
  obtain ⟨k, rfl, hk, _, _, _⟩ := hg
  unfold jE
  rw [ht, hs]
  simp only [cond_false, cond_true]
  rw [if_neg (by omega)]
  unfold tearE
  rw [hs]
  have hrow := h.hist.rows k hk
  rw [h.clean ht k hk] at hrow
  have hc : (cat (segOf H k)).size ≤ (segOf H k).length * (L + 4 + 6) := cat_le _ (fun p hp => by
    obtain ⟨x, hx, rfl⟩ := List.mem_map.1 hp
    have h1 := (List.mem_filter.1 hx).1
    have h2 := (h.hist.ok x h1).1
    have h3 := hH x h1
    unfold He.pay
    rw [payB_size]
    omega)
  have hlen : (segOf H k).length ≤ H.length := by
    unfold segOf segL
    rw [List.length_map]
    exact List.length_filter_le _ _
  have hm : (segOf H k).length * (L + 4 + 6) ≤ H.length * (L + 10) := Nat.mul_le_mul hlen (by omega)
  have hf : fits s.rows (k : Int) (frameOf (payB s.next l)) = true := by
    unfold fits
    rw [hrow]
    have hfl := frame_lenAt (p := payB s.next l) (by rw [payB_size]; omega)
    rw [payB_size] at hfl
    simp only [ByteArray.size_append, ByteArray.size_empty, decide_eq_true_eq]
    omega
  rw [hf]
  rfl

def tickB : List UInt8 := [4, 0, 0, 0, 0, 0, 0]
def tickE : Option (List UInt8) := some tickB
def hs1 : List He := [⟨1, 1, tickB⟩]
def hs2 : List He := [⟨1, 1, tickB⟩, ⟨2, 0, tickB⟩]
def hs3 : List He := [⟨1, 1, tickB⟩, ⟨2, 0, tickB⟩, ⟨3, 0, tickB⟩]
theorem ticks_len : ∀ x, x ∈ hs3 → x.bytes.length ≤ 7 := by
  intro x hx
  simp only [hs3, List.mem_cons, List.not_mem_nil, or_false] at hx
  rcases hx with rfl | rfl | rfl <;> decide
theorem tick_frame (s : Jt) : (jF s tickE).size = 17 := by
  unfold jF tickE
  show (frameOf (payB s.next tickB)).size = 17
  rw [frame_lenAt (by rw [payB_size]; decide), payB_size]
  rfl
structure AwakeP (S1 S2 S3 S4 S5 : Jt) : Prop where
  e0 : jE (jNew 2) 1 tickE = 0
  s1 : jWrite (jNew 2) 1 tickE = S1
  n1 : S1.next < 1000000000
  e1 : jE S1 0 tickE = 0
  s2 : jWrite S1 0 tickE = S2
  n2 : S2.next < 1000000000
  g2 : ∃ r, Good S2 hs2 r
  e2 : jE S2 0 tickE = 0
  s3 : jCrash S2 0 tickE 3 = S3
  n3 : S3.next < 1000000000
  g3 : ∃ r, Good S3 hs2 r
  e3 : jE S3 0 tickE = 14
  s3' : jWrite S3 0 tickE = S3
  s4 : jRecover S3 hs2 = S4
  n4 : S4.next < 1000000000
  e4 : jE S4 0 tickE = 0
  s5 : jCrash S4 0 tickE 99 = S5
  g5 : ∃ r, Good S5 hs3 r
theorem awake_plain : ∃ S1 S2 S3 S4 S5, AwakeP S1 S2 S3 S4 S5 := by
  have g0 := good_new (n := 2) (by decide) (by decide)
  have hseg : ∀ i : Int, (i = 0 ∨ i = 1) → isSeg 2 i = true := fun i hi => by
    unfold isSeg
    rcases hi with rfl | rfl <;> decide
  have e0 : jE (jNew 2) 1 tickE = 0 := jE_ok (L := 7) g0 rfl (hseg 1 (.inr rfl)) (by decide) (fun x hx => by simp at hx) (by decide)
  obtain ⟨S1, h1⟩ : ∃ S1, S1 = jWrite (jNew 2) 1 tickE := ⟨_, rfl⟩
  have g1 : Good S1 hs1 (fun _ => ByteArray.empty) := by rw [h1]; exact good_write g0 e0
  have f1 : S1.n = 2 ∧ S1.next = 2 ∧ S1.torn = false := by rw [h1]; unfold jWrite; rw [if_pos e0]; exact ⟨rfl, rfl, rfl⟩
  have e1 : jE S1 0 tickE = 0 := jE_ok (L := 7) g1 f1.2.2 (by rw [f1.1]; exact hseg 0 (.inl rfl)) (by decide) (fun x hx => ticks_len x (by simp only [hs1, hs3, List.mem_cons, List.not_mem_nil, or_false] at hx ⊢; exact .inl hx)) (by decide)
  obtain ⟨S2, h2⟩ : ∃ S2, S2 = jWrite S1 0 tickE := ⟨_, rfl⟩
  have g2 : Good S2 hs2 (fun _ => ByteArray.empty) := by
    have := good_write g1 e1
    rw [h2]
    rw [f1.2.1] at this
    exact this
  have f2 : S2.n = 2 ∧ S2.next = 3 ∧ S2.torn = false := by rw [h2]; unfold jWrite; rw [if_pos e1]; exact ⟨f1.1, by show S1.next + 1 = 3; rw [f1.2.1], f1.2.2⟩
  have hin2 : ∀ x, x ∈ hs2 → x.bytes.length ≤ 7 := fun x hx => ticks_len x (by
    simp only [hs2, hs3, List.mem_cons, List.not_mem_nil, or_false] at hx ⊢
    rcases hx with h | h
    · exact .inl h
    · exact .inr (.inl h))
  have e2 : jE S2 0 tickE = 0 := jE_ok (L := 7) g2 f2.2.2 (by rw [f2.1]; exact hseg 0 (.inl rfl)) (by decide) hin2 (by decide)
  obtain ⟨S3, h3⟩ : ∃ S3, S3 = jCrash S2 0 tickE 3 := ⟨_, rfl⟩
  have g3 : ∃ r, Good S3 hs2 r := by
    obtain ⟨r', hr⟩ := good_crash (keep := 3) g2 e2
    rw [tick_frame, if_neg (by decide)] at hr
    rw [h3]
    exact ⟨r', hr⟩
  have f3 : S3.n = 2 ∧ S3.next = 3 ∧ S3.torn = true := by rw [h3]; unfold jCrash; rw [if_pos e2]; exact ⟨f2.1, f2.2.1, rfl⟩
  have e3 : jE S3 0 tickE = 14 := by unfold jE; rw [f3.2.2]; rfl
  have s3' : jWrite S3 0 tickE = S3 := by unfold jWrite; rw [if_neg (by rw [e3]; decide)]
  obtain ⟨S4, h4⟩ : ∃ S4, S4 = jRecover S3 hs2 := ⟨_, rfl⟩
  obtain ⟨r3, gr3⟩ := g3
  have g4 : Good S4 hs2 (fun _ => ByteArray.empty) := by rw [h4]; exact good_recover gr3
  have f4 : S4.n = 2 ∧ S4.next = 3 ∧ S4.torn = false := by rw [h4]; exact ⟨f3.1, rfl, rfl⟩
  have e4 : jE S4 0 tickE = 0 := jE_ok (L := 7) g4 f4.2.2 (by rw [f4.1]; exact hseg 0 (.inl rfl)) (by decide) hin2 (by decide)
  obtain ⟨S5, h5⟩ : ∃ S5, S5 = jCrash S4 0 tickE 99 := ⟨_, rfl⟩
  have g5 : ∃ r, Good S5 hs3 r := by
    obtain ⟨r', hr⟩ := good_crash (keep := 99) g4 e4
    rw [tick_frame, if_pos (by decide), f4.2.1] at hr
    rw [h5]
    exact ⟨r', hr⟩
  exact ⟨S1, S2, S3, S4, S5, e0, h1.symm, by rw [f1.2.1]; decide, e1, h2.symm, by rw [f2.2.1]; decide, ⟨_, g2⟩, e2, h3.symm, by rw [f3.2.1]; decide, ⟨_, gr3⟩, e3, s3', h4.symm, by rw [f4.2.1]; decide, e4, h5.symm, g5⟩
end Go.Proofs.YtaamihdibpioaaaGreat.Jr

/- Journals: what is read again is the same as what was written. Plain lemmas. -/
namespace Go.Proofs.YtaamihdibpioaaaGreat.Jr
set_option linter.unusedVariables false
open Go.RowKit Go.Proofs.YtaamihdibpioaaaGreat.Crc Go.Proofs.YtaamihdibpioaaaGreat.Pk Go.Proofs.YtaamihdibpioaaaGreat.Rf

theorem like_two {a b u u' v : Val} (h1 : a.erase = u) (h2 : u.like v) (h3 : b.erase = u') (h4 : u'.like v) : a.rsame b = true := by
  unfold Val.rsame
  rcases h2 with ⟨k1, h2, h5⟩ | ⟨k1, h2, rfl⟩ <;> rcases h4 with ⟨k2, h4, h6⟩ | ⟨k2, h4, rfl⟩
  · have hk : a.Kinds := (Val.kinds_erase a.sz a (Nat.le_refl _)).1 (by rw [h1]; exact h5)
    have hn : a.nf = b.nf := by rw [← Val.nf_erase a.sz a (Nat.le_refl _), ← Val.nf_erase b.sz b (Nat.le_refl _), h1, h3, h2, h4]
    rw [(Val.rord_nf a.sz a b (Nat.le_refl _) hk).2 hn]; rfl
  · exact absurd k2 k1
  · exact absurd k1 k2
  · rw [Val.rord_erase a.sz a b (Nat.le_refl _) (by rw [h1, h3])]; rfl
theorem cm_two {a b u u' c : Cm} (h1 : a.erase = u) (h2 : u.like c) (h3 : b.erase = u') (h4 : u'.like c) : cmSame a b = true := by
  obtain ⟨i, k, v⟩ := h2
  obtain ⟨i', k', v'⟩ := h4
  unfold cmSame
  have e1 : a.ints = b.ints := by
    have x1 : a.ints = u.ints := by rw [← h1]; rfl
    have x2 : b.ints = u'.ints := by rw [← h3]; rfl
    rw [x1, x2, i, i']
  rw [decide_eq_true e1, like_two (by rw [← h1]; rfl) k (by rw [← h3]; rfl) k', like_two (by rw [← h1]; rfl) v (by rw [← h3]; rfl) v']
  rfl
theorem readC_like {w : World} {h : He} {c : Cm} (hi : c.In w) (he : c.enc = some h.bytes) : (readC h.pay).like c := by
  have hz : h.pay.size = 4 + h.bytes.length := payB_size _ _
  have hf : from_ h.pay 4 = h.bytes ++ [] := by
    unfold from_ He.pay payB num4
    simp
  obtain ⟨u, h1, h2⟩ := rdCm_back hi he hf (by omega)
  unfold readC
  rw [Nat.min_eq_left (by omega), h1]
  exact h2

/-- What was kept beside: the records' labels, and the commands, of which the bytes are the history's. -/
structure KeptIs (w : World) (H : List He) (ks : List Rc) : Prop where
  len : ks.length = H.length
  each : ∀ k (h1 : k < ks.length) (h2 : k < H.length), (ks[k]'h1).seq = 0 ∧ (ks[k]'h1).label = ((H[k]'h2).label : Int) ∧ (ks[k]'h1).c.enc = some (H[k]'h2).bytes ∧ (ks[k]'h1).c.In w
theorem KeptIs.nil (w : World) : KeptIs w [] [] := ⟨rfl, fun k h1 => absurd h1 (by simp)⟩
theorem KeptIs.below {w w' : World} {H : List He} {ks : List Rc} (h : KeptIs w H ks) (hb : Below w.heap.size w w') : KeptIs w' H ks :=
  ⟨h.len, fun k h1 h2 => ⟨(h.each k h1 h2).1, (h.each k h1 h2).2.1, (h.each k h1 h2).2.2.1, (h.each k h1 h2).2.2.2.below hb⟩⟩
theorem nextOf_bound {H : List He} {m : Nat} (h : ∀ x, x ∈ H → x.seq < m) (hm : 1 ≤ m) : nextOf H ≤ m := by
  unfold nextOf
  cases hl : H.getLast? with
  | none => exact hm
  | some x => exact h x (List.mem_of_getLast? hl)
end Go.Proofs.YtaamihdibpioaaaGreat.Jr

/- Journals: what one label's segment holds hangs on its own commands alone. Plain lemmas. -/
namespace Go.Proofs.YtaamihdibpioaaaGreat.Jr
set_option linter.unusedVariables false
open Go.RowKit Go.Proofs.YtaamihdibpioaaaGreat.Crc Go.Proofs.YtaamihdibpioaaaGreat.Pk Go.Proofs.YtaamihdibpioaaaGreat.Rf

theorem cat_sizes : ∀ ps : List ByteArray, (∀ p, p ∈ ps → p.size ≤ 2000) → (cat ps).size = (ps.map fun p => p.size + 6).sum
  | [], _ => rfl
  | p :: ps, h => by
    show (frameOf p ++ cat ps).size = _
    rw [ByteArray.size_append, frame_lenAt (h p (by simp)), cat_sizes ps (fun q hq => h q (by simp [hq]))]
    simp
theorem row_size {s : Jt} {H : List He} {r : Nat → ByteArray} (hG : Good s H r) (ht : s.torn = false) {i : Nat} (hi : i < s.n) : (rowOf s.rows (i : Int)).size = ((segL H i).map fun h => h.bytes.length + 10).sum := by
  have e : cat (segOf H i) ++ ByteArray.empty = cat (segOf H i) := by simp
  rw [hG.hist.rows i hi, hG.clean ht i hi, e, cat_sizes]
  · unfold segOf
    rw [List.map_map]
    have e2 : (segL H i).map ((fun p => p.size + 6) ∘ He.pay) = (segL H i).map (fun h => h.bytes.length + 10) := by
      apply List.map_congr_left
      intro h _
      show (He.pay h).size + 6 = h.bytes.length + 10
      unfold He.pay
      rw [payB_size]
      omega
    rw [e2]
  · intro p hp
    obtain ⟨x, hx, rfl⟩ := List.mem_map.1 hp
    have := (hG.hist.ok x (List.mem_filter.1 hx).1).1
    unfold He.pay
    rw [payB_size]
    omega
theorem jE_same {a b : Jt} {label : Int} {enc : Option (List UInt8)} (hn : a.n = b.n) (ha : a.torn = false) (hb : b.torn = false) (hz : (rowOf a.rows label).size = (rowOf b.rows label).size) : jE a label enc = jE b label enc := by
  unfold jE
  rw [ha, hb, hn]
  cases enc with
  | none => rfl
  | some l =>
    simp only
    split
    · rfl
    · rename_i hl
      have e : ∀ m, (frameOf (payB m l)).size = l.length + 10 := fun m => by rw [frame_lenAt (by rw [payB_size]; omega), payB_size]; omega
      unfold tearE fits
      rw [hz, e, e]
theorem jF_same {a b : Jt} {label : Int} {enc : Option (List UInt8)} (he : jE a label enc = 0) : (jF a enc).size = (jF b enc).size := by
  obtain ⟨_, _, l, rfl, hl, _⟩ := jE_zero he
  have e : ∀ m, (frameOf (payB m l)).size = l.length + 10 := fun m => by rw [frame_lenAt (by rw [payB_size]; omega), payB_size]; omega
  unfold jF
  show (frameOf (payB _ l)).size = (frameOf (payB _ l)).size
  rw [e, e]
/-- A journal of three labels, behind so many calls, that is not torn. -/
structure JInv (s : Jt) (H : List He) (i : Nat) : Prop where
  n : s.n = 3
  torn : s.torn = false
  good : ∃ r, Good s H r
  next : s.next ≤ i + 1
  len : H.length ≤ i
theorem JInv.more {s : Jt} {H : List He} {i : Nat} (h : JInv s H i) : JInv s H (i + 1) := ⟨h.n, h.torn, h.good, by have := h.next; omega, by have := h.len; omega⟩
theorem JInv.new : JInv (jNew 3) [] 0 := ⟨rfl, rfl, ⟨_, good_new (by decide) (by decide)⟩, Nat.le_refl _, Nat.le_refl _⟩
theorem w_step {s : Jt} {H : List He} {i : Nat} (h : JInv s H i) (label : Int) (enc : Option (List UInt8)) : ∃ H', H' = (if jE s label enc = 0 then H ++ [⟨s.next, label.toNat, enc.getD []⟩] else H) ∧ JInv (jWrite s label enc) H' (i + 1) := by
  refine ⟨_, rfl, ?_⟩
  obtain ⟨r, hG⟩ := h.good
  by_cases he : jE s label enc = 0
  · rw [if_pos he]
    have hw : jWrite s label enc = { s with rows := tearR s.n s.rows label (jF s enc) ((jF s enc).size : Int), next := s.next + 1 } := by unfold jWrite; rw [if_pos he]
    have hg := good_write hG he
    rw [hw] at hg ⊢
    exact ⟨h.n, h.torn, ⟨r, hg⟩, by have := h.next; show s.next + 1 ≤ _; omega, by have := h.len; simp; omega⟩
  · rw [if_neg he]
    have hw : jWrite s label enc = s := by unfold jWrite; rw [if_neg he]
    rw [hw]
    exact h.more
theorem c_step {s : Jt} {H : List He} {i : Nat} (h : JInv s H i) (label : Int) (enc : Option (List UInt8)) (keep : Int) : ∃ H' r', H' = (if jE s label enc = 0 ∧ (jF s enc).size ≤ keep.toNat then H ++ [⟨s.next, label.toNat, enc.getD []⟩] else H) ∧
    Good (jCrash s label enc keep) H' r' ∧ (∀ h, h ∈ H' → h.seq < i + 1 + 1) ∧ H'.length ≤ i + 1 ∧ JInv (jRecover (jCrash s label enc keep) H') H' (i + 1) := by
  obtain ⟨r, hG⟩ := h.good
  have hnx := h.next
  have hln := h.len
  by_cases he : jE s label enc = 0
  · obtain ⟨r', hg⟩ := good_crash (keep := keep) hG he
    have e : (if jE s label enc = 0 ∧ (jF s enc).size ≤ keep.toNat then H ++ [⟨s.next, label.toNat, enc.getD []⟩] else H) = (if (jF s enc).size ≤ keep.toNat then H ++ [⟨s.next, label.toNat, enc.getD []⟩] else H) := by simp [he]
    have hnxt : (jCrash s label enc keep).next = s.next := by unfold jCrash; rw [if_pos he]
    have hnn : (jCrash s label enc keep).n = s.n := by unfold jCrash; rw [if_pos he]
    obtain ⟨H', hH'⟩ : ∃ H', H' = (if (jF s enc).size ≤ keep.toNat then H ++ [⟨s.next, label.toNat, enc.getD []⟩] else H) := ⟨_, rfl⟩
    rw [← hH'] at hg e
    have hb : ∀ h, h ∈ H' → h.seq < i + 1 + 1 := fun h hh => by
      have := hg.below h hh
      rw [hnxt] at this
      split at this <;> omega
    have hl : H'.length ≤ i + 1 := by
      rw [hH']
      split
      · simp; exact hln
      · omega
    exact ⟨H', r', e.symm, hg, hb, hl, ⟨hnn.trans h.n, rfl, ⟨_, good_recover hg⟩, nextOf_bound hb (by omega), hl⟩⟩
  · have hw : jCrash s label enc keep = s := by unfold jCrash; rw [if_neg he]
    have hb : ∀ x, x ∈ H → x.seq < i + 1 + 1 := fun x hx => by
      have := hG.below x hx
      rw [h.torn] at this
      simp at this
      omega
    rw [hw]
    exact ⟨H, r, by simp [he], hG, hb, by omega, ⟨h.n, rfl, ⟨_, good_recover hG⟩, nextOf_bound hb (by omega), by show H.length ≤ _; omega⟩⟩
theorem JInv.seqs {s : Jt} {H : List He} {i : Nat} (h : JInv s H i) : ∃ r, Hist s.n s.rows H r ∧ ∀ x, x ∈ H → x.seq < i + 1 := by
  obtain ⟨r, hG⟩ := h.good
  refine ⟨r, hG.hist, fun x hx => ?_⟩
  have := hG.below x hx
  have := h.next
  rw [h.torn] at *
  simp at *
  omega
/-- What the one's segment holds, and the other one. -/
structure Ap (w : World) (lab : Nat) (Ha Hb : List He) : Prop where
  labs : ∀ h, h ∈ Hb → h.label = lab
  ex : ∃ cs : List Cm, (∀ c, c ∈ cs → c.In w) ∧ cs.map Cm.enc = (segL Ha lab).map (fun h => some h.bytes) ∧ cs.map Cm.enc = Hb.map (fun h => some h.bytes)
theorem Ap.nil (w : World) (lab : Nat) : Ap w lab [] [] := ⟨fun h hh => by simp at hh, [], fun c hc => by simp at hc, rfl, rfl⟩
theorem Ap.seg {w : World} {lab : Nat} {Ha Hb : List He} (h : Ap w lab Ha Hb) : segL Hb lab = Hb := List.filter_eq_self.2 (fun a ha => by simp [h.labs a ha])
theorem Ap.sizes {w : World} {lab : Nat} {Ha Hb : List He} (h : Ap w lab Ha Hb) : ((segL Ha lab).map fun h => h.bytes.length + 10).sum = ((segL Hb lab).map fun h => h.bytes.length + 10).sum := by
  obtain ⟨cs, _, h1, h2⟩ := h.ex
  rw [h.seg]
  have e := h1.symm.trans h2
  have := congrArg (fun l => (l.map fun (o : Option (List UInt8)) => (o.getD []).length + 10).sum) e
  simpa [List.map_map, Function.comp_def] using this
theorem Ap.rows {w : World} {lab : Nat} {Ha Hb : List He} {a b : Jt} {i : Nat} (h : Ap w lab Ha Hb) (ha : JInv a Ha i) (hb : JInv b Hb i) (hl : lab < 3) : (rowOf a.rows (lab : Int)).size = (rowOf b.rows (lab : Int)).size := by
  obtain ⟨ra, hga⟩ := ha.good
  obtain ⟨rb, hgb⟩ := hb.good
  rw [row_size hga ha.torn (by rw [ha.n]; exact hl), row_size hgb hb.torn (by rw [hb.n]; exact hl), h.sizes]
theorem Ap.both {w : World} {lab : Nat} {Ha Hb : List He} (h : Ap w lab Ha Hb) {c : Cm} (hc : c.In w) {m n : Nat} (P Q : Prop) [Decidable P] [Decidable Q] (hPQ : P ↔ Q) (he : P → ∃ l, c.enc = some l) :
    Ap w lab (if P then Ha ++ [⟨m, lab, c.enc.getD []⟩] else Ha) (if Q then Hb ++ [⟨n, lab, c.enc.getD []⟩] else Hb) := by
  by_cases hP : P
  · rw [if_pos hP, if_pos (hPQ.1 hP)]
    obtain ⟨l, hl⟩ := he hP
    obtain ⟨cs, h1, h2, h3⟩ := h.ex
    refine ⟨fun x hx => ?_, cs ++ [c], fun x hx => ?_, ?_, ?_⟩
    · rcases List.mem_append.1 hx with hx | hx
      · exact h.labs x hx
      · obtain rfl : x = _ := by simpa using hx
        rfl
    · rcases List.mem_append.1 hx with hx | hx
      · exact h1 x hx
      · obtain rfl : x = c := by simpa using hx
        exact hc
    · rw [segL_snoc, if_pos rfl, List.map_append, List.map_append, h2]; simp [hl]
    · rw [List.map_append, List.map_append, h3]; simp [hl]
  · rw [if_neg hP, if_neg (fun hq => hP (hPQ.2 hq))]
    exact h
theorem Ap.other {w : World} {lab : Nat} {Ha Hb : List He} (h : Ap w lab Ha Hb) {x : He} (hx : x.label ≠ lab) (P : Prop) [Decidable P] : Ap w lab (if P then Ha ++ [x] else Ha) Hb := by
  by_cases hP : P
  · rw [if_pos hP]
    obtain ⟨cs, h1, h2, h3⟩ := h.ex
    exact ⟨h.labs, cs, h1, by rw [segL_snoc, if_neg hx]; exact h2, h3⟩
  · rw [if_neg hP]
    exact h
theorem enc_of {s : Jt} {label : Int} {enc : Option (List UInt8)} (he : jE s label enc = 0) : ∃ l, enc = some l := by
  obtain ⟨_, _, l, rfl, _⟩ := jE_zero he
  exact ⟨l, rfl⟩
theorem ap_write {w : World} {lab : Nat} {Ha Hb : List He} {a b : Jt} {i : Nat} (h : Ap w lab Ha Hb) (ha : JInv a Ha i) (hb : JInv b Hb i) (hl : lab < 3) {c : Cm} (hc : c.In w) :
    ∃ Ha' Hb', Ap w lab Ha' Hb' ∧ JInv (jWrite a lab c.enc) Ha' (i + 1) ∧ JInv (jWrite b lab c.enc) Hb' (i + 1) := by
  have hE := jE_same (label := (lab : Int)) (enc := c.enc) (ha.n.trans hb.n.symm) ha.torn hb.torn (h.rows ha hb hl)
  obtain ⟨Ha', e1, k1⟩ := w_step ha lab c.enc
  obtain ⟨Hb', e2, k2⟩ := w_step hb lab c.enc
  refine ⟨Ha', Hb', ?_, k1, k2⟩
  rw [e1, e2]
  exact h.both hc _ _ (by rw [hE]) enc_of
theorem ap_write_o {w : World} {lab k : Nat} {Ha Hb : List He} {a : Jt} {i : Nat} (h : Ap w lab Ha Hb) (ha : JInv a Ha i) (hk : k ≠ lab) (c : Cm) :
    ∃ Ha', Ap w lab Ha' Hb ∧ JInv (jWrite a k c.enc) Ha' (i + 1) := by
  obtain ⟨Ha', e1, k1⟩ := w_step ha k c.enc
  refine ⟨Ha', ?_, k1⟩
  rw [e1]
  exact h.other hk _
/-- What a crash, and the recovery behind it, leave. -/
structure Crashed (a : Jt) (label keep : Int) (c : Cm) (Ha' : List He) (i : Nat) : Prop where
  hist : ∃ r, Hist (jCrash a label c.enc keep).n (jCrash a label c.enc keep).rows Ha' r
  seqs : ∀ h, h ∈ Ha' → h.seq < i + 1 + 1
  len : Ha'.length ≤ i + 1
  inv : JInv (jRecover (jCrash a label c.enc keep) Ha') Ha' (i + 1)
theorem ap_crash {w : World} {lab : Nat} {Ha Hb : List He} {a b : Jt} {i : Nat} (h : Ap w lab Ha Hb) (ha : JInv a Ha i) (hb : JInv b Hb i) (hl : lab < 3) {c : Cm} (hc : c.In w) (keep : Int) :
    ∃ Ha' Hb', Ap w lab Ha' Hb' ∧ Crashed a lab keep c Ha' i ∧ Crashed b lab keep c Hb' i := by
  have hE := jE_same (label := (lab : Int)) (enc := c.enc) (ha.n.trans hb.n.symm) ha.torn hb.torn (h.rows ha hb hl)
  obtain ⟨Ha', ra, e1, g1, s1, l1, k1⟩ := c_step ha lab c.enc keep
  obtain ⟨Hb', rb, e2, g2, s2, l2, k2⟩ := c_step hb lab c.enc keep
  refine ⟨Ha', Hb', ?_, ⟨⟨ra, g1.hist⟩, s1, l1, k1⟩, ⟨⟨rb, g2.hist⟩, s2, l2, k2⟩⟩
  rw [e1, e2]
  refine h.both hc _ _ ?_ (fun hh => enc_of hh.1)
  constructor
  · rintro ⟨x, y⟩
    exact ⟨hE ▸ x, by rw [← jF_same x (b := b)]; exact y⟩
  · rintro ⟨x, y⟩
    rw [← hE] at x
    exact ⟨x, by rw [jF_same x (b := b)]; exact y⟩
theorem ap_crash_o {w : World} {lab k : Nat} {Ha Hb : List He} {a : Jt} {i : Nat} (h : Ap w lab Ha Hb) (ha : JInv a Ha i) (hk : k ≠ lab) (c : Cm) (keep : Int) :
    ∃ Ha', Ap w lab Ha' Hb ∧ Crashed a k keep c Ha' i := by
  obtain ⟨Ha', ra, e1, g1, s1, l1, k1⟩ := c_step ha k c.enc keep
  refine ⟨Ha', ?_, ⟨⟨ra, g1.hist⟩, s1, l1, k1⟩⟩
  rw [e1]
  exact h.other hk _
/-- Those of a label. -/
def mineL (lab : Nat) (us : List Rc) : List Cm := (us.filter fun u => decide (u.label = (lab : Int))).map Rc.c
theorem mine_snoc (lab : Nat) (us : List Rc) (u : Rc) : mineL lab (us ++ [u]) = if u.label = (lab : Int) then mineL lab us ++ [u.c] else mineL lab us := by
  unfold mineL
  rw [List.filter_append]
  by_cases h : u.label = (lab : Int)
  · rw [if_pos h]; simp [h]
  · rw [if_neg h]; simp [h]
theorem mine_erase {us : List Rc} {H : List He} (hm : us.map Rc.erase = H.map He.rc) (lab : Nat) : (mineL lab us).map Cm.erase = (segL H lab).map (fun h => readC h.pay) := by
  have h1 : (us.map Rc.erase).filter (fun r => decide (r.label = (lab : Int))) = (us.filter fun u => decide (u.label = (lab : Int))).map Rc.erase := by
    rw [List.filter_map]; rfl
  have h2 : (H.map He.rc).filter (fun r => decide (r.label = (lab : Int))) = (segL H lab).map He.rc := by
    rw [List.filter_map]
    unfold segL
    congr 1
    apply List.filter_congr
    intro h _
    show decide ((h.label : Int) = (lab : Int)) = decide (h.label = lab)
    by_cases e : h.label = lab
    · simp [e]
    · rw [decide_eq_false e, decide_eq_false (by omega)]
  rw [hm, h2] at h1
  unfold mineL
  rw [List.map_map]
  have h3 := congrArg (fun l => l.map Rc.c) h1
  simp only [List.map_map] at h3
  exact h3.symm
theorem ap_len {w : World} {lab : Nat} {Ha Hb : List He} {us ls : List Rc} (h : Ap w lab Ha Hb) (ha : us.map Rc.erase = Ha.map He.rc) (hb : ls.map Rc.erase = Hb.map He.rc) : ls.length = (mineL lab us).length := by
  obtain ⟨cs, _, h1, h2⟩ := h.ex
  have e1 := congrArg List.length (mine_erase ha lab)
  have e2 := congrArg List.length hb
  have e3 := congrArg List.length h1
  have e4 := congrArg List.length h2
  simp only [List.length_map] at e1 e2 e3 e4
  omega
theorem ap_same {w : World} {lab : Nat} {Ha Hb : List He} {us ls : List Rc} (h : Ap w lab Ha Hb) (ha : us.map Rc.erase = Ha.map He.rc) (hb : ls.map Rc.erase = Hb.map He.rc) (k : Nat) (h1 : k < ls.length) (h2 : k < (mineL lab us).length) :
    cmSame (ls[k]'h1).c ((mineL lab us)[k]'h2) = true := by
  have hm := mine_erase ha lab
  obtain ⟨cs, hin, e1, e2⟩ := h.ex
  have l1 := congrArg List.length hm
  have l2 := congrArg List.length hb
  have l3 := congrArg List.length e1
  have l4 := congrArg List.length e2
  simp only [List.length_map] at l1 l2 l3 l4
  have g1 : k < (segL Ha lab).length := by omega
  have g2 : k < Hb.length := by omega
  have g3 : k < cs.length := by omega
  have a1 : (cs[k]'g3).enc = some ((segL Ha lab)[k]'g1).bytes := by
    have := congrArg (fun l => l[k]?) e1
    simpa [g1, g3] using this
  have a2 : (cs[k]'g3).enc = some (Hb[k]'g2).bytes := by
    have := congrArg (fun l => l[k]?) e2
    simpa [g2, g3] using this
  have b1 : ((mineL lab us)[k]'h2).erase = readC ((segL Ha lab)[k]'g1).pay := by
    have := congrArg (fun l => l[k]?) hm
    simpa [g1, h2] using this
  have b2 : (ls[k]'h1).erase = (Hb[k]'g2).rc := by
    have := congrArg (fun l => l[k]?) hb
    simpa [h1, g2] using this
  have hI := hin _ (List.getElem_mem g3)
  exact cm_two (u := readC (Hb[k]'g2).pay) (u' := readC ((segL Ha lab)[k]'g1).pay) (congrArg Rc.c b2) (readC_like hI a2) b1 (readC_like hI a1)
end Go.Proofs.YtaamihdibpioaaaGreat.Jr
