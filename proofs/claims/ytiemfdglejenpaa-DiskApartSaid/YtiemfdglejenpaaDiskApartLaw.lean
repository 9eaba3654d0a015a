/- What is done to one segment of a disk is nothing to another one. No conditions. -/
import Derived.Test.YtiemfdglejenpaaRow
import Derived.Test.YtiemfdglejenpaaOpenOps
namespace Go.Proofs.Ytiemfdglejenpaa.diskApart
open Go.RowKit Go.ChangeShapes Go.WideShapes
open Go.ChangeMaps (open_string shut_string)
set_option linter.unusedVariables false

/-- What a call of the script makes of a disk of three segments. -/
def playR (o : OpV) (i : Int) (rows : List ByteArray) : List ByteArray :=
  if o.kind = 1 then tearR 3 rows i o.s o.s.size else if o.kind = 2 then tearR 3 rows i o.s o.n else cutR 3 rows i o.n

def opCells (o : OpV) (i : Int) : Array Value := #[.int .i64 o.kind, .int .i64 i, .int .i64 o.n, .string o.s]

theorem dk_play {rows : List ByteArray} (h : Dk 3 rows) (o : OpV) (i : Int) : Dk 3 (playR o i rows) := by
  unfold playR; split
  · exact h.tear _ _ _
  · split
    · exact h.tear _ _ _
    · exact h.cut _ _

/-- Nothing handed back; the disk at b has become rows. -/
def Played (b : Nat) (rows : List ByteArray) (w : World) (e : Ending) (w' : World) : Prop := e = .returned (.tuple #[]) ∧ Disked b (3 : Nat) rows w w'

set_option maxHeartbeats 400000 in
theorem play_any (b g : Nat) (rows : List ByteArray) (o : OpV) (i : Int) (w : World) (hb : Blk w b 70 (diskCells (3 : Nat) rows)) (hD : Dk 3 rows) (ho : Blk w g 31 (opCells o i)) (hs : o.s.size ≤ 9223372036854775807) :
    Calls Try.prog 15 #[.pointer (some ⟨b, 0, none⟩), .pointer (some ⟨g, 0, none⟩)] w fun e w' => Played b (playR o i rows) w e w' := by
  have c0 := ho.cell 0
  have c1 := ho.cell 1
  have c2 := ho.cell 2
  have c3 := ho.cell 3
  simp [opCells] at c0 c1 c2 c3
  by_cases h1 : o.kind = 1
  · have hp : playR o i rows = tearR 3 rows i o.s o.s.size := by simp [playR, h1]
    have hk : (o.kind == 1) = true := by simp [h1]
    rw [hp]
    clear hp h1
    go_enter Try.func15, Try.ntmps15
    go_wp2_with (go_at_call 16; refine (append_any b 3 rows i o.s _ hb hD hs).mono ?_; rintro e w' ⟨rfl, hd⟩)
    go_end0
    exact ⟨rfl, hd⟩
  · have hk : (o.kind == 1) = false := by simp [h1]
    by_cases h2 : o.kind = 2
    · have hp : playR o i rows = tearR 3 rows i o.s o.n := by simp [playR, h2]
      have hk2 : (o.kind == 2) = true := by simp [h2]
      rw [hp]
      clear hp h1 h2
      go_enter Try.func15, Try.ntmps15
      go_wp2_with (go_at_call 17; refine (tear_any b 3 rows i o.s o.n _ hb hD hs).mono ?_; rintro e w' ⟨rfl, hd⟩)
      go_end0
      exact ⟨rfl, hd⟩
    · have hp : playR o i rows = cutR 3 rows i o.n := by simp [playR, h1, h2]
      have hk2 : (o.kind == 2) = false := by simp [h2]
      rw [hp]
      clear hp h1 h2
      go_enter Try.func15, Try.ntmps15
      go_wp2_with (go_at_call 18; refine (cut_any b 3 rows i o.n _ hb hD).mono ?_; rintro e w' ⟨rfl, hd⟩)
      go_end0
      exact ⟨rfl, hd⟩

/-- How the statement brings a number to 0, 1, 2. -/
def m3 (x : Int) : Int := wrap64 ((IntKind.u64.wrap x).tmod 3)
theorem m3_range (x : Int) : 0 ≤ m3 x ∧ m3 x < 3 := by
  unfold m3
  rw [IntKind.wrap_u64]
  have h0 : 0 ≤ x % 18446744073709551616 := by omega
  rw [Int.tmod_eq_emod_of_nonneg h0]
  rw [IntWalk.wrap64_in _ (by omega)]
  omega

/-- What a call does to one segment alone. -/
def play1 (o : OpV) (r : ByteArray) : ByteArray :=
  if o.kind = 1 ∨ o.kind = 2 then (bif decide (r.size + o.s.size ≤ 4000) then r ++ kept o.s (if o.kind = 1 then o.s.size else o.n) else r)
  else bif decide (0 ≤ o.n ∧ o.n ≤ r.size) then r.extract 0 o.n.toNat else r

theorem rowOf_set {rows : List ByteArray} {i j : Int} {r : ByteArray} (h0 : 0 ≤ i) (h1 : i.toNat < rows.length) (hj : 0 ≤ j) : rowOf (rows.set i.toNat r) j = if i = j then r else rowOf rows j := by
  unfold rowOf
  simp only [List.getD_eq_getElem?_getD, List.getElem?_set]
  by_cases he : i = j
  · subst he
    simp [h1]
  · rw [if_neg (by omega), if_neg he]

theorem rowOf_play {rows : List ByteArray} (hD : Dk 3 rows) (o : OpV) {i j : Int} (h0 : 0 ≤ i) (h1 : i < 3) (hj : 0 ≤ j) : rowOf (playR o i rows) j = if i = j then play1 o (rowOf rows i) else rowOf rows j := by
  have hs : isSeg 3 i = true := by simp [isSeg]; omega
  have hl : i.toNat < rows.length := by rw [hD.len]; omega
  have hself : rowOf rows j = if i = j then rowOf rows i else rowOf rows j := by split <;> simp_all
  unfold playR play1 tearR cutR fits within
  rw [hs]
  by_cases k1 : o.kind = 1
  · simp only [k1, if_true, Bool.true_and, true_or]
    cases hf : decide ((rowOf rows i).size + o.s.size ≤ 4000)
    · simpa using hself
    · simp only [cond_true]; exact rowOf_set h0 hl hj
  · by_cases k2 : o.kind = 2
    · simp only [k2, if_true, Bool.true_and, or_true, if_neg k1]
      cases hf : decide ((rowOf rows i).size + o.s.size ≤ 4000)
      · simpa using hself
      · simp only [cond_true]; exact rowOf_set h0 hl hj
    · simp only [k1, k2, if_false, Bool.true_and, or_self]
      cases hf : decide (0 ≤ o.n ∧ o.n ≤ ((rowOf rows i).size : Int))
      · simpa using hself
      · simp only [cond_true]; exact rowOf_set h0 hl hj

theorem new_three (w : World) : Calls Try.prog 14 #[.int .i64 3] w fun e w' => Newed 3 w e w' := new_ok 3 w (by omega) (by omega)

/-- What holds of the two disks at each round. -/
structure Two (i j : Int) (ra rb : List ByteArray) : Prop where
  a : Dk 3 ra
  b : Dk 3 rb
  same : rowOf ra i = rowOf rb i
  none : rowOf rb j = ByteArray.empty

theorem Two.both {i j : Int} {ra rb : List ByteArray} (h : Two i j ra rb) (o : OpV) {k : Int} (h0 : 0 ≤ k) (h1 : k < 3) (hi : 0 ≤ i) (hj : 0 ≤ j) (hk : k ≠ j) : Two i j (playR o k ra) (playR o k rb) := by
  refine ⟨dk_play h.a o k, dk_play h.b o k, ?_, ?_⟩
  · rw [rowOf_play h.a o h0 h1 hi, rowOf_play h.b o h0 h1 hi, h.same]
    by_cases he : k = i
    · subst he; simp [h.same]
    · simp [he]
  · rw [rowOf_play h.b o h0 h1 hj, if_neg hk]; exact h.none
theorem Two.one {i j : Int} {ra rb : List ByteArray} (h : Two i j ra rb) (o : OpV) {k : Int} (h0 : 0 ≤ k) (h1 : k < 3) (hi : 0 ≤ i) (hk : k ≠ i) : Two i j (playR o k ra) rb := by
  refine ⟨dk_play h.a o k, h.b, ?_, h.none⟩
  rw [rowOf_play h.a o h0 h1 hi, if_neg hk]; exact h.same
theorem Two.no (i j : Int) : Two i j noRows noRows := ⟨dk_no (by omega) (by omega), dk_no (by omega) (by omega), rfl, by
  unfold rowOf noRows
  simp only [List.getD_eq_getElem?_getD, List.getElem?_replicate]
  split <;> rfl⟩

set_option maxHeartbeats 1000000 in
theorem core (A : Option Addr) (L : List OpV) (cap : Nat) (i j : Int) (w : World) (h : OpsAt w w.heap.size A L) (hL : L.length ≤ 140737488351232) (hij : m3 i ≠ m3 j) :
    Calls Try.prog 3 #[.slice A L.length cap, .int .i64 i, .int .i64 j] w fun e w' => TrueBelow w e w' := by
  obtain ⟨n, hn⟩ : ∃ n, n = L.length := ⟨_, rfl⟩
  have HN := Lib.hid hn
  rw [← hn]
  have hnn : n ≤ 140737488351232 := by omega
  clear hL hn
  have hm : ∀ x, wrap64 ((IntKind.u64.wrap x).tmod 3) = m3 x := fun _ => rfl
  obtain ⟨hi0, hi3⟩ := m3_range i
  obtain ⟨hj0, hj3⟩ := m3_range j
  have hne : (m3 i == m3 j) = false := by simp [hij]
  clear hij
  go_enter Try.func3, Try.ntmps3
  go_wp2_with fail
  refine (awake17_any _).mono ?_
  rintro e w1 ⟨rfl, hl1⟩
  have h1 := h.below hl1
  go_wp2_with fail
  rw [HN.out]
  refine (long_any A L cap _ (h1.more hl1.size) (by rw [← HN.out]; exact hnn)).mono ?_
  rw [← HN.out]
  rintro e w2 ⟨r, rfl, hl2⟩
  have hl := hl1.trans (hl2.mono hl1.size)
  clear hl1 hl2 h1
  cases r
  · go_wp2_with fail
    refine (new_three _).mono ?_
    rintro e w3 ⟨rfl, hl3, hb3⟩
    have hl' := hl.trans (hl3.mono hl.size)
    have hla := hl.size
    clear hl hl3
    go_wp2_with fail
    refine (new_three _).mono ?_
    rintro e w4 ⟨rfl, hl4, hb4⟩
    have hl := hl'.trans (hl4.mono hl'.size)
    have hb3' := hb3.below hl4 hb3.lt
    have hlt := hb3.lt
    clear hl4 hb3
    generalize hga : w2.heap.size = ga at *
    generalize hgb : w3.heap.size = gb at *
    have HGA := Lib.hid hga
    have HGB := Lib.hid hgb
    clear hga hgb
    go_wp2_with fail
    go_loopw [50] (fun v wr => ∃ (k : Nat) (ra rb : List ByteArray), k ≤ n ∧ v = .int .i64 k ∧ Two (m3 i) (m3 j) ra rb ∧ Blk wr ga 70 (diskCells (3 : Nat) ra) ∧ Blk wr gb 70 (diskCells (3 : Nat) rb) ∧ Below w.heap.size w wr) (fun v _ => n - (intOf v).toNat)
    case atStart => exact ⟨0, noRows, noRows, by omega, rfl, Two.no _ _, hb3', hb4, hl⟩
    case round =>
      obtain ⟨k, ra, rb, hk, rfl, hT, ba, bb, hb⟩ := hrel
      have hga : ga < wr.heap.size := ba.lt
      have hgb : gb < wr.heap.size := bb.lt
      by_cases hlt : k < n
      · obtain ⟨b, off, rfl, hB, c0, c1, c2, c3, hs⟩ := h k (by rw [HN.out] at hlt; exact hlt)
        rw [← hb.cell (p := ⟨b, off + k * 4, none⟩) hB] at c0
        rw [← hb.cell (p := ⟨b, off + k * 4 + 1, none⟩) hB] at c1
        rw [← hb.cell (p := ⟨b, off + k * 4 + 2, none⟩) hB] at c2
        rw [← hb.cell (p := ⟨b, off + k * 4 + 3, none⟩) hB] at c3
        obtain ⟨o, ho⟩ : ∃ o, o = L[k] := ⟨_, rfl⟩
        rw [← ho] at c0 c1 c2 c3 hs
        clear ho
        obtain ⟨hk0, hk3⟩ := m3_range o.i
        by_cases hIj : m3 o.i = m3 j
        · have t1 : (m3 o.i == m3 j) = true := by simp [hIj]
          have t2 : (m3 o.i != m3 j) = false := by simp [hIj]
          have hIi : m3 o.i ≠ m3 i := by rw [hIj]; exact fun e => by simp [e] at hne
          have HIi := Lib.hid hIi
          clear hIj hIi
          go_wp2_with fail
          refine (play_any ga wr.heap.size ra o (m3 o.i) _ (ba.alloc _) hT.a (Blk.new _ _ _) (by omega)).mono ?_
          rintro e w5 ⟨rfl, hd⟩
          have hbo : Blk w5 wr.heap.size 31 (opCells o (m3 o.i)) := (Blk.new _ _ _).grown hd.1 (by simp; omega)
          have bb5 := (bb.alloc (.cells (opCells o (m3 o.i)) 31)).grown hd.1 (by simp; omega)
          have hb5 : Below w.heap.size w w5 := ((hb.alloc hb.size _).trans (hd.below hla (by simp; have := hb.size; omega)))
          have c5 := hbo.cell 1
          simp [opCells] at c5
          have ba5 := hd.2
          clear hd hbo
          go_wp2_with fail
          go_roundw
          case rel => exact ⟨k + 1, _, _, by omega, by go_num, hT.one o hk0 hk3 hi0 HIi.out, ba5, bb5, hb5⟩
          case measure => simp [intOf]; omega
        · have t1 : (m3 o.i == m3 j) = false := by simp [hIj]
          have t2 : (m3 o.i != m3 j) = true := by simp [hIj]
          have HIj := Lib.hid hIj
          clear hIj
          go_wp2_with fail
          refine (play_any ga wr.heap.size ra o (m3 o.i) _ (ba.alloc _) hT.a (Blk.new _ _ _) (by omega)).mono ?_
          rintro e w5 ⟨rfl, hd⟩
          have hbo : Blk w5 wr.heap.size 31 (opCells o (m3 o.i)) := (Blk.new _ _ _).grown hd.1 (by simp; omega)
          have bb5 := (bb.alloc (.cells (opCells o (m3 o.i)) 31)).grown hd.1 (by simp; omega)
          have hb5 : Below w.heap.size w w5 := ((hb.alloc hb.size _).trans (hd.below hla (by simp; have := hb.size; omega)))
          have c5 := hbo.cell 1
          simp [opCells] at c5
          have ba5 := hd.2
          clear hd
          go_wp2_with fail
          refine (play_any gb wr.heap.size rb o (m3 o.i) _ bb5 hT.b hbo (by omega)).mono ?_
          rintro e w6 ⟨rfl, hd⟩
          have ba6 := ba5.grown hd.1 (by simp; omega)
          have hb6 := hb5.trans (hd.below (by omega) hb5.size)
          have bb6 := hd.2
          clear hd hbo ba5 bb5 hb5 c5
          go_wp2_with fail
          go_roundw
          case rel => exact ⟨k + 1, _, _, by omega, by go_num, hT.both o hk0 hk3 hi0 hj0 HIj.out, ba6, bb6, hb6⟩
          case measure => simp [intOf]; omega
      · have hsi : isSeg 3 (m3 i) = true := by simp [isSeg]; omega
        have hsj : isSeg 3 (m3 j) = true := by simp [isSeg]; omega
        have ea : readR 3 ra (m3 i) = rowOf rb (m3 i) := by simp [readR, hsi, hT.same]
        have eb : readR 3 rb (m3 i) = rowOf rb (m3 i) := by simp [readR, hsi]
        have fa : roomR 3 ra (m3 i) = roomR 3 rb (m3 i) := by simp [roomR, hsi, hT.same]
        have ej : readR 3 rb (m3 j) = ByteArray.empty := by simp [readR, hsj, hT.none]
        have EA := Lib.hid ea; have EB := Lib.hid eb; have FA := Lib.hid fa; have EJ := Lib.hid ej
        clear ea eb fa ej
        go_wp2_with fail
        refine (read_to ba hT.a EA.out).mono ?_
        rintro e w' ⟨rfl, rfl⟩
        go_wp2_with fail
        refine (read_to bb hT.b EB.out).mono ?_
        rintro e w' ⟨rfl, rfl⟩
        go_wp2_with fail
        refine (room_to ba hT.a FA.out).mono ?_
        rintro e w' ⟨rfl, rfl⟩
        go_wp2_with fail
        refine (room_to bb hT.b rfl).mono ?_
        rintro e w' ⟨rfl, rfl⟩
        go_wp2_with fail
        refine (read_to bb hT.b EJ.out).mono ?_
        rintro e w' ⟨rfl, rfl⟩
        go_wp2
        go_ret
        exact ⟨rfl, hb⟩
  · go_wp2_with fail
    refine (awake17_any _).mono ?_
    rintro e w3 ⟨rfl, hl3⟩
    go_wp2
    go_ret
    exact ⟨rfl, hl.trans (hl3.mono hl.size)⟩

set_option maxHeartbeats 1000000 in
theorem same (A : Option Addr) (L : List OpV) (cap : Nat) (i j : Int) (w : World) (h : OpsAt w w.heap.size A L) (hL : L.length ≤ 140737488351232) (hij : m3 i = m3 j) :
    Calls Try.prog 3 #[.slice A L.length cap, .int .i64 i, .int .i64 j] w fun e w' => TrueBelow w e w' := by
  obtain ⟨n, hn⟩ : ∃ n, n = L.length := ⟨_, rfl⟩
  have HN := Lib.hid hn
  rw [← hn]
  have hnn : n ≤ 140737488351232 := by omega
  clear hL hn
  have hm : ∀ x, wrap64 ((IntKind.u64.wrap x).tmod 3) = m3 x := fun _ => rfl
  have hne : (m3 i == m3 j) = true := by simp [hij]
  clear hij
  go_enter Try.func3, Try.ntmps3
  go_wp2_with fail
  refine (awake17_any _).mono ?_
  rintro e w1 ⟨rfl, hl1⟩
  have h1 := h.below hl1
  go_wp2_with fail
  rw [HN.out]
  refine (long_any A L cap _ (h1.more hl1.size) (by rw [← HN.out]; exact hnn)).mono ?_
  rw [← HN.out]
  rintro e w2 ⟨r, rfl, hl2⟩
  have hl := hl1.trans (hl2.mono hl1.size)
  clear hl1 hl2 h1
  cases r
  all_goals
    go_wp2_with fail
    refine (awake17_any _).mono ?_
    rintro e w3 ⟨rfl, hl3⟩
    go_wp2
    go_ret
    exact ⟨rfl, hl.trans (hl3.mono hl.size)⟩

theorem walk {H : Type} {enc : TypeId × Value → H} {W : World} {base : Nat} {args : Array Value} {ds : List (DataW H)} {ps : List MemPlace}
    (h : Handed enc Try.prog W base Try.f3.params.toList args ds ps) : Calls Try.prog 3 args W fun e w' => TrueBelow W e w' := by
  rw [Try.params3] at h
  have hval := h.val
  obtain ⟨v0, vs0, d0, ds0, p0, q0, hargs, rfl, rfl, h0, r0⟩ := trodAll_cons h.trod
  obtain ⟨v1, vs1, d1, ds1, p1, q1, rfl, rfl, rfl, h1, r1⟩ := trodAll_cons r0
  obtain ⟨v2, vs2, d2, ds2, p2, q2, rfl, rfl, rfl, h2, r2⟩ := trodAll_cons r1
  obtain ⟨rfl, rfl, rfl⟩ := trodAll_nil r2
  obtain rfl : args = #[v0, v1, v2] := by cases args; simp_all
  obtain ⟨A, L, cap, rfl, hops, hlen⟩ := open_ops (hval 0 22 v0 rfl rfl) h0 0 h.fits rfl rfl
  obtain ⟨a1, rfl, rfl, rfl, w1⟩ := open_int Try.underlying3 (hval 1 3 v1 rfl rfl) h1
  obtain ⟨a2, rfl, rfl, rfl, w2⟩ := open_int Try.underlying3 (hval 2 3 v2 rfl rfl) h2
  by_cases he : m3 a1 = m3 a2
  · exact same A L cap a1 a2 W hops hlen he
  · exact core A L cap a1 a2 W hops hlen he


set_option maxRecDepth 100000 in
theorem lifted (os : Os) (started : os.Started) (H : Type) (enc : TypeId × Value → H) :
    ReturnsInHanded {} Try.checked os 3 .any (Rows.diskApartSpec.pre6 enc Try.prog Try.f3 Rows.diskApartRow.domain false) (Rows.diskApartSpec.post enc Try.prog Try.f3 false true false false) := by
  refine returnsInHanded_of_change_sized (C := Try.checked) own started (by kernel_rfl) Try.func3
    (ChangeSpec.witness6 (enc := enc) (C := Try.checked) false ⟨#[], #[.slice none 0 0, .int .i64 0, .int .i64 0], []⟩ 8 (by kernel_rfl) (by kernel_rfl) (by kernel_rfl) (by kernel_rfl)) ?_
  intro W base args ds gs before hval hW _ hsz _
  refine (walk (handed_of hval hW rfl rfl hsz)).mono fun e W' ⟨he, hb⟩ => ?_
  subst he
  exact ⟨_, rfl, law_post hW rfl laidOut (by kernel_rfl) rfl Try.underlying4 (fun ds' h => by match ds', h with | [_, _, _], _ => rfl) hb⟩

theorem over : Rows.diskApartRow.holds Try.pinned (OpenSpec.ofChange Rows.diskApartSpec) :=
  OpenClaim.holds_of_wide 3 Try.f3 rfl rfl rfl rfl rfl rfl rfl ⟨rfl, rfl, rfl, rfl, rfl⟩ rfl rfl rfl rfl rfl (by kernel_rfl) Try.func3 (by kernel_rfl)
    (of_decide_eq_true (by kernel_rfl)) (by unfold Func.isWrapper; first | (rw [if_pos (by decide +kernel)]; kernel_rfl) | (rw [if_neg (by decide +kernel)]; exact ⟨rfl, rfl⟩))
    (fun os started H enc _ => lifted os started H enc)

theorem proved : Rows.DiskApartSaid :=
  over
#print axioms proved
end Go.Proofs.Ytiemfdglejenpaa.diskApart
