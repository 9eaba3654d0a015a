/- A box that is none has no messages. No conditions. -/
import Derived.Test.YtemhinagajfemaaPostAwake
namespace Go.Proofs.Ytemhinagajfemaa.postNil
set_option linter.unusedVariables false
open Go.RowKit Go.ChangeShapes Go.WideShapes

/-- A value's six cells, as they come in. -/
def SixV (v : Value) : Prop := ∃ k n f s p a c p' a' c', v = .agg #[.int .i64 k, .int .i64 n, .float .f64 f, .string s, .slice p a c, .slice p' a' c']
section
variable {H : Type} {enc : TypeId × Value → H} {P : Program} {w : World} {base fuel : Nat} {spare : Nat → Bool} {held : Bool} {t : TypeId} {cs : List Value} {x : DataW H × List MemPlace}
set_option maxRecDepth 20000 in
theorem trod_float {k : FloatKind} (ht : P.underlying t = some (.float k)) (h : DataW.trod enc P w base spare held fuel t cs = some x) : ∃ b, cs = [.float k b] ∧ x = (.lit (.float k b), []) ∧ (Lit.float k b).wf = true := by
  cases fuel with
  | zero => simp [DataW.trod] at h
  | succ n =>
    unfold DataW.trod at h
    rw [ht] at h
    cases cs with
    | nil => simp at h
    | cons c rest =>
      cases rest with
      | cons _ _ => simp at h
      | nil =>
        cases c with
        | float k' b =>
          simp only [] at h
          split at h
          · rename_i hk
            injection h with h
            obtain ⟨rfl, hw⟩ := hk
            exact ⟨b, rfl, h.symm, hw⟩
          · cases h
        | _ => simp at h
theorem trod_sl {e : TypeId} (ht : P.underlying t = some (.slice e)) (h : DataW.trod enc P w base spare held fuel t cs = some x) : ∃ p a c, cs = [.slice p a c] := by
  rcases DataW.trod_slice ht h with ⟨h0, _⟩ | ⟨a, len, cap, elems, rest, n, _, h0, _⟩
  · exact ⟨_, _, _, h0⟩
  · exact ⟨_, _, _, h0⟩
set_option maxRecDepth 100000 in
theorem agg_six {v : Value} {cs : Array Value} (e : v = .agg cs) (hz : cs.size = 6) {W : World} {d : DataW H} {p : List MemPlace} (h : DataW.Trod enc Try.prog W 0 (fun _ => true) true 46 v d p) : SixV v := by
  subst e
  obtain ⟨fuel, hf⟩ := h
  obtain ⟨ys, n, _, _, hl, hyl, hfs⟩ := DataW.trod_struct Try.underlying46 hf
  obtain ⟨c0, c1, c2, c3, c4, c5, hcs⟩ : ∃ c0 c1 c2 c3 c4 c5, cs = #[c0, c1, c2, c3, c4, c5] := by
    obtain ⟨l⟩ := cs
    match l, hz with
    | [c0, c1, c2, c3, c4, c5], _ => exact ⟨c0, c1, c2, c3, c4, c5, rfl⟩
  subst hcs
  have hget : ∀ i, i < 6 → ∃ y, ys[i]? = some y := fun i hi => ⟨ys[i]'(by rw [hyl]; exact hi), List.getElem?_eq_getElem _⟩
  obtain ⟨y0, g0⟩ := hget 0 (by omega); obtain ⟨y1, g1⟩ := hget 1 (by omega); obtain ⟨y2, g2⟩ := hget 2 (by omega)
  obtain ⟨y3, g3⟩ := hget 3 (by omega); obtain ⟨y4, g4⟩ := hget 4 (by omega); obtain ⟨y5, g5⟩ := hget 5 (by omega)
  have t0 := (hfs 0 _ rfl).trans g0; have t1 := (hfs 1 _ rfl).trans g1; have t2 := (hfs 2 _ rfl).trans g2
  have t3 := (hfs 3 _ rfl).trans g3; have t4 := (hfs 4 _ rfl).trans g4; have t5 := (hfs 5 _ rfl).trans g5
  obtain ⟨x0, e0, _, _⟩ := DataW.trod_int Try.underlying3 t0
  obtain ⟨x1, e1, _, _⟩ := DataW.trod_int Try.underlying2 t1
  obtain ⟨x2, e2, _, _⟩ := trod_float Try.underlying43 t2
  obtain ⟨x3, e3, _, _⟩ := DataW.trod_string Try.underlying9 t3
  obtain ⟨p4, a4, q4, e4⟩ := trod_sl Try.underlying44 t4
  obtain ⟨p5, a5, q5, e5⟩ := trod_sl Try.underlying42 t5
  simp only [Value.cells, show Try.prog.cellsOf 3 = 1 from by kernel_rfl, List.drop_zero, List.take_succ_cons, List.take_zero] at e0
  simp only [Value.cells, show Try.prog.cellsOf 2 = 1 from by kernel_rfl, List.drop_succ_cons, List.drop_zero, List.take_succ_cons, List.take_zero] at e1
  simp only [Value.cells, show Try.prog.cellsOf 43 = 1 from by kernel_rfl, List.drop_succ_cons, List.drop_zero, List.take_succ_cons, List.take_zero] at e2
  simp only [Value.cells, show Try.prog.cellsOf 9 = 1 from by kernel_rfl, List.drop_succ_cons, List.drop_zero, List.take_succ_cons, List.take_zero] at e3
  simp only [Value.cells, show Try.prog.cellsOf 44 = 1 from by kernel_rfl, List.drop_succ_cons, List.drop_zero, List.take_succ_cons, List.take_zero] at e4
  simp only [Value.cells, show Try.prog.cellsOf 42 = 1 from by kernel_rfl, List.drop_succ_cons, List.drop_zero, List.take_succ_cons, List.take_zero] at e5
  injection e0 with e0 _; injection e1 with e1 _; injection e2 with e2 _; injection e3 with e3 _; injection e4 with e4 _; injection e5 with e5 _
  subst e0 e1 e2 e3 e4 e5
  exact ⟨_, _, _, _, _, _, _, _, _, _, rfl⟩
end

def BoxNoneTaken (w : World) (e : Ending) (w' : World) : Prop := NoneTaken w e w'
theorem put_none (v u : Value) (hv : SixV v) (hu : SixV u) (w : World) : Calls Try.prog 26 #[.pointer none, v, u] w fun e w' => IntBelow 1 w e w' := by
  obtain ⟨_, _, _, _, _, _, _, _, _, _, rfl⟩ := hv
  obtain ⟨_, _, _, _, _, _, _, _, _, _, rfl⟩ := hu
  go_enter Try.func26, Try.ntmps26
  go_wp2
  go_ret
  exact ⟨rfl, ((Below.refl _ _).alloc (Nat.le_refl _) _).alloc (by simp) _⟩
theorem take_none (v : Value) (hv : SixV v) (w : World) : Calls Try.prog 27 #[.pointer none, v] w fun e w' => NoneTaken w e w' := by
  obtain ⟨_, _, _, _, _, _, _, _, _, _, rfl⟩ := hv
  have hsf := run_store_flt
  go_enter Try.func27, Try.ntmps27
  go_wp2
  refine bodyPost_ret (v := .tuple #[.agg #[.int .i64 0, .int .i64 0, .float .f64 0, .string ⟨#[]⟩, .slice none 0 0, .slice none 0 0], .bool false]) (by simp [results, Try.results27, go_sem]) rfl ⟨rfl, ?_⟩
  exact ((Below.refl _ _).alloc (Nat.le_refl _) _).alloc (by simp) _

set_option maxHeartbeats 2000000 in
set_option maxRecDepth 100000 in
theorem law_any (v : Value) (hv : SixV v) (w : World) : Calls Try.prog 6 #[v] w fun e w' => TrueBelow w e w' := by
  have HV := Lib.hid hv
  obtain ⟨k, n, f, s, p, a, c, p', a', c', rfl⟩ := hv
  have hnp : ∀ (W : World), (binOp .eql 49 (.pointer none) (.pointer none)).run Try.prog W = .ok (.bool true) W := fun _ => rfl
  have hsf := run_store_flt
  go_enter Try.func6, Try.ntmps6
  go_wp2_with fail
  refine (take_none _ HV.out _).mono ?_
  rintro e w1 ⟨rfl, hl⟩
  have hb0 := (Blk.new w 46 #[.int .i64 k, .int .i64 n, .float .f64 f, .string s, .slice p a c, .slice p' a' c']).below hl (by simp)
  have hz := hl.size
  have HL := Lib.hid (((Below.refl w.heap.size w).alloc (Nat.le_refl _) (.cells #[.int .i64 k, .int .i64 n, .float .f64 f, .string s, .slice p a c, .slice p' a' c'] 46)).trans (hl.mono (by simp)))
  have HB := Lib.hid (hb0.alloc (.cells #[.int .i64 0, .int .i64 0, .float .f64 0, .string ⟨#[]⟩, .slice none 0 0, .slice none 0 0] 46))
  have HM := Lib.hid (HL.out.alloc HL.out.size (.cells #[.int .i64 0, .int .i64 0, .float .f64 0, .string ⟨#[]⟩, .slice none 0 0, .slice none 0 0] 46))
  clear hl hb0 hz HL
  go_wp2_with fail
  refine (awake20_any _).mono ?_
  rintro e w2 ⟨rfl, hl⟩
  have HN := Lib.hid (HM.out.trans (hl.mono HM.out.size))
  have hb2 := HB.out.below hl HB.out.lt
  have k0 := hb2.cell 0; have k1 := hb2.cell 1; have k2 := hb2.cell 2; have k3 := hb2.cell 3; have k4 := hb2.cell 4; have k5 := hb2.cell 5
  simp only [List.getElem?_toArray, List.getElem?_cons_zero, List.getElem?_cons_succ] at k0 k1 k2 k3 k4 k5
  clear hl hb2 HB HM
  go_wp2_with fail
  refine (put_none _ _ HV.out HV.out _).mono ?_
  rintro e w3 ⟨rfl, hl⟩
  have HO := Lib.hid (HN.out.trans (hl.mono HN.out.size))
  clear hl HN k0 k1 k2 k3 k4 k5
  go_wp2_with fail
  refine (keys_nil _).mono ?_
  rintro e w4 ⟨rfl, rfl⟩
  go_wp2_with fail
  refine (len_nil _).mono ?_
  rintro e w4 ⟨rfl, rfl⟩
  go_wp2_with fail
  refine (copy_nil _).mono ?_
  rintro e w4 ⟨rfl, rfl⟩
  go_wp2
  go_ret
  exact ⟨rfl, HO.out⟩

set_option maxRecDepth 100000 in
theorem walk {H : Type} {enc : TypeId × Value → H} {W : World} {base : Nat} {args : Array Value} {ds : List (DataW H)} {ps : List MemPlace}
    (h : Handed enc Try.prog W base Try.f6.params.toList args ds ps) : Calls Try.prog 6 args W fun e w' => TrueBelow W e w' := by
  rw [Try.params6] at h
  have hval := h.val
  obtain ⟨v0, vs0, d0, ds0, p0, q0, hargs, rfl, rfl, h0, r0⟩ := trodAll_cons h.trod
  obtain ⟨rfl, rfl, rfl⟩ := trodAll_nil r0
  obtain rfl : args = #[v0] := by cases args; simp_all
  have hv := hval 0 46 v0 rfl rfl
  unfold Value.okWide at hv
  rw [Try.underlying46] at hv
  obtain ⟨cs, he, hz, _⟩ := hv
  rw [show Try.prog.cellsOf 46 = 6 from by kernel_rfl] at hz
  exact law_any v0 (agg_six he hz h0) W


set_option maxRecDepth 100000 in
theorem lifted (os : Os) (started : os.Started) (H : Type) (enc : TypeId × Value → H) :
    ReturnsInHanded {} Try.checked os 6 .any (Rows.postNilSpec.pre6 enc Try.prog Try.f6 Rows.postNilRow.domain false) (Rows.postNilSpec.post enc Try.prog Try.f6 false true false false) := by
  refine returnsInHanded_of_change_sized (C := Try.checked) own started (by kernel_rfl) Try.func6
    (ChangeSpec.witness6 (enc := enc) (C := Try.checked) false ⟨#[], #[.agg #[.int .i64 0, .int .i64 0, .float .f64 0, .string ByteArray.empty, .slice none 0 0, .slice none 0 0]], []⟩ 8 (by kernel_rfl) (by kernel_rfl) (by kernel_rfl) (by kernel_rfl)) ?_
  intro W base args ds gs before hval hW _ hsz _
  refine (walk (handed_of hval hW rfl rfl hsz)).mono fun e W' ⟨he, hb⟩ => ?_
  subst he
  exact ⟨_, rfl, law_post hW rfl laidOut (by kernel_rfl) rfl Try.underlying4 (fun ds' h => by match ds', h with | [_], _ => rfl) hb⟩

theorem over : Rows.postNilRow.holds Try.pinned (OpenSpec.ofChange Rows.postNilSpec) :=
  OpenClaim.holds_of_wide 6 Try.f6 rfl rfl rfl rfl rfl rfl rfl ⟨rfl, rfl, rfl, rfl, rfl⟩ rfl rfl rfl rfl rfl (by kernel_rfl) Try.func6 (by kernel_rfl)
    (of_decide_eq_true (by kernel_rfl)) (by unfold Func.isWrapper; first | (rw [if_pos (by decide +kernel)]; kernel_rfl) | (rw [if_neg (by decide +kernel)]; exact ⟨rfl, rfl⟩))
    (fun os started H enc _ => lifted os started H enc)

theorem proved : Rows.PostNilSaid :=
  over
#print axioms proved
end Go.Proofs.Ytemhinagajfemaa.postNil
