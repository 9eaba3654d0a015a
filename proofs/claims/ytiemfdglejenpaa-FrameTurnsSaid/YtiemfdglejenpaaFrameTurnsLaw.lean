/- A frame of which one bit behind its length is turned is none. No conditions. -/
import Derived.Test.YtiemfdglejenpaaFrameAwake
import Derived.Test.YtiemfdglejenpaaTurnPlain
import Derived.Lib.ConvBytes
namespace Go.Proofs.Ytiemfdglejenpaa.frameTurns
open Go.RowKit Go.ChangeShapes Go.WideShapes Go.Proofs.Ytiemfdglejenpaa.Crc
open Go.ChangeMaps (open_string shut_string)
set_option linter.unusedVariables false

set_option maxHeartbeats 1000000 in
theorem bad (p : ByteArray) (bit : Int) (w : World) (hp : p.size ≤ 9223372036854775807) (h : p.size = 0 ∨ 2000 < p.size) : Calls Try.prog 6 #[.string p, .int .i64 bit] w fun e w' => TrueBelow w e w' := by
  have H2 := Lib.hid h
  clear h
  go_enter Try.func6, Try.ntmps6
  go_wp2_with fail
  refine (make_bad p _ hp H2.out).mono ?_
  rintro e w' ⟨rfl, rfl⟩
  go_wp2_with fail
  refine (awake06_any _).mono ?_
  rintro e w1 ⟨rfl, hl1⟩
  go_wp2_with fail
  refine (awake06_any _).mono ?_
  rintro e w2 ⟨rfl, hl2⟩
  go_wp2
  go_ret
  exact ⟨rfl, hl1.trans (hl2.mono hl1.size)⟩

theorem bytes_frozen (w : World) (e : TypeId) (s : ByteArray) {j : Nat} (hj : j < s.size) : (Lib.bytesWorld w e s).frozen? ⟨w.heap.size, j, none⟩ = false := by
  have h := Lib.bytesWorld_at_new w e s
  have hz : s.size ≤ (Lib.bytesCells w e s).size := by simp [Lib.bytesCells]
  simp [World.frozen?, h]
  omega
theorem below_bytes {B : Nat} {a w : World} (h : Below B a w) (hB : B ≤ w.heap.size) (e : TypeId) (s : ByteArray) : Below B a (Lib.bytesWorld w e s) := by
  refine h.trans ⟨?_, ?_, ?_, ?_, fun k hk => Lib.bytesWorld_at_old w e s k (by omega)⟩
  · simp only [Lib.bytesWorld, World.freeze]; split <;> rfl
  · simp only [Lib.bytesWorld, World.freeze]; split <;> rfl
  · simp only [Lib.bytesWorld, World.freeze]; split <;> rfl
  · rw [Lib.bytesWorld_size]; omega
theorem turned_cell (w : World) (e : TypeId) (s : ByteArray) {q i : Nat} (hq : q < s.size) (hi : i < s.size) (y : Nat) :
    (((Lib.bytesWorld w e s).setCell ⟨w.heap.size, q, none⟩ (.int .u8 (y : Int))).drew).cell? ⟨w.heap.size, i, none⟩ = some (.int .u8 (((s.data.toList.map fun b => (b.toNat : Int)).set q (y : Int)).getD i 0)) := by
  show ((Lib.bytesWorld w e s).setCell ⟨w.heap.size, q, none⟩ (.int .u8 (y : Int))).cell? ⟨w.heap.size, i, none⟩ = _
  have h0 := Lib.bytesWorld_cell w e s i hi
  have h1 := Lib.bytesWorld_at_new w e s
  have hl : (s.data.toList.map fun b => (b.toNat : Int)).length = s.size := by simp
  simp only [World.cell?, World.setCell, Array.getElem?_modify, h1] at h0 ⊢
  simp only [↓reduceIte, Option.map_some, Option.isSome_none, Bool.false_eq_true] at h0 ⊢
  rw [Array.getElem?_setIfInBounds, List.getD_eq_getElem?_getD, List.getElem?_set]
  by_cases hqi : q = i
  · subst hqi
    have hz : q < (Lib.bytesCells w e s).size := by simp [Lib.bytesCells]; omega
    simp [hz, hl, hq]
  · rw [if_neg hqi, if_neg hqi, h0]
    simp [List.getD_eq_getElem?_getD, hi]
theorem turn_go (x : UInt8) (kk : Nat) : ∃ y : Nat, bits .xor .u8 (x.toNat : Int) (2 ^ (kk % 8) % 256) = (y : Int) ∧ y < 256 ∧ y ≠ x.toNat := by
  have hx := x.toNat_lt
  have hm : 2 ^ (kk % 8) < 256 := by
    have : 2 ^ (kk % 8) ≤ 2 ^ 7 := Nat.pow_le_pow_right (by omega) (by omega)
    omega
  have hp : 0 < 2 ^ (kk % 8) := Nat.two_pow_pos _
  have e0 : ((2 : Int) ^ (kk % 8)) = ((2 ^ (kk % 8) : Nat) : Int) := by simp
  have e : ((2 : Int) ^ (kk % 8) % 256) = ((2 ^ (kk % 8) : Nat) : Int) := by rw [e0]; omega
  refine ⟨x.toNat ^^^ 2 ^ (kk % 8), ?_, Nat.xor_lt_two_pow (n := 8) (by omega) hm, fun h => ?_⟩
  · rw [e, u8_xor_nat _ _ (by omega) hm]
  · have h2 := congrArg (· ^^^ x.toNat) h
    simp only [Nat.xor_self] at h2
    rw [Nat.xor_comm, ← Nat.xor_assoc, Nat.xor_self, Nat.zero_xor] at h2
    omega
theorem place (bit : Int) (n : Nat) (h7 : 7 ≤ n) (hn : n ≤ 2006) : ∃ kk : Nat, wrap64 (16 + wrap64 ((IntKind.u64.wrap bit).tmod (8 * (n : Int) - 16))) = (kk : Int) ∧ 16 ≤ kk ∧ kk < 8 * n := by
  rw [IntKind.wrap_u64]
  have h0 : 0 ≤ bit % 18446744073709551616 := by omega
  rw [Int.tmod_eq_emod_of_nonneg h0]
  have hp : (0 : Int) < 8 * (n : Int) - 16 := by omega
  have r0 := Int.emod_nonneg (bit % 18446744073709551616) (Int.ne_of_gt hp)
  have r1 := Int.emod_lt_of_pos (bit % 18446744073709551616) hp
  generalize (bit % 18446744073709551616) % (8 * (n : Int) - 16) = x at r0 r1
  rw [IntWalk.wrap64_in x (by omega), IntWalk.wrap64_in _ (by omega)]
  exact ⟨(16 + x).toNat, by omega, by omega, by omega⟩

set_option maxHeartbeats 1000000 in
theorem good (p : ByteArray) (bit : Int) (w : World) (h1 : 1 ≤ p.size) (h2 : p.size ≤ 2000) : Calls Try.prog 6 #[.string p, .int .i64 bit] w fun e w' => TrueBelow w e w' := by
  have hfs := frame_lenAt h2
  obtain ⟨F, hF⟩ : ∃ F, F = frameOf p := ⟨_, rfl⟩
  rw [← hF] at hfs
  have hz : (F.size : Int) ≤ 2006 := by omega
  have hz' : 7 ≤ (F.size : Int) := by omega
  have HF := Lib.hid hF
  have HS := Lib.hid hfs
  clear hF hfs
  obtain ⟨kk, hkk, hk16, hk8⟩ := place bit F.size (by omega) (by omega)
  have hcv := fun W : World => Lib.run_convert_string_bytes (P := Try.prog) W 9 46 5 F Try.underlying9 Try.underlying46 Try.underlying5
  go_enter Try.func6, Try.ntmps6
  go_wp2_with fail
  refine (make_ok p _ h1 h2).mono ?_
  rintro e w1 ⟨rfl, hl1⟩
  rw [← HF.out]
  go_wp2_with fail
  refine (awake06_any _).mono ?_
  rintro e w2 ⟨rfl, hl2⟩
  have hl := hl1.trans (hl2.mono hl1.size)
  clear hl1 hl2
  have hq : kk / 8 < F.size := by omega
  have hq' : (kk : Int) / 8 < F.size := by omega
  have hc := Lib.bytesWorld_cell w2 5 F (kk / 8) hq
  have hfr : (Lib.bytesWorld w2 5 F).frozen? ⟨w2.heap.size, kk / 8, none⟩ = false := bytes_frozen w2 5 F hq
  obtain ⟨x, hx⟩ : ∃ x, x = F.data.toList.getD (kk / 8) 0 := ⟨_, rfl⟩
  rw [← hx] at hc
  have HX := Lib.hid hx
  clear hx
  have hx8 := x.toNat_lt
  obtain ⟨y, hy, hy8, hyx⟩ := turn_go x kk
  go_wp2_with fail
  go_region
  have hs0 : (Lib.bytesWorld w2 5 F).heap.size = w2.heap.size + 1 := Lib.bytesWorld_size _ _ _
  have hlb := below_bytes hl hl.size 5 F
  have hset : ∀ i, i < F.size → (((Lib.bytesWorld w2 5 F).setCell ⟨w2.heap.size, kk / 8, none⟩ (.int .u8 (y : Int))).drew).cell? ⟨w2.heap.size, 0 + i, none⟩ = some (.int .u8 (((F.data.toList.map fun b => (b.toNat : Int)).set (kk / 8) (y : Int)).getD i 0)) := by
    intro i hi
    rw [Nat.zero_add]
    exact turned_cell w2 5 F hq hi y
  have hcv2 := run_convert_bytes_arg (P := Try.prog) _ (46 : Nat) (5 : Nat) Try.underlying46 Try.underlying5 w2.heap.size 0 F.size (grownCap w2 F.size 0 5) _ (by simp) hset (9 : Nat) Try.underlying9
  obtain ⟨F2, hF2⟩ : ∃ F2, F2 = strOfNums ((F.data.toList.map fun b => (b.toNat : Int)).set (kk / 8) (y : Int)) := ⟨_, rfl⟩
  rw [← hF2] at hcv2
  have hl2 : F2.data.toList = (frameOf p).data.toList.set (kk / 8) (UInt8.ofNat y) := by
    rw [hF2, strOfNums_data, List.map_set, ← HF.out]
    simp [Function.comp_def]
  have hnone : frameAt F2 = false := turned_none (j := kk / 8) (b := UInt8.ofNat y) h1 h2 (by omega) (by have := HS.out; omega) (by
    rw [← HF.out, ← HX.out]
    intro e
    have := congrArg UInt8.toNat e
    simp at this
    omega) hl2
  have hsz2 : F2.size = F.size := by
    rw [hF2, strOfNums_size]; simp
  have he : nextE F2 0 = 14 := by
    have hi : Proofs.Ytiemfdglejenpaa.inside F2 0 = true := by simp [Proofs.Ytiemfdglejenpaa.inside]
    have hr : restAt F2 0 = F2 := by simp [restAt]
    simp [nextE, hi, hr, hnone]
  have hn := next_any F2 0
  rw [he] at hn
  have HN := Lib.hid hn
  have HZ := Lib.hid hsz2
  clear hset hF2 hl2 hnone he hn hsz2 hc hfr hy
  generalize hW : ((Lib.bytesWorld w2 5 F).setCell ⟨w2.heap.size, kk / 8, none⟩ (.int .u8 (y : Int))).drew = W at hcv2
  have hlW : Below w.heap.size w W := by
    rw [← hW]
    exact (hlb.setCell (p := ⟨w2.heap.size, kk / 8, none⟩) hl.size _).drew
  clear hW hlb
  go_wp2_with fail
  refine (HN.out _ (by rw [HZ.out]; omega)).mono ?_
  rintro e w3 ⟨rfl, hl3⟩
  go_wp2
  go_ret
  exact ⟨rfl, hlW.trans (hl3.mono hlW.size)⟩

theorem core (p : ByteArray) (bit : Int) (w : World) (hp : p.size ≤ 9223372036854775807) : Calls Try.prog 6 #[.string p, .int .i64 bit] w fun e w' => TrueBelow w e w' := by
  by_cases h : p.size = 0 ∨ 2000 < p.size
  · exact bad p bit w hp h
  · exact good p bit w (by omega) (by omega)

theorem walk {H : Type} {enc : TypeId × Value → H} {W : World} {base : Nat} {args : Array Value} {ds : List (DataW H)} {ps : List MemPlace}
    (h : Handed enc Try.prog W base Try.f6.params.toList args ds ps) : Calls Try.prog 6 args W fun e w' => TrueBelow W e w' := by
  rw [Try.params6] at h
  have hval := h.val
  obtain ⟨v0, vs0, d0, ds0, p0, q0, hargs, rfl, rfl, h0, r0⟩ := trodAll_cons h.trod
  obtain ⟨v1, vs1, d1, ds1, p1, q1, rfl, rfl, rfl, h1, r1⟩ := trodAll_cons r0
  obtain ⟨rfl, rfl, rfl⟩ := trodAll_nil r1
  obtain rfl : args = #[v0, v1] := by cases args; simp_all
  obtain ⟨a0, rfl, rfl, rfl, w0⟩ := open_string Try.underlying9 (hval 0 9 v0 rfl rfl) h0
  obtain ⟨a1, rfl, rfl, rfl, w1⟩ := open_int Try.underlying3 (hval 1 3 v1 rfl rfl) h1
  exact core a0 a1 W (by unfold maxLen at w0; exact w0)


set_option maxRecDepth 100000 in
theorem lifted (os : Os) (started : os.Started) (H : Type) (enc : TypeId × Value → H) :
    ReturnsInHanded {} Try.checked os 6 .any (Rows.frameTurnsSpec.pre6 enc Try.prog Try.f6 Rows.frameTurnsRow.domain false) (Rows.frameTurnsSpec.post enc Try.prog Try.f6 false true false false) := by
  refine returnsInHanded_of_change_sized (C := Try.checked) own started (by kernel_rfl) Try.func6
    (ChangeSpec.witness6 (enc := enc) (C := Try.checked) false ⟨#[], #[.string ByteArray.empty, .int .i64 0], []⟩ 8 (by kernel_rfl) (by kernel_rfl) (by kernel_rfl) (by kernel_rfl)) ?_
  intro W base args ds gs before hval hW _ hsz _
  refine (walk (handed_of hval hW rfl rfl hsz)).mono fun e W' ⟨he, hb⟩ => ?_
  subst he
  exact ⟨_, rfl, law_post hW rfl laidOut (by kernel_rfl) rfl Try.underlying4 (fun ds' h => by match ds', h with | [_, _], _ => rfl) hb⟩

theorem over : Rows.frameTurnsRow.holds Try.pinned (OpenSpec.ofChange Rows.frameTurnsSpec) :=
  OpenClaim.holds_of_wide 6 Try.f6 rfl rfl rfl rfl rfl rfl rfl ⟨rfl, rfl, rfl, rfl, rfl⟩ rfl rfl rfl rfl rfl (by kernel_rfl) Try.func6 (by kernel_rfl)
    (of_decide_eq_true (by kernel_rfl)) (by unfold Func.isWrapper; first | (rw [if_pos (by decide +kernel)]; kernel_rfl) | (rw [if_neg (by decide +kernel)]; exact ⟨rfl, rfl⟩))
    (fun os started H enc _ => lifted os started H enc)

theorem proved : Rows.FrameTurnsSaid :=
  over
#print axioms proved
end Go.Proofs.Ytiemfdglejenpaa.frameTurns
