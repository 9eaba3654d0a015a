/- Frames behind one another, cut off anywhere, are read in order up to the cut. No conditions. -/
import Derived.Test.YtiemfdglejenpaaFrameAwake
import Derived.Test.YtiemfdglejenpaaStrs
import Derived.Test.YtiemfdglejenpaaFramePlain
import Derived.Test.YtiemfdglejenpaaAppendAny
import Derived.BigGuardPart
import Derived.SliceStrings
import Derived.Test.YtiemfdglejenpaaOpen
namespace Go.Proofs.Ytiemfdglejenpaa.frameRow
open Go.RowKit Go.ChangeShapes Go.WideShapes Go.Proofs.Ytiemfdglejenpaa.Crc
open Go.ChangeMaps (open_string shut_string)
set_option linter.unusedVariables false

theorem int_info8 : (Try.prog.info? 3).map (fun i => (i.zero, i.size, i.bytes)) = some (some (.int .i64 0), 1, 8) := by kernel_rfl

/-- Where the first k+1 frames end. -/
def ends (L : List ByteArray) (k : Nat) : List Value := (List.range k).map fun j => Value.int .i64 ((cat (L.take (j + 1))).size : Nat)
theorem ends_succ (L : List ByteArray) (k : Nat) : ends L (k + 1) = ends L k ++ [.int .i64 ((cat (L.take (k + 1))).size : Nat)] := by simp [ends, List.range_succ]
theorem ends_len (L : List ByteArray) (k : Nat) : (ends L k).length = k := by simp [ends]
theorem ends_at (L : List ByteArray) {k n : Nat} (h : k < n) : (ends L n)[k]? = some (.int .i64 ((cat (L.take (k + 1))).size : Nat)) := by simp [ends, h]
theorem cat_take_succ (L : List ByteArray) {k : Nat} (h : k < L.length) : cat (L.take (k + 1)) = cat (L.take k) ++ frameOf L[k] := by
  rw [List.take_succ_eq_append_getElem h, cat_append]; simp [cat]
theorem cat_small : ∀ (L : List ByteArray), (∀ p ∈ L, Ok p ∧ p.size ≤ 200) → (cat L).size ≤ 206 * L.length
  | [], _ => by simp [cat]
  | p :: L, h => by
    have hp := h p (by simp)
    have := cat_small L fun q hq => h q (by simp [hq])
    have h2 : (frameOf p).size = p.size + 6 := frame_lenAt hp.1.2
    simp only [cat, ByteArray.size_append, List.length_cons]
    omega

/-- The first loop, k rounds done. -/
def Done (L : List ByteArray) (k : Nat) (s : ByteArray) : Prop := k ≤ L.length ∧ s = cat (L.take k) ∧ ∀ p ∈ L.take k, Ok p ∧ p.size ≤ 200
theorem Done.small {L : List ByteArray} {k : Nat} {s : ByteArray} (h : Done L k s) : s.size ≤ 206 * k := by
  have := cat_small _ h.2.2
  rw [h.2.1]
  rw [List.length_take] at this
  have : min k L.length ≤ k := Nat.min_le_left _ _
  omega
theorem Done.more {L : List ByteArray} {k : Nat} {s : ByteArray} (h : Done L k s) (hk : k < L.length) (ho : Ok L[k]) (hz : L[k].size ≤ 200) : Done L (k + 1) (s ++ frameOf L[k]) := by
  refine ⟨hk, by rw [cat_take_succ L hk, h.2.1], fun p hp => ?_⟩
  rw [List.take_succ_eq_append_getElem hk] at hp
  rcases List.mem_append.1 hp with hp | hp
  · exact h.2.2 p hp
  · rw [List.mem_singleton.1 hp]; exact ⟨ho, hz⟩

theorem reads_own {w : World} {base n : Nat} {e : TypeId} {v : Value} {xs : List Value} (h : w.ownsRow base e 1 v n xs) :
    ∃ A cap, v = .slice A n cap ∧ Reads w w.heap.size 1 A n xs := by
  obtain ⟨A, cap, rfl⟩ : ∃ A cap, v = .slice A n cap := by
    rcases h.2 with ⟨rfl, rfl⟩ | ⟨g, cap, cur, rfl, _⟩
    · exact ⟨_, _, rfl⟩
    · exact ⟨_, _, rfl⟩
  exact ⟨A, cap, rfl, Reads.of_own h⟩

theorem place (cut : Int) (n : Nat) (hn : n ≤ 10000) : ∃ c : Nat, wrap64 ((IntKind.u64.wrap cut).tmod ((n : Int) + 1)) = (c : Int) ∧ c ≤ n ∧ (c : Int) ≤ n := by
  rw [IntKind.wrap_u64]
  have h0 : 0 ≤ cut % 18446744073709551616 := by omega
  rw [Int.tmod_eq_emod_of_nonneg h0]
  have hp : (0 : Int) < (n : Int) + 1 := by omega
  have r0 := Int.emod_nonneg (cut % 18446744073709551616) (Int.ne_of_gt hp)
  have r1 := Int.emod_lt_of_pos (cut % 18446744073709551616) hp
  generalize (cut % 18446744073709551616) % ((n : Int) + 1) = x at r0 r1
  rw [IntWalk.wrap64_in x (by omega)]
  exact ⟨x.toNat, by omega, by omega, by omega⟩

set_option maxHeartbeats 1000000 in
theorem row (L : List ByteArray) (A : Option Addr) (cap : Nat) (cut : Int) (w : World) (hA : StrsAt w w.heap.size A L) (hsz : ∀ s ∈ L, s.size ≤ maxLen) (hcap : L.length ≤ cap) (hn : L.length ≤ 20) (hnil : A = none → L = []) :
    Calls Try.prog 10 #[.slice A L.length cap, .int .i64 cut] w fun e w' => TrueBelow w e w' := by
  obtain ⟨i0, hi0, hz0, hz1, hz2⟩ := info_parts int_info8
  obtain ⟨n, hln⟩ : ∃ n, n = L.length := ⟨_, rfl⟩
  rw [← hln] at hcap hn ⊢
  have hd : decide (20 < (n : Int)) = false := by simp; omega
  have HA := Lib.hid hA; have HSZ := Lib.hid hsz; have HLN := Lib.hid hln; have HNIL := Lib.hid hnil
  clear hA hsz hln hnil
  go_enter Try.func10, Try.ntmps10
  go_wp2_with fail
  refine (awake06_any _).mono ?_
  rintro e w1 ⟨rfl, hl⟩
  go_wp2_with fail
  go_loopw [5, 6, 25] (fun sv ev kv wr => ∃ (k : Nat) (s : ByteArray), sv = .string s ∧ kv = .int .i64 k ∧ k ≤ n ∧ Hid (Done L k s) ∧ Hid (wr.ownsRow w.heap.size 3 1 ev k (ends L k)) ∧ Hid (Below w.heap.size w wr)) (fun _ _ kv _ => (n - intOf kv).toNat)
  case atStart => exact ⟨0, ByteArray.empty, rfl, rfl, by omega, Lib.hid ⟨by omega, by simp [cat], by simp⟩, Lib.hid ⟨by simp [ends], .inl ⟨rfl, rfl⟩⟩, Lib.hid hl⟩
  case round =>
    obtain ⟨k, s, rfl, rfl, hk, HD, HO, HL⟩ := hrel
    by_cases hlt : k < n
    · have hka : k < L.length := by rw [← HLN.out]; exact hlt
      obtain ⟨b1, o1, rfl, hB1, c1⟩ := (HA.out.below HL.out) k hka
      obtain ⟨x, hx⟩ : ∃ x, x = L[k] := ⟨_, rfl⟩
      rw [← hx] at c1
      have HX := Lib.hid hx
      have hxm : x.size ≤ maxLen := by rw [hx]; exact HSZ.out _ (List.getElem_mem hka)
      unfold maxLen at hxm
      have HS := Lib.hid HD.out.small
      have i1 : (k : Int) < (n : Int) := by omega
      clear hlt
      by_cases h2 : 200 < (x.size : Int)
      · clear HD HO HS hx HA
        go_wp2
        go_ret
        exact ⟨rfl, HL.out⟩
      · have h2' : decide (200 < (x.size : Int)) = false := by simp; omega
        have h3 : x.size ≤ 200 := by omega
        clear h2
        by_cases h0 : x.size = 0
        · clear HD HO HS hx HA
          go_wp2_with fail
          refine (make_bad x _ hxm (.inl h0)).mono ?_
          rintro e w' ⟨rfl, rfl⟩
          go_wp2
          go_ret
          exact ⟨rfl, HL.out⟩
        · have hD' := HD.out.more hka (by rw [← hx]; exact ⟨by omega, by omega⟩) (by rw [← hx]; exact h3)
          rw [← hx] at hD'
          have hE := ends_succ L k
          rw [← hD'.2.1] at hE
          have HE := Lib.hid hE
          have HD' := Lib.hid hD'
          clear hD' hE hx HA HD
          go_wp2_with fail
          refine (make_ok x _ (by omega) (by omega)).mono ?_
          rintro e w2 ⟨rfl, hl2⟩
          obtain ⟨F, hF⟩ : ∃ F, F = frameOf x := ⟨_, rfl⟩
          have hFs : F.size ≤ 206 := by rw [hF, frame_lenAt (by omega)]; omega
          rw [← hF] at HD' HE ⊢
          have hs := HS.out
          have hown := HO.out
          have hL := HL.out
          have hown2 := own_later hown hl2
          have hL2 := hL.trans (hl2.mono hL.size)
          have HL2 := Lib.hid hL2
          clear hown hl2 hL hL2 HO HL HS HX hF
          go_wp2_with (at_builtin; refine wpList_append_own _ rfl (.tmp 42) (.tmp 45) 65 rfl w.heap.size 3 i0 (.int .i64 0) 1 8 Try.underlying65 hi0 hz0 hz1 hz2 rfl (by decide) _ _ _ rfl (hown2.alloc _) ⟨w2.heap.size, 0, none⟩ 1 1 [_] rfl rfl (cells_new w2 _ _) (by intro u hu; simp at hu; subst hu; rfl) (by unfold maxLen; omega) (by omega) (by have := HL2.out.size; simp; omega) ?_; intro v3 w3 hown3 hg3 _)
          have hL2 := HL2.out
          have hba := hL2.alloc hL2.size (.cells #[.int .i64 ((s.size : Int) + (F.size : Int))] 3)
          have hb2 := Go.Proofs.Ytiemfdglejenpaa.Below.own hba (hown2.alloc _) hg3 hba.size
          go_roundw
          case rel => exact ⟨k + 1, s ++ F, rfl, rfl, by omega, HD', Lib.hid (by rw [HE.out]; simpa [ByteArray.size_append] using hown3), Lib.hid hb2⟩
          case measure => simp [intOf]; omega
    · obtain rfl : n = k := by omega
      have hs : s = cat L := by rw [HD.out.2.1, List.take_of_length_le (by rw [← HLN.out]; exact Nat.le_refl _)]
      obtain ⟨A2, cap2, rfl, hr⟩ := reads_own HO.out
      have hD := HD.out
      have hsz := hD.small
      have hok : ∀ p ∈ L, Ok p := by
        have := hD.2.2
        rw [List.take_of_length_le (by rw [← HLN.out]; exact Nat.le_refl _)] at this
        exact fun p hp => (this p hp).1
      obtain ⟨c, hc1, hc2, hc3⟩ := place cut s.size (by omega)
      have hsz' : (s.size : Int) ≤ 4120 := by omega
      have HR := Lib.hid hr; have HS := Lib.hid hs; have HOK := Lib.hid hok
      clear hr hs hok hlt hk HD HO hD hsz
      obtain ⟨w5, hw5⟩ : ∃ w5, w5 = wr := ⟨_, rfl⟩
      subst hw5
      go_wp2_with fail
      go_loopw [11, 12] (fun kv av wq => ∃ k : Nat, kv = .int .i64 k ∧ av = .int .i64 ((cat (L.take k)).size : Nat) ∧ k ≤ n ∧ (cat (L.take k)).size ≤ c ∧ Hid (Below w5.heap.size w5 wq)) (fun kv _ _ => (n - intOf kv).toNat)
      case atStart => exact ⟨0, rfl, by simp [cat], by omega, by simp [cat], Lib.hid (Below.refl _ _)⟩
      case round =>
        obtain ⟨k, rfl, rfl, hk, hkc, HB⟩ := hrel
        obtain ⟨z, hz⟩ : ∃ z, z = (cat (L.take k)).size := ⟨_, rfl⟩
        rw [← hz] at hkc ⊢
        by_cases hgo : k < n ∧ (cat (L.take (k + 1))).size ≤ c
        · obtain ⟨hlt, hle⟩ := hgo
          have i1 : (k : Int) < (n : Int) := by omega
          have hr := HR.out.below HB.out
          obtain ⟨ad, u, rfl, hab, hu, hcell⟩ := hr.at_ hlt
          rw [ends_at L hlt] at hu
          obtain rfl := Option.some.inj hu
          obtain ⟨y, hy⟩ : ∃ y, y = (cat (L.take (k + 1))).size := ⟨_, rfl⟩
          rw [← hy] at hcell hle
          have hle' : (y : Int) ≤ (c : Int) := by omega
          have HZ := Lib.hid hz
          have HY := Lib.hid hy
          clear hz hy hu hr
          go_wp2
          go_roundw
          case rel => exact ⟨k + 1, rfl, by rw [HY.out], by omega, by rw [← HY.out]; exact hle, HB⟩
          case measure => simp [intOf]; omega
        · have hcat := all_cut (n := k) (c := c) HOK.out (by rw [← HLN.out]; exact hk) (by rw [← HS.out]; exact hc2) (by rw [← hz]; exact hkc) (fun h => by rw [← HLN.out] at h; omega)
          rw [← HS.out, ← hz] at hcat
          have hT := List.length_take (i := k) (l := L)
          rw [← HLN.out, Nat.min_eq_left hk] at hT
          have hst : StrsAt w w.heap.size A (L.take k) := fun j hj => by
            obtain ⟨b, off, e, hb, hc⟩ := HA.out j (by rw [List.length_take] at hj; omega)
            exact ⟨b, off, e, hb, by rw [hc]; simp⟩
          obtain ⟨T, hTe⟩ : ∃ T, T = L.take k := ⟨_, rfl⟩
          rw [← hTe] at hcat hT hst
          have HC := Lib.hid hcat; have HT := Lib.hid hT; have HST := Lib.hid hst; have HZ := Lib.hid hz
          clear hcat hT hst hTe hz HA HSZ
          by_cases hlt : k < n
          all_goals try (
            have i1 : (k : Int) < (n : Int) := by omega
            have hr := HR.out.below HB.out
            obtain ⟨ad, u, rfl, hab, hu, hcell⟩ := hr.at_ hlt
            rw [ends_at L hlt] at hu
            obtain rfl := Option.some.inj hu
            obtain ⟨y, hy⟩ : ∃ y, y = (cat (L.take (k + 1))).size := ⟨_, rfl⟩
            rw [← hy] at hcell hgo
            have hle' : ¬ (y : Int) ≤ (c : Int) := by omega
            clear hy hu hr hgo)
          all_goals go_wp2_with fail
          all_goals
            refine (all_any _ _ (by rw [ByteArray.size_extract]; omega)).mono ?_
            rintro e w6 ⟨v, rfl, hown, hl6⟩
            rw [HC.out] at hown ⊢
            simp only [] at hown ⊢
            obtain ⟨A6, cap6, rfl, hs6⟩ := strs_of_own hown
            rw [HT.out]
            have hb6 := HL.out.trans (HB.out.mono HL.out.size)
            have hL6 := hb6.trans (hl6.mono hb6.size)
            have hsame := same_go A6 A T T k cap6 cap w6 HT.out HT.out (by omega) hs6 ((HST.out.below hL6).more hL6.size)
            have HSM := Lib.hid hsame
            have HL6 := Lib.hid hL6
            clear hown hs6 hb6 hL6 hsame HC HL HB HR HOK hl6
            go_wp2_with fail
            refine HSM.out.mono ?_
            rintro e w7 ⟨rfl, hl7⟩
            rw [show sameB T T = true from decide_eq_true rfl]
            have hL7 := HL6.out.trans (hl7.mono HL6.out.size)
            clear HL6 hl7 HSM
            go_wp2
            go_ret
            exact ⟨rfl, hL7⟩

theorem big (A : Option Addr) (n cap : Nat) (cut : Int) (w : World) (hn : 20 < n) : Calls Try.prog 10 #[.slice A n cap, .int .i64 cut] w fun e w' => TrueBelow w e w' := by
  have hd : decide (20 < (n : Int)) = true := by simp; omega
  clear hn
  go_enter Try.func10, Try.ntmps10
  go_wp2_with fail
  refine (awake06_any _).mono ?_
  rintro e w1 ⟨rfl, hl1⟩
  go_wp2_with fail
  refine (awake06_any _).mono ?_
  rintro e w2 ⟨rfl, hl2⟩
  have hl := hl1.trans (hl2.mono hl1.size)
  go_wp2
  go_ret
  exact ⟨rfl, hl⟩

theorem opened {H : Type} {enc : TypeId × Value → H} {W : World} {base : Nat} {v : Value} {d : DataW H} {p : List MemPlace} (hv : Value.okWide Try.prog W .any base 51 v) (h : DataW.Trod enc Try.prog W 0 (fun _ => true) true 51 v d p) :
    ∃ A L cap, v = .slice A (List.length L) cap ∧ StrsAt W W.heap.size A L ∧ (∀ s ∈ L, s.size ≤ maxLen) ∧ L.length ≤ cap ∧ (A = none → L = []) := by
  obtain ⟨a0, len, cap, rfl⟩ := okWide_slice Try.underlying51 hv
  obtain ⟨fuel, hf⟩ := h
  rcases open_strings Try.underlying51 Try.underlying9 (by kernel_rfl) hf with ⟨hcs, hx⟩ | ⟨a, len', cap', ss, hcs, hb, hl, hm, hmm, hx, hi, hz⟩
  · simp [Value.cells] at hcs
    obtain ⟨rfl, rfl, rfl⟩ := hcs
    exact ⟨none, [], 0, rfl, fun k hk => absurd hk (by simp), by simp, by simp, fun _ => rfl⟩
  · simp [Value.cells] at hcs
    obtain ⟨rfl, rfl, rfl⟩ := hcs
    have hml : len ≤ ss.length := by rw [hmm]; split <;> omega
    have hlen : (ss.take len).length = len := by rw [List.length_take]; omega
    refine ⟨some a, ss.take len, cap, by rw [hlen], fun k hk => ?_, fun s hs => hz s (List.mem_of_mem_take hs), by omega, fun h => by cases h⟩
    have h0 := hi 0 (by omega)
    rw [Addr.add_zero'] at h0
    have hsp := cell_spot h0
    have hblk := cell_lt h0
    have hk' := hi k (by omega)
    rw [hsp, Addr.add_lit] at hk'
    refine ⟨a.block, a.off, by rw [← hsp], hblk, ?_⟩
    rw [hk', List.getElem_take, List.getD_eq_getElem?_getD, List.getElem?_eq_getElem (by omega)]
    rfl

theorem walk {H : Type} {enc : TypeId × Value → H} {W : World} {base : Nat} {args : Array Value} {ds : List (DataW H)} {ps : List MemPlace}
    (h : Handed enc Try.prog W base Try.f10.params.toList args ds ps) : Calls Try.prog 10 args W fun e w' => TrueBelow W e w' := by
  rw [Try.params10] at h
  have hval := h.val
  obtain ⟨v0, vs0, d0, ds0, p0, q0, hargs, rfl, rfl, h0, r0⟩ := trodAll_cons h.trod
  obtain ⟨v1, vs1, d1, ds1, p1, q1, rfl, rfl, rfl, h1, r1⟩ := trodAll_cons r0
  obtain ⟨rfl, rfl, rfl⟩ := trodAll_nil r1
  obtain rfl : args = #[v0, v1] := by cases args; simp_all
  obtain ⟨A, L, cap, rfl, hst, hsz, hcap, hnil⟩ := opened (hval 0 51 v0 rfl rfl) h0
  obtain ⟨cut, rfl, rfl, rfl, w1⟩ := open_int Try.underlying3 (hval 1 3 v1 rfl rfl) h1
  by_cases hb : 20 < L.length
  · exact big A L.length cap cut W hb
  · exact row L A cap cut W hst hsz hcap (by omega) hnil


set_option maxRecDepth 100000 in
theorem lifted (os : Os) (started : os.Started) (H : Type) (enc : TypeId × Value → H) :
    ReturnsInHanded {} Try.checked os 10 .any (Rows.frameRowSpec.pre6 enc Try.prog Try.f10 Rows.frameRowRow.domain false) (Rows.frameRowSpec.post enc Try.prog Try.f10 false true false false) := by
  refine returnsInHanded_of_change_sized (C := Try.checked) own started (by kernel_rfl) Try.func10
    (ChangeSpec.witness6 (enc := enc) (C := Try.checked) false ⟨#[], #[.slice none 0 0, .int .i64 0], []⟩ 8 (by kernel_rfl) (by kernel_rfl) (by kernel_rfl) (by kernel_rfl)) ?_
  intro W base args ds gs before hval hW _ hsz _
  refine (walk (handed_of hval hW rfl rfl hsz)).mono fun e W' ⟨he, hb⟩ => ?_
  subst he
  exact ⟨_, rfl, law_post hW rfl laidOut (by kernel_rfl) rfl Try.underlying4 (fun ds' h => by match ds', h with | [_, _], _ => rfl) hb⟩

theorem over : Rows.frameRowRow.holds Try.pinned (OpenSpec.ofChange Rows.frameRowSpec) :=
  OpenClaim.holds_of_wide 10 Try.f10 rfl rfl rfl rfl rfl rfl rfl ⟨rfl, rfl, rfl, rfl, rfl⟩ rfl rfl rfl rfl rfl (by kernel_rfl) Try.func10 (by kernel_rfl)
    (of_decide_eq_true (by kernel_rfl)) (by unfold Func.isWrapper; first | (rw [if_pos (by decide +kernel)]; kernel_rfl) | (rw [if_neg (by decide +kernel)]; exact ⟨rfl, rfl⟩))
    (fun os started H enc _ => lifted os started H enc)

theorem proved : Rows.FrameRowSaid :=
  over
#print axioms proved
end Go.Proofs.Ytiemfdglejenpaa.frameRow
