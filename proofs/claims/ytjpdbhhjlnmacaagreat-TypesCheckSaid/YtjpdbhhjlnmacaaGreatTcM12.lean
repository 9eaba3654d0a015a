/- The document's answers: names. -/
import Derived.Test.YtjpdbhhjlnmacaaGreatTcM4
import Derived.Test.YtjpdbhhjlnmacaaGreatTcM10
import Derived.BigGuardPart
import Derived.Deep.DeepCutAuto
namespace Go.Proofs.YtjpdbhhjlnmacaaGreat
set_option linter.unusedVariables false
open Go.RowKit

set_option maxHeartbeats 4000000 in
set_option maxRecDepth 100000 in
theorem rname_any (s : ByteArray) (w : World) (hs : strok s) : Calls Tryz.prog 83 #[.string s] w fun e w' => e = .returned (.bool (nameB s)) ∧ w = w' := by
  unfold strok at hs
  by_cases h0 : s.size < 1
  · have hn : ¬ IsName s := fun h => by have := h.1; omega
    have i1 : decide ((s.size : Int) < 1) = true := by simp; omega
    rw [nameB_false hn]
    clear hn
    go_enter Tryz.func83, Tryz.ntmps83
    go_wp2
    go_ret
    exact ⟨rfl, rfl⟩
  · have i0 : decide ((s.size : Int) < 1) = false := by simp; omega
    by_cases h30 : 30 < s.size
    · have hn : ¬ IsName s := fun h => by have := h.2.1; omega
      have i1 : decide ((30 : Int) < (s.size : Int)) = true := by simp; omega
      rw [nameB_false hn]
      clear hn
      go_enter Tryz.func83, Tryz.ntmps83
      go_wp2
      go_ret
      exact ⟨rfl, rfl⟩
    · have i1 : decide ((30 : Int) < (s.size : Int)) = false := by simp; omega
      go_enter Tryz.func83, Tryz.ntmps83
      go_wp2_with fail
      go_loopw [3] (fun iv wr => ∃ i : Nat, iv = .int .i64 (i : Int) ∧ i ≤ s.size ∧ Hid (∀ j, j < i → okAt s j) ∧ wr = w) (fun iv _ => s.size - (intOf iv).toNat)
      case atStart => exact ⟨0, rfl, by omega, Lib.hid (fun j hj => absurd hj (by omega)), rfl⟩
      case round =>
        obtain ⟨i, rfl, hi, HR, rfl⟩ := hrel
        by_cases hlt : i < s.size
        · have hil : (i : Int) < (s.size : Int) := by omega
          have hi0 : (0 : Int) ≤ (i : Int) := by omega
          have hlt1 : decide ((i : Int) < (s.size : Int)) = true := by simp; omega
          go_upto_region 7 with fail
          obtain ⟨c, hc⟩ : ∃ c, c = s[i].toNat := ⟨_, rfl⟩
          rw [← hc]
          have hc8 : c < 256 := by rw [hc]; exact UInt8.toNat_lt _
          have hok : okAt s i ↔ (97 ≤ c ∧ c ≤ 122) ∨ (0 < i ∧ (c = 95 ∨ (48 ≤ c ∧ c ≤ 57))) := by
            have e : (s.data.toList.getD i 0).toNat = c := by rw [hc]; simp [List.getD, List.getElem?_eq_getElem (show i < s.data.toList.length from by simpa using hlt)]; rfl
            unfold okAt; rw [e]
          have HOK := Lib.hid hok
          clear hok hc
          by_cases h95 : c = 95
          · subst h95
            go_wp2
            all_goals
              first
              | (go_roundw
                 case rel => exact ⟨i + 1, by go_num, by omega, Lib.hid (fun j hj => by
                   by_cases e : j = i
                   · rw [e]; exact HOK.out.2 (by omega)
                   · exact HR.out j (by omega)), trivial⟩
                 case measure => simp [intOf]; omega)
              | (have hn : ¬ IsName s := fun h => by have := HOK.out.1 (h.2.2 i hlt); omega
                 have HN : Hid (nameB s = false) := Lib.hid (nameB_false hn)
                 go_ret
                 exact ⟨by rw [HN.out]; rfl, rfl⟩)
          · have t95 : ((c : Int) != 95) = true := by rw [bne_iff_ne]; omega
            go_wp2
            all_goals
              first
              | (go_roundw
                 case rel => exact ⟨i + 1, by go_num, by omega, Lib.hid (fun j hj => by
                   by_cases e : j = i
                   · rw [e]; exact HOK.out.2 (by omega)
                   · exact HR.out j (by omega)), trivial⟩
                 case measure => simp [intOf]; omega)
              | (have hn : ¬ IsName s := fun h => by have := HOK.out.1 (h.2.2 i hlt); omega
                 have HN : Hid (nameB s = false) := Lib.hid (nameB_false hn)
                 go_ret
                 exact ⟨by rw [HN.out]; rfl, rfl⟩)
        · have hn : IsName s := ⟨by omega, by omega, fun j hj => HR.out j (by omega)⟩
          have HN : Hid (nameB s = true) := Lib.hid (nameB_true hn)
          clear hn
          go_wp2
          go_ret
          exact ⟨by rw [HN.out]; rfl, rfl⟩

def BoolDrew (b : Bool) (w : World) (e : Ending) (w' : World) : Prop := e = .returned (.bool b) ∧ ∃ k, w' = w.drewN k
set_option maxHeartbeats 4000000 in
set_option maxRecDepth 100000 in
theorem rnames_any (a : Value) (ns : List ByteArray) (n : Int) (w : World) (ha : NamesAt w a ns) (hn : ns.length ≤ 8796093021952) (hs : ∀ s, s ∈ ns → strok s) :
    Calls Tryz.prog 59 #[a, .int .i64 n] w fun e w' => BoolDrew (risingB ns && ((ns.length : Int) == n)) w e w' := by
  obtain ⟨p, c, rfl, hp⟩ := names_in ha
  obtain ⟨L, hL⟩ : ∃ L, L = ns.length := ⟨_, rfl⟩
  rw [← hL] at hn
  rw [← hL]
  have HL := Lib.hid hL; have HP := Lib.hid hp; have HS := Lib.hid hs
  clear hL hp ha hs
  go_enter Tryz.func59, Tryz.ntmps59
  go_wp2_with fail
  go_loopw [5] (fun iv wr => ∃ i k : Nat, iv = .int .i64 (i : Int) ∧ i ≤ L ∧ Hid (∀ j, j < i → RisAt ns j) ∧ Hid (wr = w.drewN k)) (fun iv _ => L - (intOf iv).toNat)
  case atStart => exact ⟨0, 0, rfl, by omega, Lib.hid (fun j hj => absurd hj (by omega)), Lib.hid rfl⟩
  case round =>
    obtain ⟨i, k, rfl, hi, HR, HK⟩ := hrel
    by_cases hlt : i < L
    · have hil : i < ns.length := by rw [← HL.out]; exact hlt
      obtain ⟨pb, po, rfl, hpb, hpc, hc⟩ := HP.out i hil
      obtain ⟨s, hs⟩ : ∃ s, s = ns.getD i ByteArray.empty := ⟨_, rfl⟩
      rw [← hs] at hpc
      rw [← HL.out] at hc
      have e1 : wr.cell? ⟨pb, po + i, none⟩ = some (.string s) := by rw [HK.out]; exact hpc
      have hst : strok s := HS.out s (by rw [hs]; simp [hil])
      have hri : RisAt ns i ↔ nameB s = true ∧ (i = 0 ∨ Op.bytesLess (ns.getD (i - 1) ByteArray.empty).toList s.toList = true) := by unfold RisAt; rw [← hs]
      have HRI := Lib.hid hri
      have HNM := Lib.hid (fun W : World => rname_any s W hst)
      have hk0 : (0 : Int) ≤ (i : Int) := by omega
      have hk1 : (i : Int) < (L : Int) := by omega
      clear hpc hs hst hri
      cases hb : nameB s with
      | false =>
        have HF : Hid (risingB ns = false) := Lib.hid (risingB_false hil (fun h => by have := (HRI.out.1 h).1; rw [hb] at this; cases this))
        simp only [hb] at HNM
        clear hb hil
        go_wp2_with fail
        go_quiet ((go_at_call 83; exact quiet_left (HNM.out _)))
        go_wp2
        go_ret
        exact ⟨by rw [HF.out]; rfl, k + nq, by rw [HK.out, World.drewN_drewN]⟩
      | true =>
        simp only [hb] at HNM
        by_cases h0 : i = 0
        · have HR2 : Hid (∀ j, j < i + 1 → RisAt ns j) := Lib.hid (fun j hj => by obtain rfl : j = i := by omega
                                                                                  exact HRI.out.2 ⟨hb, .inl h0⟩)
          have j0 : decide ((0 : Int) < (i : Int)) = false := by simp; omega
          have j1 : decide (0 < i) = false := by simp; omega
          clear hb hil h0
          go_wp2_with fail
          go_quiet ((go_at_call 83; exact quiet_left (HNM.out _)))
          go_wp2
          exact ⟨⟨i + 1, k + nq, by go_num, by omega, HR2, Lib.hid (by rw [HK.out, World.drewN_drewN])⟩, by simp [intOf]; omega⟩
        · have hil1 : i - 1 < ns.length := by omega
          obtain ⟨pb', po', hpe, _, hpc', _⟩ := HP.out (i - 1) hil1
          injection hpe with hpe
          injection hpe with q1 q2
          subst q1 q2
          obtain ⟨r, hr⟩ : ∃ r, r = ns.getD (i - 1) ByteArray.empty := ⟨_, rfl⟩
          rw [← hr] at hpc' HRI
          have e2 : wr.cell? ⟨pb, po + (i - 1), none⟩ = some (.string r) := by rw [HK.out]; exact hpc'
          have j0 : decide ((0 : Int) < (i : Int)) = true := by simp; omega
          have j1 : decide (0 < i) = true := by simp; omega
          have hw1 : IntKind.i64.wrap ((i : Int) - 1) = ((i - 1 : Nat) : Int) := by rw [IntWalk.i64_in _ (by omega)]; omega
          have hw2 : (0 : Int) ≤ ((i - 1 : Nat) : Int) := by omega
          have hw3 : ((i - 1 : Nat) : Int) < (L : Int) := by omega
          have hw4 : i - 1 < L := by omega
          clear hpc' hr hil1
          cases hl : Op.bytesLess r.toList s.toList with
          | true =>
            have HR2 : Hid (∀ j, j < i + 1 → RisAt ns j) := Lib.hid (fun j hj => by
              by_cases e : j = i
              · rw [e]; exact HRI.out.2 ⟨hb, .inr hl⟩
              · exact HR.out j (by omega))
            clear hb hil
            go_wp2_with fail
            go_quiet ((go_at_call 83; exact quiet_left (HNM.out _)))
            go_wp2
            exact ⟨⟨i + 1, k + nq, by go_num, by omega, HR2, Lib.hid (by rw [HK.out, World.drewN_drewN])⟩, by simp [intOf]; omega⟩
          | false =>
            have HF : Hid (risingB ns = false) := Lib.hid (risingB_false hil (fun h => by
              rcases (HRI.out.1 h).2 with h' | h'
              · exact h0 h'
              · rw [hl] at h'; cases h'))
            clear hb hil
            go_wp2_with fail
            go_quiet ((go_at_call 83; exact quiet_left (HNM.out _)))
            go_wp2
            go_ret
            exact ⟨by rw [HF.out]; rfl, k + nq, by rw [HK.out, World.drewN_drewN]⟩
    · have HT : Hid (risingB ns = true) := Lib.hid (risingB_true (fun j hj => HR.out j (by rw [← HL.out] at hj; omega)))
      go_wp2
      go_ret
      exact ⟨by rw [HT.out]; rfl, k, HK.out⟩
end Go.Proofs.YtjpdbhhjlnmacaaGreat
