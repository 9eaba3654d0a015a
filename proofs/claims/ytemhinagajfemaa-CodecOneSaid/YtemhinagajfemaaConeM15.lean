/- value.Canon of any value: one that is the same but for its floats, in new memory. -/
import Derived.Test.YtemhinagajfemaaConeM11
import Derived.Test.YtemhinagajfemaaConeM12
import Derived.Test.YtemhinagajfemaaConeM14
namespace Go.Proofs.Ytemhinagajfemaa
set_option linter.unusedVariables false
open Go.RowKit

theorem str_facts : (Try.prog.info? 9).map (fun i => (i.zero, i.size, i.bytes)) = some (some (.string ByteArray.empty), 1, 16) := by kernel_rfl

/-- What an owned row of names is: where it lies. -/
theorem lies_of_own {w : World} {base : Nat} {e : TypeId} {v : Value} {ns : List ByteArray} (h : w.ownsRow base e 1 v ns.length (ns.map Value.string)) :
    ∃ s : Sl, v = s.val ns.length ∧ s.lies w 1 ns.length (fun i => [.string (ns.getD i ByteArray.empty)]) ∧ s.sep (fun b => base ≤ b) ns.length := by
  rcases h.2 with ⟨rfl, h0⟩ | ⟨g, cap, cur, rfl, hb, hg, hnc, hcm, hcs, htake⟩
  · exact ⟨.no, by simp [Sl.val], h0, trivial⟩
  · refine ⟨.at_ g 0 cap, rfl, ⟨hnc, by unfold maxLen at hcm; exact hcm, fun i hi j hj => ⟨?_, ?_⟩⟩, .inr hb⟩
    · have hc := h.cells (g := g) rfl i (.string (ns.getD i ByteArray.empty)) (by simp [hi])
      obtain rfl : j = 0 := by omega
      rw [Addr.add_lit] at hc
      simpa using hc
    · rcases Nat.lt_or_ge g w.heap.size with h' | h'
      · exact h'
      · simp [Array.getElem?_eq_none h'] at hg

def Cloned (ns : List ByteArray) (w : World) (e : Ending) (w' : World) : Prop :=
  ∃ s : Sl, e = .returned (s.val ns.length) ∧ s.lies w' 1 ns.length (fun i => [.string (ns.getD i ByteArray.empty)]) ∧ s.sep (fun b => w.heap.size ≤ b) ns.length ∧ Below w.heap.size w w'

set_option maxHeartbeats 1000000 in
set_option maxRecDepth 100000 in
theorem clone_at (ad : Addr) (cap : Nat) (ns : List ByteArray) (w : World) (hrd : Reads w w.heap.size 1 (some ad) ns.length (ns.map Value.string)) (hl : ns.length ≤ 8796093021952) :
    Calls Try.prog 98 #[.slice (some ad) ns.length cap] w fun e w' => Cloned ns w e w' := by
  obtain ⟨i0, hi, hz0, hz1, hz2⟩ := info_parts str_facts
  have heq := fun (W : World) (a : Option Addr) (n c : Nat) => Lib.run_eql_slice_nil (P := Try.prog) W 44 9 a n c 0 0 Try.underlying44
  obtain ⟨L, hL⟩ : ∃ L, L = ns.length := ⟨_, rfl⟩
  rw [← hL] at hl hrd
  have HL := Lib.hid hL
  rw [← hL]
  have hown : (w.alloc (.cells #[] 9)).ownsRow w.heap.size 9 1 (.slice (some ⟨w.heap.size, 0, none⟩) 0 0) 0 [] :=
    ⟨rfl, .inr ⟨w.heap.size, 0, #[], rfl, Nat.le_refl _, heap_alloc_new w _, Nat.le_refl _, Nat.zero_le _, rfl, rfl⟩⟩
  have hr : Reads (w.alloc (.cells #[] 9)) w.heap.size 1 (some ad) L (ns.map Value.string) := Reads.alloc hrd (Nat.le_refl _) _
  have hone : ∀ u ∈ ns.map Value.string, u.oneCell' = true := fun u hu => by
    obtain ⟨s, _, rfl⟩ := List.mem_map.1 hu
    rfl
  have HR := Lib.hid hr; have HONE := Lib.hid hone
  clear hL hr hone hrd
  go_enter Try.func98, Try.ntmps98
  go_wp2_with (at_builtin; refine wpList_append_any _ rfl _ _ 44 rfl w.heap.size 9 i0 (.string ByteArray.empty) 1 16 Try.underlying44 hi hz0 hz1 hz2 rfl (by decide) _ 0 [] rfl hown w.heap.size _ L _ (ns.map Value.string) rfl HR.out HONE.out ?c1 ?c2 ?c3 ?_)
  case c1 => unfold maxLen; omega
  case c2 => omega
  case c3 => simp
  intro v' w2 hown' hgrow _
  have hB := ((Below.refl w.heap.size w).alloc (Nat.le_refl _) (.cells #[] 9)).grown hgrow (by simp) (fun k hk => by simp [Value.ownBlock] at hk; omega)
  rw [HL.out] at hown'
  obtain ⟨s, rfl, hlies, hsep⟩ := lies_of_own hown'
  have HLI := Lib.hid hlies; have HB := Lib.hid hB; have HSEP := Lib.hid hsep
  clear hown' hgrow hB hlies hown hsep
  go_wp2
  go_ret
  exact ⟨s, rfl, HLI.out, HSEP.out, HB.out⟩
theorem clone_nil (w : World) : Calls Try.prog 98 #[.slice none 0 0] w fun e w' => Cloned [] w e w' := by
  have heq := fun (W : World) (a : Option Addr) (n c : Nat) => Lib.run_eql_slice_nil (P := Try.prog) W 44 9 a n c 0 0 Try.underlying44
  go_enter Try.func98, Try.ntmps98
  go_wp2
  go_ret
  exact ⟨.no, rfl, rfl, trivial, Below.refl _ _⟩
theorem names_reads {w : World} {ad : Addr} {n c : Nat} {ns : List ByteArray} (h : NamesAt w (.slice (some ad) n c) ns) : n = ns.length ∧ Reads w w.heap.size 1 (some ad) ns.length (ns.map Value.string) := by
  rcases h with ⟨p, h1, rfl⟩ | ⟨b, o, cap, h1, h2, h3, h5, h4⟩
  · injection h1 with _ e _
    exact ⟨e, ⟨by simp, fun hn => absurd hn (by simp)⟩⟩
  · injection h1 with e1 e2 e3
    injection e1 with e1
    subst e1
    refine ⟨e2, ⟨by simp, fun hn => ⟨_, rfl, by show b < _; omega, fun j u hu => ?_⟩⟩⟩
    have hj : j < ns.length := by
      rcases Nat.lt_or_ge j ns.length with h' | h'
      · exact h'
      · rw [List.getElem?_eq_none (by simpa using h')] at hu; cases hu
    rw [Addr.add_lit, h4 j hj]
    simp [hj] at hu ⊢
    exact hu
theorem clone_any (a : Value) (ns : List ByteArray) (w : World) (h : NamesAt w a ns) (hl : ns.length ≤ 8796093021952) : Calls Try.prog 98 #[a] w fun e w' => Cloned ns w e w' := by
  have hs : ∃ p c, a = .slice p ns.length c ∧ (p = none → ns = [] ∧ c = 0) := by
    rcases h with ⟨p, rfl, rfl⟩ | ⟨b, o, cap, rfl, h2, h3, h5, h4⟩
    · exact ⟨p, 0, rfl, fun _ => ⟨rfl, rfl⟩⟩
    · exact ⟨_, _, rfl, fun h => by cases h⟩
  obtain ⟨p, c, rfl, hn⟩ := hs
  cases p with
  | none =>
    obtain ⟨rfl, rfl⟩ := hn rfl
    exact clone_nil w
  | some ad => exact clone_at ad c ns w (names_reads h).2 hl
end Go.Proofs.Ytemhinagajfemaa
