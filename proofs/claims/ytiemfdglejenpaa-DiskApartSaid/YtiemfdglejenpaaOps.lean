/- The scripts of layer 17's statements: how a slice of calls lies in memory; 'long' answers, and changes nothing. -/
import Derived.Test.YtiemfdglejenpaaRow
import Derived.Test.YtiemfdglejenpaaDiskAwake
namespace Go.Proofs.Ytiemfdglejenpaa
open Go.RowKit

structure OpV where
  kind : Int
  i : Int
  n : Int
  s : ByteArray

/-- The calls L lie at A. -/
def OpsAt (w : World) (B : Nat) (A : Option Addr) (L : List OpV) : Prop :=
  ∀ (k : Nat) (h : k < L.length), ∃ b off, A = some ⟨b, off, none⟩ ∧ b < B ∧ w.cell? ⟨b, off + k * 4, none⟩ = some (.int .i64 L[k].kind) ∧ w.cell? ⟨b, off + k * 4 + 1, none⟩ = some (.int .i64 L[k].i) ∧
    w.cell? ⟨b, off + k * 4 + 2, none⟩ = some (.int .i64 L[k].n) ∧ w.cell? ⟨b, off + k * 4 + 3, none⟩ = some (.string L[k].s) ∧ L[k].s.size ≤ 140737488355328

theorem OpsAt.keep {w w' : World} {B : Nat} {A : Option Addr} {L : List OpV} (h : OpsAt w B A L) (hb : ∀ p : Addr, p.block < B → w'.cell? p = w.cell? p) : OpsAt w' B A L := fun k hk => by
  obtain ⟨b, off, rfl, hB, c0, c1, c2, c3, hs⟩ := h k hk
  exact ⟨b, off, rfl, hB, by rw [hb _ hB]; exact c0, by rw [hb _ hB]; exact c1, by rw [hb _ hB]; exact c2, by rw [hb _ hB]; exact c3, hs⟩
theorem OpsAt.below {w w' : World} {B : Nat} {A : Option Addr} {L : List OpV} (h : OpsAt w B A L) (hb : Below B w w') : OpsAt w' B A L := h.keep fun _ hp => hb.cell hp
theorem OpsAt.more {w : World} {B B' : Nat} {A : Option Addr} {L : List OpV} (h : OpsAt w B A L) (hB : B ≤ B') : OpsAt w B' A L := fun k hk => by
  obtain ⟨b, off, e, hb, r⟩ := h k hk
  exact ⟨b, off, e, by omega, r⟩

/-- It answered true or false; what was there is as it was. -/
def BoolBelow (w : World) (e : Ending) (w' : World) : Prop := ∃ r, e = .returned (.bool r) ∧ Below w.heap.size w w'

set_option maxHeartbeats 400000 in
theorem long_any (A : Option Addr) (L : List OpV) (cap : Nat) (w : World) (h : OpsAt w w.heap.size A L) (hL : L.length ≤ 140737488351232) :
    Calls Try.prog 13 #[.slice A L.length cap] w fun e w' => BoolBelow w e w' := by
  obtain ⟨n, hn⟩ : ∃ n, n = L.length := ⟨_, rfl⟩
  have HN := Lib.hid hn
  rw [← hn]
  have hnn : n ≤ 140737488351232 := by omega
  clear hL hn
  go_enter Try.func13, Try.ntmps13
  go_wp2
  go_loopw [3, 8] (fun t i wr => ∃ (k : Nat) (z : Int), k ≤ n ∧ 0 ≤ z ∧ z ≤ 65536 ∧ i = .int .i64 k ∧ t = .int .i64 z ∧ Below w.heap.size w wr) (fun _ i _ => n - (intOf i).toNat)
  case atStart => exact ⟨0, 0, by omega, by omega, by omega, rfl, rfl, Below.refl _ _⟩
  case round =>
    obtain ⟨k, z, hk, hz0, hz1, rfl, rfl, hb⟩ := hrel
    by_cases hlt : k < n
    · obtain ⟨b, off, rfl, hB, c0, c1, c2, c3, hs⟩ := h k (by rw [HN.out] at hlt; exact hlt)
      rw [← hb.cell (p := ⟨b, off + k * 4, none⟩) hB] at c0
      rw [← hb.cell (p := ⟨b, off + k * 4 + 1, none⟩) hB] at c1
      rw [← hb.cell (p := ⟨b, off + k * 4 + 2, none⟩) hB] at c2
      rw [← hb.cell (p := ⟨b, off + k * 4 + 3, none⟩) hB] at c3
      go_wp2
      · go_ret
        exact ⟨_, rfl, hb.alloc hb.size _⟩
      · go_ret
        exact ⟨_, rfl, hb.alloc hb.size _⟩
      · have hz : 0 ≤ (L[k].s.size : Int) := by omega
        go_roundw
        case rel => exact ⟨k + 1, _, by omega, by split <;> omega, by assumption, by go_num, rfl, hb.alloc hb.size _⟩
        case measure => simp [intOf]; omega
    · go_wp2
      go_ret
      exact ⟨_, rfl, hb⟩
end Go.Proofs.Ytiemfdglejenpaa
