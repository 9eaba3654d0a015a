/- How two values of one kind stand to one another, but for their items. -/
import Derived.Test.YtemhinagajfemaaValOrder2
namespace Go.Proofs.Ytemhinagajfemaa
set_option linter.unusedVariables false
open Go.RowKit

def Val.row (v u : Val) : Int :=
  if v.k = 1 ∨ v.k = 2 then sgnI v.n u.n else if v.k = 3 then ford v.f u.f else if v.k = 4 then Lib.compareBytes v.s.data.toList u.s.data.toList else if v.k = 6 then ncmp v.ns u.ns else 0
def RowOut (c : Int) (w : World) (e : Ending) (w' : World) : Prop := e = .returned (.int .i64 c) ∧ ∃ n, w' = w.drewN n

set_option maxHeartbeats 4000000 in
set_option maxRecDepth 100000 in
theorem row_any (v u : Val) (b o b' o' : Nat) (w : World) (hv : PVal w b o v) (hu : PVal w b' o' u) (hk : 1 ≤ v.k ∧ v.k ≤ 6) :
    Calls Try.prog 119 #[.pointer (some ⟨b, o, none⟩), .pointer (some ⟨b', o', none⟩)] w fun e w' => RowOut (v.row u) w e w' := by
  have c0 := hv.c0
  obtain ⟨K, hK⟩ : ∃ K, K = v.k := ⟨_, rfl⟩
  have hr : v.row u = if K = 1 ∨ K = 2 then sgnI v.n u.n else if K = 3 then ford v.f u.f else if K = 4 then Lib.compareBytes v.s.data.toList u.s.data.toList else if K = 6 then ncmp v.ns u.ns else 0 := by rw [hK]; rfl
  rw [← hK] at c0 hk
  have hcases : K = 1 ∨ K = 2 ∨ K = 3 ∨ K = 4 ∨ K = 5 ∨ K = 6 := by omega
  clear hK hk
  rcases hcases with rfl | rfl | rfl | rfl | rfl | rfl
  · have c1 := hv.c1; have d1 := hu.c1
    have HR : Hid (v.row u = sgnI v.n u.n) := Lib.hid (by rw [hr]; rfl)
    clear hr hv hu
    go_enter Try.func119, Try.ntmps119
    go_wp2
    go_quiet ((go_at_call 126; exact quiet_left (cmp_int64 _ _ _)))
    go_wp2
    go_ret
    exact ⟨by rw [HR.out]; rfl, nq, rfl⟩
  · have c1 := hv.c1; have d1 := hu.c1
    have HR : Hid (v.row u = sgnI v.n u.n) := Lib.hid (by rw [hr]; rfl)
    clear hr hv hu
    go_enter Try.func119, Try.ntmps119
    go_wp2
    go_quiet ((go_at_call 126; exact quiet_left (cmp_int64 _ _ _)))
    go_wp2
    go_ret
    exact ⟨by rw [HR.out]; rfl, nq, rfl⟩
  · have c2 := hv.c2; have d2 := hu.c2
    have h1 := hv.in.ok.2.2.1; have h2 := hu.in.ok.2.2.1
    have HR : Hid (v.row u = ford v.f u.f) := Lib.hid (by rw [hr]; rfl)
    clear hr hv hu
    have HF := fun W : World => forder_any v.f u.f W h1 h2
    have HF' := Lib.hid HF
    clear HF h1 h2
    go_enter Try.func119, Try.ntmps119
    go_wp2
    go_quiet ((go_at_call 123; exact quiet_left (HF'.out _)))
    go_wp2
    go_ret
    exact ⟨by rw [HR.out]; rfl, nq, rfl⟩
  · have c3 := hv.c3; have d3 := hu.c3
    have HR : Hid (v.row u = Lib.compareBytes v.s.data.toList u.s.data.toList) := Lib.hid (by rw [hr]; rfl)
    clear hr hv hu
    go_enter Try.func119, Try.ntmps119
    go_wp2
    go_quiet ((go_at_call 127; exact quiet_left (strcmp_any _ _ _)))
    go_wp2
    go_ret
    exact ⟨by rw [HR.out]; rfl, nq, rfl⟩
  · have HR : Hid (v.row u = 0) := Lib.hid (by rw [hr]; rfl)
    clear hr hv hu
    go_enter Try.func119, Try.ntmps119
    go_wp2
    go_ret
    exact ⟨by rw [HR.out]; rfl, 0, rfl⟩
  · have c4 := hv.c4; have d4 := hu.c4
    have n1 := hv.in.ok.2.2.2.2.1; have n2 := hu.in.ok.2.2.2.2.1
    have HR : Hid (v.row u = ncmp v.ns u.ns) := Lib.hid (by rw [hr]; rfl)
    have HN := fun (k : Nat) => ncmp_any _ _ v.ns u.ns (w.drewN k) ((NamesAt.of hv.in).drewN k) ((NamesAt.of hu.in).drewN k) n1 n2
    obtain ⟨p4, q4, e4⟩ := hv.in.nslice
    obtain ⟨p5, q5, e5⟩ := hu.in.nslice
    rw [e4] at c4 HN
    rw [e5] at d4 HN
    have HN' := Lib.hid HN
    clear hr hv hu HN n1 n2 e4 e5
    go_enter Try.func119, Try.ntmps119
    go_wp2
    go_quiet ((go_at_call 128; exact quiet_left (HN'.out _)))
    go_wp2
    go_ret
    exact ⟨by rw [HR.out]; rfl, nq, rfl⟩
end Go.Proofs.Ytemhinagajfemaa
