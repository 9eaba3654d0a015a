/- (*checker).own of any expression with the types of its kids (printed by wip/gen_cown.py). -/
import Derived.Test.YtjpdbhhjlnmacaaGreatTcM23
import Derived.Test.YtjpdbhhjlnmacaaGreatTcM24
import Derived.StillTailTactics
namespace Go.Proofs.YtjpdbhhjlnmacaaGreat
set_option linter.unusedVariables false
open Go.RowKit

/-- A type, or an error. -/
def GaveE (r : Except Int Ty) (P : Nat → Prop) (w : World) (e : Ending) (w' : World) : Prop :=
  Below w.heap.size w w' ∧ match r with
  | .ok v => ∃ u : Ty, e = .returned u.agg ∧ u.erase = v ∧ u.In w' ∧ u.Sep (fun b => P b ∨ w.heap.size ≤ b)
  | .error k => e = gave k
def toE (o : Option Ty) : Except Int Ty := match o with | some v => .ok v | none => .error 6
def foldJ : Ty → List Ty → Option Ty
  | t, [] => some t
  | t, u :: us => (t.joinT u).bind fun v => foldJ v us
abbrev nthT (ks : List Ty) (i : Nat) : Ty := ks.getD i Ty.zero
/-- An expression's type by its kids'. -/
def ownP (x : Exp) (ks : List Ty) (vs : List Var) : Except Int Ty :=
  if x.k = 1 then .ok (Ty.of x.v.k)
  else if x.k = 2 then (match vs[(nameIdx (vs.map Var.n) x.s).toNat]? with
    | some v => if nameIdx (vs.map Var.n) x.s < 0 then .error 11 else .ok v.t.erase
    | none => .error 11)
  else if x.k = 15 then if (nthT ks 0).k = 1 then toE ((nthT ks 1).joinT (nthT ks 2)) else .error 6
  else if x.k = 16 then (match foldJ (Ty.of 7) ks with | some t => .ok (.mk 5 .no [] .no [t.erase]) | none => .error 6)
  else if x.k = 17 then .ok (.mk 6 .no x.ns .no (ks.map Ty.erase))
  else if x.k = 18 then if (nthT ks 0).k = 6 then (if nameIdx (nthT ks 0).ns x.s < 0 then .error 10 else .ok (nthT (nthT ks 0).xs (nameIdx (nthT ks 0).ns x.s).toNat).erase) else .error 6
  else if x.k = 19 then if (nthT ks 0).k = 5 ∧ (nthT ks 1).k = 2 ∧ (nthT (nthT ks 0).xs 0).k ≠ 7 then .ok (nthT (nthT ks 0).xs 0).erase else .error 6
  else if ks.length = 1 then toE (unaryP x.k (nthT ks 0))
  else toE (binaryP x.k (nthT ks 0) (nthT ks 1))
/-- What it works on. -/
structure OwnIn (C b o : Nat) (x : Exp) (K : Ty) (vp : Option Addr) (vc : Nat) (vs : List Var) (P : Nat → Prop) (w : World) : Prop where
  hP : ∀ b, P b → b < w.heap.size
  hx : PExp w b o x
  hc : Blk w C 64 #[.slice vp vs.length vc]
  hv : VarsIn w vp vc vs
  hvs : ∀ v, v ∈ vs → v.t.Sep P
  hK : K.In w
  hKS : K.Sep P
  hKR : ∀ k, k ∈ K.xs → k.rightB 1 = true
theorem OwnIn.below {C b o : Nat} {x : Exp} {K : Ty} {vp : Option Addr} {vc : Nat} {vs : List Var} {P : Nat → Prop} {w w' : World} (h : OwnIn C b o x K vp vc vs P w) (hb : Below w.heap.size w w') : OwnIn C b o x K vp vc vs P w' :=
  ⟨fun b hb' => Nat.lt_of_lt_of_le (h.hP b hb') hb.size, h.hx.below hb, h.hc.below hb h.hc.lt, h.hv.below hb, h.hvs, h.hK.below hb, h.hKS, h.hKR⟩
/-- Where it begins: room for the expression's address, and for the result. -/
structure C0 (w W : World) (b o : Nat) : Prop where
  below : Below w.heap.size w W
  bp : Blk W w.heap.size 66 #[.pointer (some ⟨b, o, none⟩)]
  br : Blk W (w.heap.size + 1) 36 #[.int .i64 0, .slice none 0 0, .slice none 0 0]
  size : W.heap.size = w.heap.size + 1 + 1
theorem c0_start (w : World) (b o : Nat) : C0 w ((w.alloc (.cells #[.pointer (some ⟨b, o, none⟩)] 66)).alloc (.cells #[.int .i64 0, .slice none 0 0, .slice none 0 0] 36)) b o := by
  refine ⟨((Below.refl _ w).alloc (Nat.le_refl _) _).alloc (by simp) _, (Blk.new w 66 _).alloc _, ?_, by simp⟩
  have := Blk.new (w.alloc (.cells #[.pointer (some ⟨b, o, none⟩)] 66)) 36 #[.int .i64 0, .slice none 0 0, .slice none 0 0]
  rw [show (w.alloc (.cells #[.pointer (some ⟨b, o, none⟩)] 66)).heap.size = w.heap.size + 1 from by simp] at this
  exact this
/-- A type stored as the result. -/
theorem res_storedE {w W WF : World} {u : Ty} {P : Nat → Prop} {R : Nat} {k4 k5 : Option Addr} {l4 l5 : Nat} {x0 x1 x2 : Value} (hA : w.heap.size ≤ R) (hP : ∀ b, P b → b < w.heap.size) (hB : Below w.heap.size w W) (hr : Blk W R 36 #[x0, x1, x2]) (hi : u.In W) (hs : u.Sep (fun b => P b ∨ R + 1 ≤ b))
    (f4 : u.na.val u.ns.length = .slice k4 u.ns.length l4) (f5 : u.xa.val u.xs.length = .slice k5 u.xs.length l5) (hWF : WF = ((W.setCell ⟨R, 0, none⟩ (.int .i64 u.k)).setCell ⟨R, 1, none⟩ (.slice k4 u.ns.length l4)).setCell ⟨R, 2, none⟩ (.slice k5 u.xs.length l5)) :
    Blk WF R 36 #[.int .i64 u.k, .slice k4 u.ns.length l4, .slice k5 u.xs.length l5] ∧ GaveE (.ok u.erase) P w (.returned (.agg #[.int .i64 u.k, .slice k4 u.ns.length l4, .slice k5 u.xs.length l5])) WF := by
  refine ⟨by rw [hWF]; exact blk3_set hr _ _ _, by rw [hWF]; exact below3_set hB hA _ _ _, u, by unfold Ty.agg; rw [f4, f5], rfl, ?_, hs.mono (fun b hb => by rcases hb with h | h; exact .inl h; exact .inr (by omega))⟩
  refine hi.carryS hs (fun b o hb hlt => ?_) (by rw [hWF]; simp [World.setCell])
  have hne : ∀ k, (⟨R, k, none⟩ : Addr) ≠ ⟨b, o, none⟩ := fun k e => by
    injection e with e _
    rcases hb with hb | hb
    · have := hP b hb; omega
    · omega
  rw [hWF, World.cell?_setCell_other _ _ _ _ (hne 2), World.cell?_setCell_other _ _ _ _ (hne 1), World.cell?_setCell_other _ _ _ _ (hne 0)]
theorem nth_at {K : Ty} {w : World} {p : Option Addr} {c i : Nat} (h : ∀ i (hi : i < K.xs.length), ∃ b o, p = some ⟨b, o, none⟩ ∧ PTy w b (o + i * 3) (K.xs[i]'hi) ∧ K.xs.length ≤ c) (hi : i < K.xs.length) : ∃ b o, p = some ⟨b, o, none⟩ ∧ PTy w b (o + i * 3) (nthT K.xs i) := by
  obtain ⟨b, o, e, hp, _⟩ := h i hi
  exact ⟨b, o, e, by simpa [nthT, hi] using hp⟩
theorem nth_mem {ks : List Ty} {i : Nat} (h : i < ks.length) : nthT ks i ∈ ks := by simp [nthT, h]
theorem Ty.In.kid {w : World} {v x : Ty} (h : v.In w) (hx : x ∈ v.xs) : x.In w := ((Ty.in_iff w v).1 h).2.2.2 x hx
theorem Ty.Sep.kid {S : Nat → Prop} {v x : Ty} (h : v.Sep S) (hx : x ∈ v.xs) : x.Sep S := ((Ty.sep_iff S v).1 h).2.2 x hx
theorem one1_any (t : Ty) (x : Int) (W W2 : World) (hW2 : W2 = W.alloc (.cells #[.int .i64 x] 3)) (ht : t.In W) :
    Calls Tryz.prog 76 #[t.agg, .slice (some ⟨W.heap.size, 0, none⟩) 1 1] W2 fun e w' => BoolBelow (decide (t.k = x)) W2 e w' := by
  have h := one_any t [x] W.heap.size 1 W2 (by rw [hW2]; exact ht.below ((Below.refl _ _).alloc (Nat.le_refl _) _)) (by rw [hW2]; simp) (by rw [hW2]; exact ints_of_blk (l := [x]) (Blk.new W 3 _)) (by simp) (by simp)
  refine h.mono (fun e w' h => ?_)
  have e1 : decide (t.k ∈ [x]) = decide (t.k = x) := by simp
  rw [e1] at h
  exact h

set_option maxHeartbeats 8000000 in
set_option maxRecDepth 100000 in
theorem cown_const (C b o : Nat) (x : Exp) (K : Ty) (vp : Option Addr) (vc : Nat) (vs : List Var) (P : Nat → Prop) (w : World) (h : OwnIn C b o x K vp vc vs P w) (hk : x.k = 1) :
    Calls Tryz.prog 52 #[.pointer (some ⟨C, 0, none⟩), .pointer (some ⟨b, o, none⟩), K.xa.val K.xs.length] w fun e w' => GaveE (ownP x K.xs vs) P w e w' := by
  obtain ⟨W, hW⟩ : ∃ W, W = (w.alloc (.cells #[.pointer (some ⟨b, o, none⟩)] 66)).alloc (.cells #[.int .i64 0, .slice none 0 0, .slice none 0 0] 36) := ⟨_, rfl⟩
  have hj : C0 w W b o := by rw [hW]; exact c0_start w b o
  have hIW := h.below hj.below
  obtain ⟨kp, kc, ek, hkat⟩ := titems_at hIW.hK
  rw [ek]
  obtain ⟨A, hA⟩ : ∃ A, A = w.heap.size := ⟨_, rfl⟩
  have bp := hj.bp; have br := hj.br; have hWS := hj.size
  rw [← hA] at bp br hWS
  have p0 := bp.cell 0
  simp at p0
  have HW := Lib.hid hW; have HA := Lib.hid hA; have HBW := Lib.hid hj.below; have BP := Lib.hid bp; have BR := Lib.hid br; have HI := Lib.hid hIW; have HP := Lib.hid h.hP; have HWS := Lib.hid hWS; have HKAT := Lib.hid hkat
  have x0 := hIW.hx.c0
  have x2 := hIW.hx.c2
  have hki := hIW.hx.in.val.ok.1
  obtain ⟨R, hR⟩ : ∃ R, R = ownP x K.xs vs := ⟨_, rfl⟩
  rw [← hR]
  have HR : Hid (R = .ok (Ty.of x.v.k).erase) := Lib.hid (by rw [hR]; unfold ownP; rw [if_pos hk]; rfl)
  obtain ⟨k, hkk⟩ : ∃ k, k = x.v.k := ⟨_, rfl⟩
  rw [← hkk] at x2 hki HR
  rw [hk] at x0
  have HOF := Lib.hid (fun W => of_any k W)
  have HKI := Lib.hid hki
  clear hW hA hj hIW hkat hR hk ek hkk bp br hWS h hki
  go_enter Tryz.func52, Tryz.ntmps52
  go_upto_region 1 with fail
  rw [← HW.out, ← HA.out]
  go_wp2_with fail
  refine (HOF.out _).mono ?_
  rintro e w5 ⟨rfl, hb5⟩
  have hbr := BR.out.below (hb5) BR.out.lt
  have r0 := hbr.cell 0; have r1 := hbr.cell 1; have r2 := hbr.cell 2
  have s0 := hbr.frozen 0; have s1 := hbr.frozen 1; have s2 := hbr.frozen 2
  simp at r0 r1 r2
  obtain ⟨WF, hWF⟩ : ∃ WF, WF = ((w5.setCell ⟨A + 1, 0, none⟩ (.int .i64 k)).setCell ⟨A + 1, 1, none⟩ (.slice none 0 0)).setCell ⟨A + 1, 2, none⟩ (.slice none 0 0) := ⟨_, rfl⟩
  have hres := res_storedE (u := Ty.of k) (k4 := none) (k5 := none) (l4 := 0) (l5 := 0) (R := A + 1) (by rw [HA.out]; omega) HP.out (HBW.out.trans ((hb5).mono HBW.out.size)) hbr (of_in k HKI.out _) (of_sep _ _) (rfl) (rfl) hWF
  have HRES := Lib.hid hres; have HWF := Lib.hid hWF
  clear hres hWF hbr hb5
  go_wp2_with fail
  rw [← HWF.out]
  obtain ⟨hF, hJ⟩ := HRES.out
  have f0 := hF.cell 0; have f1 := hF.cell 1; have f2 := hF.cell 2
  simp [Ty.of, Ty.k, Ty.ns, Ty.xs] at f0 f1 f2
  refine bodyPost_ret (v := .agg #[.int .i64 k, .slice none 0 0, .slice none 0 0]) (by simp [results, Tryz.results52, go_sem, f0, f1, f2]) rfl ?_
  rw [HR.out]
  exact hJ

set_option maxHeartbeats 8000000 in
set_option maxRecDepth 100000 in
theorem cown_var (C b o : Nat) (x : Exp) (K : Ty) (vp : Option Addr) (vc : Nat) (vs : List Var) (P : Nat → Prop) (w : World) (h : OwnIn C b o x K vp vc vs P w) (hk : x.k = 2) :
    Calls Tryz.prog 52 #[.pointer (some ⟨C, 0, none⟩), .pointer (some ⟨b, o, none⟩), K.xa.val K.xs.length] w fun e w' => GaveE (ownP x K.xs vs) P w e w' := by
  obtain ⟨W, hW⟩ : ∃ W, W = (w.alloc (.cells #[.pointer (some ⟨b, o, none⟩)] 66)).alloc (.cells #[.int .i64 0, .slice none 0 0, .slice none 0 0] 36) := ⟨_, rfl⟩
  have hj : C0 w W b o := by rw [hW]; exact c0_start w b o
  have hIW := h.below hj.below
  obtain ⟨kp, kc, ek, hkat⟩ := titems_at hIW.hK
  rw [ek]
  obtain ⟨A, hA⟩ : ∃ A, A = w.heap.size := ⟨_, rfl⟩
  have bp := hj.bp; have br := hj.br; have hWS := hj.size
  rw [← hA] at bp br hWS
  have p0 := bp.cell 0
  simp at p0
  have HW := Lib.hid hW; have HA := Lib.hid hA; have HBW := Lib.hid hj.below; have BP := Lib.hid bp; have BR := Lib.hid br; have HI := Lib.hid hIW; have HP := Lib.hid h.hP; have HWS := Lib.hid hWS; have HKAT := Lib.hid hkat
  have x0 := hIW.hx.c0
  have x1 := hIW.hx.c1
  have xl := hIW.hx.2.1
  rw [hk] at x0
  have d0 := hIW.hc.cell 0
  simp at d0
  obtain ⟨R, hR⟩ : ∃ R, R = ownP x K.xs vs := ⟨_, rfl⟩
  rw [← hR]
  have hR2 : R = (match vs[(nameIdx (vs.map Var.n) x.s).toNat]? with
    | some v => if nameIdx (vs.map Var.n) x.s < 0 then .error 11 else .ok v.t.erase
    | none => .error 11) := by rw [hR]; unfold ownP; rw [if_neg (by omega), if_pos hk]
  have hspec := nameIdx_spec (vs.map Var.n) x.s
  have hidx := varidx_any vs vp vc A b o x.s W hIW.hv bp x1 xl
  obtain ⟨n, hn⟩ : ∃ n, n = vs.length := ⟨_, rfl⟩
  have hHV := Lib.hid hIW.hv; have HVS := Lib.hid hIW.hvs; have HC := Lib.hid hIW.hc
  have hnl : n ≤ 879609302195 := by rw [hn]; exact hIW.hv.len
  have hcap : n ≤ vc := by rw [hn]; exact hIW.hv.cap
  obtain ⟨J, hJ⟩ : ∃ J, J = nameIdx (vs.map Var.n) x.s := ⟨_, rfl⟩
  rw [← hn, ← hJ] at hidx
  rw [← hJ] at hspec hR2
  rw [← hn] at d0 HC
  have HIDX := Lib.hid hidx; have HN := Lib.hid hn
  have HR2 := Lib.hid hR2
  have HSP := Lib.hid hspec
  clear hW hA hj hIW hkat hR hk ek bp br hWS h hidx hR2 hspec hn x1 xl hJ
  go_enter Tryz.func52, Tryz.ntmps52
  go_upto_region 1 with fail
  rw [← HW.out, ← HA.out]
  go_wp2_with fail
  refine HIDX.out.mono ?_
  rintro e w1 ⟨rfl, hb1⟩
  have B1 := Lib.hid hb1
  clear hb1 d0
  rcases HSP.out with ⟨i, hi, hji, hns⟩ | hJm
  case inr =>
    subst hJm
    have HRN : Hid (R = .error 11) := Lib.hid (by
      rw [HR2.out]
      split
      · rw [if_pos (by omega)]
      · rfl)
    go_wp2_with fail
    refine (tmust_false _ _ _ (by decide)).mono ?_
    rintro e w2 ⟨rfl, rfl⟩
    unfold gave
    go_wp2
    refine ⟨rfl, HBW.out.trans ((B1.out).mono HBW.out.size), ?_⟩
    rw [HRN.out]
    rfl
  case inl =>
    subst hji
    have hi' : i < vs.length := by simpa using hi
    have hin : i < n := by rw [HN.out]; exact hi'
    obtain ⟨v, hv⟩ : ∃ v, v = vs[i]'hi' := ⟨_, rfl⟩
    have HRS : Hid (R = .ok v.t.erase) := Lib.hid (by
      rw [HR2.out]
      rw [show ((i : Int)).toNat = i from rfl, List.getElem?_eq_getElem hi']
      show (if (i : Int) < 0 then _ else _) = _
      rw [if_neg (by omega), hv])
    have hvm : v ∈ vs := by rw [hv]; simp
    obtain ⟨vb, vo, rfl, hpv⟩ := (hHV.out.below B1.out).at_ i hi'
    rw [← hv] at hpv
    have g0 := hpv.ty.c0; have g1 := hpv.ty.c1; have g2 := hpv.ty.c2
    obtain ⟨k4, l4, f4⟩ := hpv.ty.in.nslice
    obtain ⟨k5, l5, f5⟩ := hpv.ty.in.xslice
    rw [f4] at g1
    rw [f5] at g2
    have hc1 := HC.out.below B1.out HC.out.lt
    have d0 := hc1.cell 0
    simp at d0
    have hk0 : (0 : Int) ≤ (i : Int) := by omega
    have hk1 : (i : Int) < (n : Int) := by omega
    have j0 : decide ((0 : Int) ≤ (i : Int)) = true := by simp
    have hbr := BR.out.below (B1.out) BR.out.lt
    have r0 := hbr.cell 0; have r1 := hbr.cell 1; have r2 := hbr.cell 2
    have s0 := hbr.frozen 0; have s1 := hbr.frozen 1; have s2 := hbr.frozen 2
    simp at r0 r1 r2
    obtain ⟨WF, hWF⟩ : ∃ WF, WF = ((w1.setCell ⟨A + 1, 0, none⟩ (.int .i64 v.t.k)).setCell ⟨A + 1, 1, none⟩ (.slice k4 v.t.ns.length l4)).setCell ⟨A + 1, 2, none⟩ (.slice k5 v.t.xs.length l5) := ⟨_, rfl⟩
    have hres := res_storedE (u := v.t) (k4 := k4) (k5 := k5) (l4 := l4) (l5 := l5) (R := A + 1) (by rw [HA.out]; omega) HP.out (HBW.out.trans ((B1.out).mono HBW.out.size)) hbr (hpv.ty.in) ((HVS.out v hvm).mono (fun b hb => .inl hb)) (f4) (f5) hWF
    have HRES := Lib.hid hres; have HWF := Lib.hid hWF
    clear hres hWF hbr hpv hvm hv f4 f5 hc1 hi hi' hns
    go_wp2_with fail
    refine (tmust_true _ _ _ (by simp)).mono ?_
    rintro e w2 ⟨rfl, rfl⟩
    go_wp2_with fail
    rw [← HWF.out]
    obtain ⟨hF, hJ⟩ := HRES.out
    have f0 := hF.cell 0; have f1 := hF.cell 1; have f2 := hF.cell 2
    simp at f0 f1 f2
    refine bodyPost_ret (v := .agg #[.int .i64 v.t.k, .slice k4 v.t.ns.length l4, .slice k5 v.t.xs.length l5]) (by simp [results, Tryz.results52, go_sem, f0, f1, f2]) rfl ?_
    rw [HRS.out]
    exact hJ

set_option maxHeartbeats 8000000 in
set_option maxRecDepth 100000 in
theorem cown_if (C b o : Nat) (x : Exp) (K : Ty) (vp : Option Addr) (vc : Nat) (vs : List Var) (P : Nat → Prop) (w : World) (h : OwnIn C b o x K vp vc vs P w) (hk : x.k = 15) (hn : K.xs.length = 3) :
    Calls Tryz.prog 52 #[.pointer (some ⟨C, 0, none⟩), .pointer (some ⟨b, o, none⟩), K.xa.val K.xs.length] w fun e w' => GaveE (ownP x K.xs vs) P w e w' := by
  obtain ⟨W, hW⟩ : ∃ W, W = (w.alloc (.cells #[.pointer (some ⟨b, o, none⟩)] 66)).alloc (.cells #[.int .i64 0, .slice none 0 0, .slice none 0 0] 36) := ⟨_, rfl⟩
  have hj : C0 w W b o := by rw [hW]; exact c0_start w b o
  have hIW := h.below hj.below
  obtain ⟨kp, kc, ek, hkat⟩ := titems_at hIW.hK
  rw [ek]
  obtain ⟨A, hA⟩ : ∃ A, A = w.heap.size := ⟨_, rfl⟩
  have bp := hj.bp; have br := hj.br; have hWS := hj.size
  rw [← hA] at bp br hWS
  have p0 := bp.cell 0
  simp at p0
  have HW := Lib.hid hW; have HA := Lib.hid hA; have HBW := Lib.hid hj.below; have BP := Lib.hid bp; have BR := Lib.hid br; have HI := Lib.hid hIW; have HP := Lib.hid h.hP; have HWS := Lib.hid hWS; have HKAT := Lib.hid hkat
  have x0 := hIW.hx.c0
  rw [hk] at x0
  obtain ⟨kb, ko, rfl, hp0⟩ := nth_at hkat (i := 0) (by omega)
  obtain ⟨kb', ko', e1, hp1⟩ := nth_at hkat (i := 1) (by omega)
  injection e1 with e1
  injection e1 with e1 e2
  subst e1 e2
  obtain ⟨kb', ko', e1, hp2⟩ := nth_at hkat (i := 2) (by omega)
  injection e1 with e1
  injection e1 with e1 e2
  subst e1 e2
  obtain ⟨a, ha⟩ : ∃ a, a = nthT K.xs 0 := ⟨_, rfl⟩
  obtain ⟨y, hy⟩ : ∃ y, y = nthT K.xs 1 := ⟨_, rfl⟩
  obtain ⟨z, hz⟩ : ∃ z, z = nthT K.xs 2 := ⟨_, rfl⟩
  have hay : y ∈ K.xs := by rw [hy]; exact nth_mem (by omega)
  have haz : z ∈ K.xs := by rw [hz]; exact nth_mem (by omega)
  have hkc : 3 ≤ kc := by obtain ⟨_, _, _, _, h6⟩ := hkat 0 (by omega); omega
  have hjn := fun (W' : World) (hb : Below W.heap.size W W') => join_any y.sz y z P W' (Nat.le_refl _) (fun b hb' => Nat.lt_of_lt_of_le (h.hP b hb') (Nat.le_trans hj.below.size hb.size)) ((hIW.hK.kid hay).below hb) ((hIW.hK.kid haz).below hb) ⟨1, h.hKR y hay⟩ ⟨1, h.hKR z haz⟩ (h.hKS.kid hay) (h.hKS.kid haz)
  rw [hn]
  rw [← ha] at hp0
  rw [← hy] at hp1
  rw [← hz] at hp2
  obtain ⟨R, hR⟩ : ∃ R, R = ownP x K.xs vs := ⟨_, rfl⟩
  rw [← hR]
  have hR2 : R = if a.k = 1 then toE (y.joinT z) else .error 6 := by rw [hR, ha, hy, hz]; unfold ownP; rw [if_neg (by omega), if_neg (by omega), if_pos hk]
  obtain ⟨JT, hJT⟩ : ∃ JT, JT = y.joinT z := ⟨_, rfl⟩
  rw [← hJT] at hR2 hjn
  obtain ⟨k4, l4, f4⟩ := hp0.in.nslice
  obtain ⟨k5, l5, f5⟩ := hp0.in.xslice
  obtain ⟨W2, hW2⟩ : ∃ W2, W2 = W.alloc (.cells #[.int .i64 1] 3) := ⟨_, rfl⟩
  have hB2 : Below W.heap.size W W2 := by rw [hW2]; exact (Below.refl _ _).alloc (Nat.le_refl _) _
  have hone := one1_any a 1 W W2 hW2 hp0.in
  have a0 := hp0.c0; have a1 := hp0.c1; have a2 := hp0.c2
  rw [f4] at a1
  rw [f5] at a2
  unfold Ty.agg at hone
  rw [f4, f5] at hone
  have HP0 := Lib.hid hp0; have HP1 := Lib.hid hp1; have HP2 := Lib.hid hp2; have HJN := Lib.hid hjn; have HR2 := Lib.hid hR2; have HON1 := Lib.hid hone; have HW2 := Lib.hid hW2; have HB2 := Lib.hid hB2
  clear hW hA hj hIW hkat hR hk ek bp br hWS h hp0 hp1 hp2 hjn hR2 ha hy hz hay haz hJT f4 f5 hn hone hW2 hB2
  simp only [Nat.zero_mul, Nat.add_zero, Nat.one_mul] at a0 a1 a2
  go_enter Tryz.func52, Tryz.ntmps52
  go_upto_region 1 with fail
  rw [← HW.out, ← HA.out]
  go_wp2_with fail
  rw [← HW2.out]
  refine HON1.out.mono ?_
  rintro e w3 ⟨rfl, hb3⟩
  have B3 := Lib.hid (HB2.out.trans (hb3.mono HB2.out.size))
  clear hb3 a0 a1 a2
  by_cases hak : a.k = 1
  case neg =>
    have HRN : Hid (R = .error 6) := Lib.hid (by rw [HR2.out, if_neg hak])
    have j : decide (a.k = 1) = false := by simpa using hak
    rw [j]
    clear j
    go_wp2_with fail
    refine (tmust_false _ _ _ rfl).mono ?_
    rintro e w4 ⟨rfl, rfl⟩
    unfold gave
    go_wp2
    refine ⟨rfl, HBW.out.trans ((B3.out).mono HBW.out.size), ?_⟩
    rw [HRN.out]
    rfl
  case pos =>
  have HR3 : Hid (R = toE JT) := Lib.hid (by rw [HR2.out, if_pos hak])
  have j : decide (a.k = 1) = true := by simpa using hak
  rw [j]
  clear j hak
  have hy1 := HP1.out.below B3.out; have hz1 := HP2.out.below B3.out
  have b0 := hy1.c0; have b1 := hy1.c1; have b2 := hy1.c2
  have c0 := hz1.c0; have c1 := hz1.c1; have c2 := hz1.c2
  obtain ⟨m4, n4, g4⟩ := hy1.in.nslice
  obtain ⟨m5, n5, g5⟩ := hy1.in.xslice
  obtain ⟨q4, s4, i4⟩ := hz1.in.nslice
  obtain ⟨q5, s5, i5⟩ := hz1.in.xslice
  have hjn := HJN.out w3.drew B3.out.drew
  unfold Ty.agg at hjn
  rw [g4, g5, i4, i5] at hjn
  rw [g4] at b1
  rw [g5] at b2
  rw [i4] at c1
  rw [i5] at c2
  have HC := Lib.hid hjn
  clear hy1 hz1 g4 g5 i4 i5 hjn
  simp only [Nat.zero_mul, Nat.add_zero, Nat.one_mul, Nat.reduceMul] at b0 b1 b2 c0 c1 c2
  go_wp2_with fail
  refine (tmust_true _ _ _ rfl).mono ?_
  rintro e w4 ⟨rfl, rfl⟩
  go_wp2_with fail
  go_still_tail 6, (by kernel_rfl)
  change wpList _ _ _ _ _ w3.drew
  go_wp2_with fail
  refine HC.out.mono ?_
  have hsz3 : w3.heap.size ≤ w3.drew.heap.size := Nat.le_refl _
  cases JT with
  | none =>
    rintro e w5 ⟨hb5, rfl⟩
    have B5 := Lib.hid (B3.out.trans (((Below.refl _ _).drew.trans hb5).mono B3.out.size))
    have HRN : Hid (R = .error 6) := Lib.hid (by rw [HR3.out]; rfl)
    clear hb5
    unfold gave
    go_wp2
    refine ⟨rfl, HBW.out.trans ((B5.out).mono HBW.out.size), ?_⟩
    rw [HRN.out]
    rfl
  | some v =>
    rintro e w5 ⟨hb5, u, rfl, hue, hui, hus⟩
    have B5 := Lib.hid (B3.out.trans (((Below.refl _ _).drew.trans hb5).mono B3.out.size))
    obtain ⟨k4, l4, f4⟩ := hui.nslice
    obtain ⟨k5, l5, f5⟩ := hui.xslice
    have hag : u.agg = .agg #[.int .i64 u.k, .slice k4 u.ns.length l4, .slice k5 u.xs.length l5] := by unfold Ty.agg; rw [f4, f5]
    rw [hag]
    have HRS : Hid (R = .ok u.erase) := Lib.hid (by rw [HR3.out, hue]; rfl)
    have hsz : A + 1 + 1 ≤ w3.drew.heap.size := by have := B3.out.size; rw [HWS.out] at this; exact this
    have hbr := BR.out.below (B5.out) BR.out.lt
    have r0 := hbr.cell 0; have r1 := hbr.cell 1; have r2 := hbr.cell 2
    have s0 := hbr.frozen 0; have s1 := hbr.frozen 1; have s2 := hbr.frozen 2
    simp at r0 r1 r2
    obtain ⟨WF, hWF⟩ : ∃ WF, WF = ((w5.setCell ⟨A + 1, 0, none⟩ (.int .i64 u.k)).setCell ⟨A + 1, 1, none⟩ (.slice k4 u.ns.length l4)).setCell ⟨A + 1, 2, none⟩ (.slice k5 u.xs.length l5) := ⟨_, rfl⟩
    have hres := res_storedE (u := u) (k4 := k4) (k5 := k5) (l4 := l4) (l5 := l5) (R := A + 1) (by rw [HA.out]; omega) HP.out (HBW.out.trans ((B5.out).mono HBW.out.size)) hbr (hui) (hus.mono (fun b hb => by rcases hb with h | h; exact .inl h; exact .inr (by omega))) (f4) (f5) hWF
    have HRES := Lib.hid hres; have HWF := Lib.hid hWF
    clear hres hWF hbr hb5 hui hus hue hag f4 f5 b0 b1 b2 c0 c1 c2
    go_wp2_with fail
    rw [← HWF.out]
    obtain ⟨hF, hJ⟩ := HRES.out
    have f0 := hF.cell 0; have f1 := hF.cell 1; have f2 := hF.cell 2
    simp at f0 f1 f2
    refine bodyPost_ret (v := .agg #[.int .i64 u.k, .slice k4 u.ns.length l4, .slice k5 u.xs.length l5]) (by simp [results, Tryz.results52, go_sem, f0, f1, f2]) rfl ?_
    rw [HRS.out]
    exact hJ
end Go.Proofs.YtjpdbhhjlnmacaaGreat
