/- A box and its copy know nothing of each other. No conditions. -/
import Derived.Test.YtemhinagajfemaaPostKeys
import Derived.Test.YtemhinagajfemaaPostCopy
import Derived.Test.YtemhinagajfemaaRefSmall
import Derived.Test.YtemhinagajfemaaValOpen
import Derived.Deep.DeepCutAuto
namespace Go.Proofs.Ytemhinagajfemaa.postCopies
set_option linter.unusedVariables false
open Go.RowKit Go.ChangeShapes Go.WideShapes Go.Deep

def Tested (W : World) (n : Nat) (s : Value) (wx : World) : Prop := Below W.heap.size W wx ∧ (s = .bool true ∨ (s = .bool false ∧ n ≤ 40))
def KindsM (ms : List (Val × Val)) : Prop := ∀ m, m ∈ ms → m.1.Kinds
def Rel1 (W0 : World) (g n : Nat) (iv : Value) (wr : World) : Prop := ∃ (i : Nat) (ms : List (Val × Val)), iv = .int .i64 (i : Int) ∧ i ≤ n ∧ BoxAt wr g ms ∧ KindsM ms ∧ Below W0.heap.size W0 wr
def Rel2 (wb : World) (gc : Nat) (jv : Value) (wr : World) : Prop := ∃ (j : Nat) (cs : List (Val × Val)), jv = .int .i64 (j : Int) ∧ j ≤ 7 ∧ BoxAt wr gc cs ∧ KindsM cs ∧ Below wb.heap.size wb wr
def Rel3 (wb : World) (gc B : Nat) (sv : Value) (us : List Val) (jv : Value) (wr : World) : Prop :=
  ∃ (j : Nat) (cs : List (Val × Val)), jv = .int .i64 (j : Int) ∧ j ≤ us.length ∧ BoxAt wr gc cs ∧ KindsM cs ∧ (cs.map (fun m => m.1.nf)).Perm ((us.drop j).map Val.nf) ∧ ValRow B sv us wr ∧ Below wb.heap.size wb wr
theorem _root_.Go.Proofs.Ytemhinagajfemaa.ValRow.only {B : Nat} {sv : Value} {us : List Val} {w w' : World} {gc : Nat} (h : ValRow B sv us w) (ho : Only w w' gc) (hlt : gc < B) : ValRow B sv us w' := by
  refine ⟨h.row.kept ho ?_, fun u hu => ?_⟩
  · rcases hv : sv.ownBlock with _ | k
    · exact .inl rfl
    · refine .inr (fun e => ?_)
      injection e with e
      have := own_ge h.row hv
      omega
  · obtain ⟨h1, h2⟩ := h.ins u hu
    exact ⟨h1.carryS (h2.mono (fun x hx => by have := hx.1; show x ≠ gc; omega)) ho.cellN ho.size, h2⟩
theorem eraseIdx_perm {α : Type} : ∀ {l : List α} {i : Nat} (h : i < l.length), (l[i]'h :: l.eraseIdx i).Perm l
  | [], i, h => by simp at h
  | a :: l, 0, h => by simp
  | a :: l, i + 1, h => by
    have ih := eraseIdx_perm (l := l) (i := i) (by simpa using h)
    simp only [List.getElem_cons_succ, List.eraseIdx_cons_succ]
    exact (List.Perm.swap _ _ _).trans (ih.cons a)
def TakeAny (gc : Nat) (cs : List (Val × Val)) (w : World) (e : Ending) (w' : World) : Prop :=
  ∃ (x y : Value) (cs' : List (Val × Val)), e = .returned (.tuple #[x, y]) ∧ BoxAt w' gc cs' ∧ Only w w' gc ∧ (∀ m, m ∈ cs' → m ∈ cs)
theorem take_any (u : Val) (gc : Nat) (cs : List (Val × Val)) (w : World) (hu : u.In w) (hbx : BoxAt w gc cs) (hk : KindsM cs) : Calls Try.prog 27 #[.pointer (some ⟨gc, 0, none⟩), u.agg] w fun e w' => TakeAny gc cs w e w' := by
  refine (take_ok u gc cs w hu hbx hk).mono fun e w' h => ?_
  rcases h with ⟨_, rfl, hb⟩ | ⟨i, a, b, hm, hno, hs, rfl, hb, hon⟩
  · exact ⟨_, _, cs, rfl, hbx.below hb, Only.of_below hb gc, fun m hm => hm⟩
  · exact ⟨_, _, _, rfl, hb, hon, fun m hm => List.mem_of_mem_eraseIdx hm⟩
def TakeKey (gc : Nat) (cs : List (Val × Val)) (rest : List Val) (w : World) (e : Ending) (w' : World) : Prop :=
  ∃ (x y : Value) (cs' : List (Val × Val)), e = .returned (.tuple #[x, y]) ∧ BoxAt w' gc cs' ∧ Only w w' gc ∧ (∀ m, m ∈ cs' → m ∈ cs) ∧ (cs'.map (fun m => m.1.nf)).Perm (rest.map Val.nf)
theorem take_key (u : Val) (gc : Nat) (cs : List (Val × Val)) (rest : List Val) (w : World) (hu : u.In w) (hbx : BoxAt w gc cs) (hk : KindsM cs) (hp : (cs.map (fun m => m.1.nf)).Perm ((u :: rest).map Val.nf)) :
    Calls Try.prog 27 #[.pointer (some ⟨gc, 0, none⟩), u.agg] w fun e w' => TakeKey gc cs rest w e w' := by
  refine (take_ok u gc cs w hu hbx hk).mono fun e w' h => ?_
  rcases h with ⟨hno, _⟩ | ⟨i, a, b, hm, hno, hs, rfl, hb, hon⟩
  · exfalso
    have : u.nf ∈ cs.map (fun m => m.1.nf) := hp.mem_iff.2 (by simp)
    obtain ⟨m, hm, e⟩ := List.mem_map.1 this
    have h := hno m hm
    rw [(Val.same_nf (hk m hm)).2 e] at h
    cases h
  · refine ⟨_, _, _, rfl, hb, hon, fun m hm => List.mem_of_mem_eraseIdx hm, ?_⟩
    have hmm : (a, b) ∈ cs := List.mem_of_getElem? hm
    have ha : a.nf = u.nf := (Val.same_nf (hk _ hmm)).1 hs
    obtain ⟨hil, hie⟩ := List.getElem?_eq_some_iff.1 hm
    have h1 := (eraseIdx_perm hil).map (fun m : Val × Val => m.1.nf)
    rw [List.map_cons, hie] at h1
    have h2 := h1.trans hp
    rw [List.map_cons, ha] at h2
    exact h2.cons_inv
theorem nf_of_erase {us : List Val} {ms : List (Val × Val)} (h : us.map Val.erase = ms.map (fun m => m.1.canon)) : us.map Val.nf = ms.map (fun m => m.1.nf) := by
  induction us generalizing ms with
  | nil => cases ms with
    | nil => rfl
    | cons m ms => simp at h
  | cons u us ih =>
    cases ms with
    | nil => simp at h
    | cons m ms =>
      simp only [List.map_cons, List.cons.injEq] at h ⊢
      exact ⟨Val.nf_stored h.1, ih h.2⟩
theorem kinds_copy {cs ms : List (Val × Val)} (h : cs.map (fun m => (m.1.erase, m.2.erase)) = ms.map (fun m => (m.1.canon, m.2.canon))) (hk : KindsM ms) : KindsM cs := by
  induction cs generalizing ms with
  | nil => intro m hm; simp at hm
  | cons c cs ih =>
    cases ms with
    | nil => simp at h
    | cons m ms =>
      simp only [List.map_cons, List.cons.injEq, Prod.mk.injEq] at h
      intro y hy
      rcases List.mem_cons.1 hy with rfl | hy
      · exact Val.kinds_stored h.1.1 (hk m (by simp))
      · exact ih h.2 (fun z hz => hk z (List.mem_cons_of_mem _ hz)) y hy
theorem kinds_put {v : Val} {ms ms' : List (Val × Val)} {c : Int} {w : World} (hk : KindsM ms) (hc : (c ≠ 0 ∧ ms' = ms) ∨
    (c = 0 ∧ v.RightB = true ∧ v.RightB = true ∧ ∃ a b : Val, ms' = ms ++ [(a, b)] ∧ a.erase = v.canon ∧ b.erase = v.canon ∧ a.Sep (fun x => w.heap.size ≤ x) ∧ b.Sep (fun x => w.heap.size ≤ x))) : KindsM ms' := by
  rcases hc with ⟨_, rfl⟩ | ⟨_, hr, _, a, b, rfl, ea, _⟩
  · exact hk
  · intro m hm
    rcases List.mem_append.1 hm with h | h
    · exact hk m h
    · obtain rfl : m = (a, b) := by simpa using h
      exact Val.kinds_stored ea (Val.RightB.kinds hr)
theorem keys_same {us vs : List Val} {ms : List (Val × Val)} (h1 : us.map Val.erase = ms.map (fun m => m.1.canon)) (h2 : vs.map Val.erase = ms.map (fun m => m.1.canon)) : ∀ j (h : j < us.length) (h' : j < vs.length), (us[j]'h).rsame (vs[j]'h') = true := fun j h h' => by
  have e : (us.map Val.erase)[j]? = (vs.map Val.erase)[j]? := by rw [h1, h2]
  simp only [List.getElem?_map, List.getElem?_eq_getElem h, List.getElem?_eq_getElem h', Option.map_some, Option.some.injEq] at e
  unfold Val.rsame
  rw [Val.rord_erase _ _ _ (Nat.le_refl _) e]
  rfl

set_option maxHeartbeats 20000000 in
set_option maxRecDepth 100000 in
theorem law_any (V key : Val) (w : World) (hV : V.In w) (hk : key.In w) : Calls Try.prog 7 #[V.xa.val V.xs.length, key.agg] w fun e w' => TrueBelow w e w' := by
  obtain ⟨W, hW⟩ : ∃ W, W = w.alloc (.cells key.cells.toArray 46) := ⟨_, rfl⟩
  have hbW : Below w.heap.size w W := by rw [hW]; exact (Below.refl _ _).alloc (Nat.le_refl _) _
  have hkb : Blk W w.heap.size 46 key.cells.toArray := by rw [hW]; exact Blk.new w 46 _
  obtain ⟨vp, vc, ve, hx⟩ := items_at (hV.below hbW)
  obtain ⟨kp, kq, ke⟩ := hk.nslice
  obtain ⟨kp2, kq2, ke2⟩ := hk.xslice
  have hs1 := fun (W' : World) (hb : Below W.heap.size W W') => small_any key W' ((hk.below hbW).below hb)
  have hxl := hV.ok.2.2.2.2.2.1
  unfold Val.cells at hW hkb
  unfold Val.agg at hs1 ⊢
  rw [ke, ke2] at hW hkb
  simp only [ke, ke2] at hs1
  rw [ve, ke, ke2]
  obtain ⟨n, hn⟩ : ∃ n, n = V.xs.length := ⟨_, rfl⟩
  rw [← hn] at hxl ⊢
  have HN := Lib.hid hn; have HX := Lib.hid hx; have HWW := Lib.hid hbW; have HKB := Lib.hid hkb
  have HS1 := Lib.hid hs1; have HW := Lib.hid hW; have HKI := Lib.hid (hk.below hbW); have HKE := Lib.hid (And.intro ke ke2)
  clear hn hx hbW hs1 hW hk hV ke ke2 ve
  go_enter Try.func7, Try.ntmps7
  try simp only [lapp_cons, lapp_nil]
  go_upto_region 1 with fail
  rw [← HW.out]
  have k0 := hkb.cell 0; have k1 := hkb.cell 1; have k2 := hkb.cell 2; have k3 := hkb.cell 3; have k4 := hkb.cell 4; have k5 := hkb.cell 5
  simp only [List.getElem?_toArray, List.getElem?_cons_zero, List.getElem?_cons_succ] at k0 k1 k2 k3 k4 k5
  clear hkb HW
  go_cut [23] (fun s wx => Tested W n s wx)
  case first =>
    go_wp2_with fail
    refine (awake20_any _).mono ?_
    rintro e w1 ⟨rfl, hl⟩
    have B1 := Lib.hid hl
    clear hl k0 k1 k2 k3 k4 k5
    have k0 := (HKB.out.below B1.out HKB.out.lt).cell 0; have k1 := (HKB.out.below B1.out HKB.out.lt).cell 1; have k2 := (HKB.out.below B1.out HKB.out.lt).cell 2; have k3 := (HKB.out.below B1.out HKB.out.lt).cell 3; have k4 := (HKB.out.below B1.out HKB.out.lt).cell 4; have k5 := (HKB.out.below B1.out HKB.out.lt).cell 5
    simp only [List.getElem?_toArray, List.getElem?_cons_zero, List.getElem?_cons_succ] at k0 k1 k2 k3 k4 k5
    by_cases hn : 40 < n
    case pos =>
      have t1 : decide ((40 : Int) < (n : Int)) = true := by simp; omega
      go_wp2_with fail
      go_meet
      exact ⟨B1.out, .inl rfl⟩
    have t1 : decide ((40 : Int) < (n : Int)) = false := by simp; omega
    go_wp2_with fail
    cases hs1 : key.smallB
    all_goals
      rw [hs1] at HS1
      refine (HS1.out _ B1.out).mono ?_
      rintro e w2 ⟨rfl, hl⟩
      have B2 := Lib.hid (B1.out.trans (hl.mono B1.out.size))
      clear hl
      go_wp2_with fail
      go_meet
      first | exact ⟨B2.out, .inl rfl⟩ | exact ⟨B2.out, .inr ⟨rfl, by omega⟩⟩
  case rest =>
  obtain ⟨hbt, hs | ⟨hs, hn40⟩⟩ := hcut
  · subst hs
    have HT := Lib.hid hbt
    clear hbt
    go_wp2_with fail
    refine (awake20_any _).mono ?_
    rintro e w2 ⟨rfl, hl⟩
    have HL := Lib.hid (HWW.out.trans ((HT.out.trans (hl.mono HT.out.size)).mono HWW.out.size))
    clear hl
    go_wp2
    go_ret
    exact ⟨rfl, HL.out⟩
  subst hs
  have HT := Lib.hid hbt
  clear hbt HS1 k0 k1 k2 k3 k4 k5
  go_wp2_with fail
  refine (new_any _).mono ?_
  rintro e w1 ⟨rfl, hbx, hl⟩
  obtain ⟨W0, hW0⟩ : ∃ W0, W0 = wc := ⟨_, rfl⟩
  rw [← hW0] at hbx hl HT ⊢
  clear hW0
  obtain ⟨g, hg⟩ : ∃ g, g = W0.heap.size := ⟨_, rfl⟩
  have hg2 : W0.heap.size ≤ g := by omega
  rw [← hg] at hbx ⊢
  have HR0 : Hid (Rel1 W0 g n (.int .i64 ((0 : Nat) : Int)) w1) := Lib.hid ⟨0, [], rfl, by omega, hbx, fun m hm => by simp at hm, hl⟩
  have HKI0 := Lib.hid (HKI.out.below HT.out)
  have HKB0 := Lib.hid (HKB.out.below HT.out HKB.out.lt)
  have HW0 := HT
  have HWW0 := Lib.hid (HWW.out.trans (HT.out.mono HWW.out.size))
  clear hbx hl hg HKI HKB HWW
  have HKI := HKI0; have HKB := HKB0; have HWW := HWW0
  clear HKI0 HKB0 HWW0 HT
  go_wp2_with fail
  go_loopw [28] (fun iv wr => Rel1 W0 g n iv wr) (fun iv _ => n - (intOf iv).toNat)
  case atStart => exact HR0.out
  case round =>
    clear HR0
    obtain ⟨i, ms, rfl, hi, hbx, hks, hba⟩ := hrel
    have HBX := Lib.hid hbx; have HKS := Lib.hid hks; have HBA := Lib.hid hba
    clear hbx hks hba
    by_cases hlt : i < n
    · have hil : i < V.xs.length := by rw [← HN.out]; exact hlt
      obtain ⟨xb, xo, rfl, hpx, hlc⟩ := HX.out i hil
      rw [← HN.out] at hlc
      obtain ⟨v, hv⟩ : ∃ v, v = V.xs[i]'hil := ⟨_, rfl⟩
      rw [← hv] at hpx
      have hpw := hpx.below (HW0.out.trans (HBA.out.mono HW0.out.size))
      have HVI := Lib.hid (hpx.in.below HW0.out)
      have x0 := hpw.c0; have x1 := hpw.c1; have x2 := hpw.c2; have x3 := hpw.c3; have x4 := hpw.c4; have x5 := hpw.c5
      obtain ⟨r4, t4, g4⟩ := hpw.in.nslice
      obtain ⟨r5, t5, g5⟩ := hpw.in.xslice
      rw [g4] at x4
      rw [g5] at x5
      have hk0 : (0 : Int) ≤ (i : Int) := by omega
      have hk1 : (i : Int) < (n : Int) := by omega
      have hVB := Blk.new wr 46 #[.int .i64 v.k, .int .i64 v.n, .float .f64 v.f, .string v.s, .slice r4 v.ns.length t4, .slice r5 v.xs.length t5]
      have hbA : Below wr.heap.size wr (wr.alloc (.cells #[.int .i64 v.k, .int .i64 v.n, .float .f64 v.f, .string v.s, .slice r4 v.ns.length t4, .slice r5 v.xs.length t5] 46)) := (Below.refl _ _).alloc (Nat.le_refl _) _
      have hsm := fun (W' : World) (hb : Below W0.heap.size W0 W') => small_any v W' (HVI.out.below hb)
      have hp1 := fun (W' : World) (hb : Below W0.heap.size W0 W') (hx : BoxAt W' g ms) => put_any v v g ms W' (HVI.out.below hb) (HVI.out.below hb) hx
      unfold Val.agg at hsm hp1
      simp only [g4, g5] at hsm hp1
      have HSM := Lib.hid hsm; have HP1 := Lib.hid hp1
      have HXA := Lib.hid (HBX.out.below hbA); have HAA := Lib.hid (HBA.out.trans (hbA.mono HBA.out.size))
      have HVB := Lib.hid hVB
      clear hil hv hpx hpw g4 g5 hsm hp1 hVB hbA
      have hwsz : wr.heap.size < (wr.alloc (.cells #[.int .i64 v.k, .int .i64 v.n, .float .f64 v.f, .string v.s, .slice r4 v.ns.length t4, .slice r5 v.xs.length t5] 46)).heap.size := by simp
      have hsf := run_store_flt
      go_wp2_with fail
      obtain ⟨WA, hWA⟩ : ∃ WA, WA = wr.alloc (.cells #[.int .i64 v.k, .int .i64 v.n, .float .f64 v.f, .string v.s, .slice r4 v.ns.length t4, .slice r5 v.xs.length t5] 46) := ⟨_, rfl⟩
      obtain ⟨vb, hvb⟩ : ∃ vb, vb = wr.heap.size := ⟨_, rfl⟩
      rw [← hWA] at HXA HAA HVB hwsz ⊢
      rw [← hvb] at HVB hwsz ⊢
      clear hWA hvb x0 x1 x2 x3 x4 x5
      cases hs : v.smallB
      case false =>
        rw [hs] at HSM
        refine (HSM.out _ HAA.out).mono ?_
        rintro e w1 ⟨rfl, hl⟩
        have HE := Lib.hid (HAA.out.trans (hl.mono HAA.out.size))
        clear hl
        go_wp2
        go_ret
        exact ⟨rfl, HWW.out.trans (HE.out.mono HWW.out.size)⟩
      rw [hs] at HSM
      refine (HSM.out _ HAA.out).mono ?_
      rintro e w1 ⟨rfl, hl⟩
      have HB1 := Lib.hid (HAA.out.trans (hl.mono HAA.out.size)); have HX1 := Lib.hid (HXA.out.below hl)
      have HVB1 := Lib.hid (HVB.out.below hl HVB.out.lt)
      clear hl hs HXA HAA HVB HSM hwsz
      have x0 := HVB1.out.cell 0; have x1 := HVB1.out.cell 1; have x2 := HVB1.out.cell 2; have x3 := HVB1.out.cell 3; have x4 := HVB1.out.cell 4; have x5 := HVB1.out.cell 5
      simp only [List.getElem?_toArray, List.getElem?_cons_zero, List.getElem?_cons_succ] at x0 x1 x2 x3 x4 x5
      go_wp2_with fail
      refine (HP1.out _ HB1.out HX1.out).mono ?_
      rintro e w2 ⟨c, ms', rfl, hbx, hon, hc⟩
      have HR : Hid (Rel1 W0 g n (.int .i64 ((i + 1 : Nat) : Int)) w2) := Lib.hid ⟨i + 1, ms', rfl, by omega, hbx, kinds_put HKS.out hc, Below.only HB1.out hon hg2 HB1.out.size⟩
      clear hbx hon hc HB1 HX1 HVB1 x0 x1 x2 x3 x4 x5
      go_wp2
      exact ⟨by have := HR.out; simpa using this, by simp [intOf]; omega⟩
    · obtain rfl : i = n := by omega
      obtain ⟨wo, hwo⟩ : ∃ wo : World, wo = wr := ⟨_, rfl⟩
      rw [← hwo] at HBX HBA ⊢
      clear hwo
      go_wp2_with fail
      refine (keys_any g ms _ HBX.out).mono ?_
      rintro e wb ⟨sv, us, rfl, hrow, hera, hbb⟩
      obtain ⟨pm, cm, hsv, _⟩ := hrow.form
      obtain ⟨m, hm⟩ : ∃ m, m = us.length := ⟨_, rfl⟩
      rw [← hm] at hsv
      subst hsv
      have hml : m = ms.length := by rw [hm, ← List.length_map (f := Val.erase), hera, List.length_map]
      have hm6 : m ≤ 6 := by rw [hml]; exact HBX.out.2.1
      have HROW := Lib.hid hrow; have HERA := Lib.hid hera; have HBXB := Lib.hid (HBX.out.below hbb); have HBB := Lib.hid (HBA.out.trans (hbb.mono HBA.out.size)); have HM := Lib.hid hm; have HML := Lib.hid hml
      clear hrow hera hbb hm hml HBX HBA
      go_wp2_with fail
      refine (copy_any g ms _ HBXB.out).mono ?_
      rintro e wc ⟨cs, rfl, hcx, hcera, hcsep, hcb⟩
      obtain ⟨gc, hgc⟩ : ∃ gc, gc = wb.heap.size := ⟨_, rfl⟩
      have hgc2 : wb.heap.size ≤ gc := by omega
      rw [← hgc] at hcx ⊢
      have HGC := Lib.hid hgc; have HCX := Lib.hid hcx; have HCK := Lib.hid (kinds_copy hcera HKS.out); have HCB := Lib.hid hcb
      clear hgc hcx hcera hcsep hcb
      go_wp2_with fail
      go_loopw [44] (fun jv wr => Rel2 wb gc jv wr) (fun jv _ => 7 - (intOf jv).toNat)
      case atStart => exact ⟨0, cs, rfl, by omega, HCX.out, HCK.out, HCB.out⟩
      case round =>
        obtain ⟨j, cs2, rfl, hj, hx2, hk2, hb2⟩ := hrel
        have HX2 := Lib.hid hx2; have HK2 := Lib.hid hk2; have HB2 := Lib.hid hb2
        clear hx2 hk2 hb2 HCX HCK HCB
        by_cases hlt : j < 7
        · have htk := take_any key gc cs2 wr ((HKI.out.below HBB.out).below HB2.out) HX2.out HK2.out
          unfold Val.agg at htk
          simp only [HKE.out.1, HKE.out.2] at htk
          have HTK := Lib.hid htk
          have hj7 : decide ((j : Int) < 7) = true := by simp; omega
          clear htk
          have k0 := ((HKB.out.below HBB.out HKB.out.lt).below HB2.out (HKB.out.below HBB.out HKB.out.lt).lt).cell 0; have k1 := ((HKB.out.below HBB.out HKB.out.lt).below HB2.out (HKB.out.below HBB.out HKB.out.lt).lt).cell 1; have k2 := ((HKB.out.below HBB.out HKB.out.lt).below HB2.out (HKB.out.below HBB.out HKB.out.lt).lt).cell 2; have k3 := ((HKB.out.below HBB.out HKB.out.lt).below HB2.out (HKB.out.below HBB.out HKB.out.lt).lt).cell 3; have k4 := ((HKB.out.below HBB.out HKB.out.lt).below HB2.out (HKB.out.below HBB.out HKB.out.lt).lt).cell 4; have k5 := ((HKB.out.below HBB.out HKB.out.lt).below HB2.out (HKB.out.below HBB.out HKB.out.lt).lt).cell 5
          simp only [List.getElem?_toArray, List.getElem?_cons_zero, List.getElem?_cons_succ] at k0 k1 k2 k3 k4 k5
          go_wp2_with fail
          refine HTK.out.mono ?_
          rintro e w3 ⟨x, y, cs', rfl, hx3, hon, hsub⟩
          have HR : Hid (Rel2 wb gc (.int .i64 ((j + 1 : Nat) : Int)) w3) := Lib.hid ⟨j + 1, cs', rfl, by omega, hx3, fun m hm => HK2.out m (hsub m hm), Below.only HB2.out hon hgc2 HB2.out.size⟩
          clear hx3 hon hsub HX2 HB2 HTK k0 k1 k2 k3 k4 k5
          go_wp2
          exact ⟨by have := HR.out; simpa using this, by simp [intOf]; omega⟩
        · have hj7 : decide ((j : Int) < 7) = false := by simp; omega
          obtain ⟨w4, hw4⟩ : ∃ w4 : World, w4 = wr := ⟨_, rfl⟩
          rw [← hw4] at HX2 HB2 ⊢
          clear hw4
          go_wp2_with fail
          refine (keys_any gc cs2 _ HX2.out).mono ?_
          rintro e w5 ⟨sv2, us2, rfl, hrow2, hera2, hbb2⟩
          obtain ⟨pn, cn, hsv, _⟩ := hrow2.form
          obtain ⟨q, hq⟩ : ∃ q, q = us2.length := ⟨_, rfl⟩
          rw [← hq] at hsv
          subst hsv
          have hq6 : q ≤ 6 := by
            have : us2.length = cs2.length := by rw [← List.length_map (f := Val.erase), hera2, List.length_map]
            rw [hq, this]; exact HX2.out.2.1
          obtain ⟨B, hB⟩ : ∃ B, B = w4.heap.size := ⟨_, rfl⟩
          have hgB : gc < B := by rw [hB]; exact HX2.out.1.lt
          rw [← hB] at hrow2
          have HROW2 := Lib.hid hrow2; have HNF := Lib.hid (nf_of_erase hera2); have HX5 := Lib.hid (HX2.out.below hbb2); have HB5 := Lib.hid (HB2.out.trans (hbb2.mono HB2.out.size)); have HQ := Lib.hid hq
          clear hrow2 hera2 hbb2 hq hB HX2 HB2
          go_wp2_with fail
          go_loopw [53] (fun jv wr => Rel3 wb gc B (.slice pn q cn) us2 jv wr) (fun jv _ => q - (intOf jv).toNat)
          case atStart => exact ⟨0, cs2, rfl, by omega, HX5.out, HK2.out, by rw [List.drop_zero, HNF.out], HROW2.out, HB5.out⟩
          case round =>
            obtain ⟨j3, cs3, rfl, hj3, hx3, hk3, hp3, hr3, hb3⟩ := hrel
            rw [← HQ.out] at hj3
            have HX3 := Lib.hid hx3; have HK3 := Lib.hid hk3; have HP3 := Lib.hid hp3; have HR3 := Lib.hid hr3; have HB3 := Lib.hid hb3
            clear hx3 hk3 hp3 hr3 hb3 HX5 HK2 HNF HROW2 HB5
            by_cases hlt3 : j3 < q
            · have hjl : j3 < us2.length := by rw [← HQ.out]; exact hlt3
              obtain ⟨pn', cn', hsv, hpm⟩ := HR3.out.form
              rw [← HQ.out] at hsv
              injection hsv with e1 e2 e3
              subst e1 e3
              obtain ⟨kb, rfl, hmc, hkl, hpu⟩ := hpm j3 hjl
              rw [← HQ.out] at hmc
              have hpp := HP3.out
              rw [drop_cons hjl] at hpp
              obtain ⟨u, hu⟩ : ∃ u, u = us2[j3]'hjl := ⟨_, rfl⟩
              rw [← hu] at hpu hpp
              have HUI := Lib.hid hpu.in
              have x0 := hpu.c0; have x1 := hpu.c1; have x2 := hpu.c2; have x3 := hpu.c3; have x4 := hpu.c4; have x5 := hpu.c5
              simp only [Nat.zero_add] at x0 x1 x2 x3 x4 x5
              obtain ⟨r4, t4, g4⟩ := hpu.in.nslice
              obtain ⟨r5, t5, g5⟩ := hpu.in.xslice
              rw [g4] at x4
              rw [g5] at x5
              have hk0 : (0 : Int) ≤ (j3 : Int) := by omega
              have hk1 : (j3 : Int) < (q : Int) := by omega
              have hbA : Below wr.heap.size wr (wr.alloc (.cells #[.int .i64 u.k, .int .i64 u.n, .float .f64 u.f, .string u.s, .slice r4 u.ns.length t4, .slice r5 u.xs.length t5] 46)) := (Below.refl _ _).alloc (Nat.le_refl _) _
              have htk := take_key u gc cs3 (us2.drop (j3 + 1)) _ (hpu.in.below hbA) (HX3.out.below hbA) HK3.out hpp
              unfold Val.agg at htk
              rw [g4, g5] at htk
              have HTK := Lib.hid htk; have HR6 := Lib.hid (HR3.out.below hbA); have HB6 := Lib.hid (HB3.out.trans (hbA.mono HB3.out.size))
              have hsf := run_store_flt
              clear hjl hpm hpu hpp hu g4 g5 htk hbA e2
              go_wp2_with fail
              refine HTK.out.mono ?_
              rintro e w6 ⟨x, y, cs', rfl, hx6, hon, hsub, hperm⟩
              have HR : Hid (Rel3 wb gc B (.slice (some ⟨kb, 0, none⟩) q cn) us2 (.int .i64 ((j3 + 1 : Nat) : Int)) w6) := Lib.hid ⟨j3 + 1, cs', rfl, by rw [← HQ.out]; omega, hx6, fun m hm => HK3.out m (hsub m hm), hperm, HR6.out.only hon hgB, Below.only HB6.out hon hgc2 HB6.out.size⟩
              clear hx6 hon hsub hperm HX3 HB3 HTK HR6 HB6 x0 x1 x2 x3 x4 x5
              go_wp2
              exact ⟨by have := HR.out; simpa using this, by simp [intOf]; omega⟩
            · have hcs : cs3 = [] := by
                have hp := HP3.out
                rw [List.drop_eq_nil_of_le (by rw [← HQ.out]; omega), List.map_nil] at hp
                have := hp.length_eq
                simpa using this
              subst hcs
              go_wp2_with fail
              refine (keys_any g ms _ (HBXB.out.below HB3.out)).mono ?_
              rintro e w7 ⟨sv3, us3, rfl, hrow3, hera3, hbb3⟩
              obtain ⟨ph, ch, hsv, hp3⟩ := hrow3.form
              subst hsv
              have hrow1 := (HROW.out.below HB3.out).below hbb3
              obtain ⟨pm', cm', hsv1, hp1⟩ := hrow1.form
              rw [← HM.out] at hsv1
              injection hsv1 with e1 e2 e3
              subst e1 e3
              have hul : us3.length = us.length := by rw [← List.length_map (f := Val.erase), hera3, ← HERA.out, List.length_map]
              have hrd3 : RdV w7 ph ch us3 := fun j hj => by
                obtain ⟨k, e, h1, h2, h3⟩ := hp3 j hj
                exact ⟨k, 0, e, h1, h2, h3⟩
              have hrd1 : RdV w7 pm cm us := fun j hj => by
                obtain ⟨k, e, h1, h2, h3⟩ := hp1 j hj
                exact ⟨k, 0, e, h1, h2, h3⟩
              have hsame := samel_yes ph pm ch cm us3 us w7 hrd3 hrd1 hul (by rw [hul, ← HM.out]; omega) (keys_same hera3 HERA.out)
              rw [hul, ← HM.out] at hsame
              rw [hul, ← HM.out]
              have HSAME := Lib.hid hsame
              have HB7 := Lib.hid (HB3.out.trans (hbb3.mono HB3.out.size)); have HX7 := Lib.hid (HX3.out.below hbb3)
              clear hrow3 hera3 hbb3 hp3 hrow1 hp1 hul hrd3 hrd1 hsame e2 HX3 HB3
              go_wp2_with fail
              refine HSAME.out.mono ?_
              rintro e w8 ⟨rfl, hl8⟩
              have HB8 := Lib.hid (HB7.out.trans (hl8.mono HB7.out.size)); have HX8 := Lib.hid (HX7.out.below hl8)
              clear hl8 HB7 HX7 HSAME
              go_wp2_with fail
              refine (len_any _ gc [] HX8.out).mono ?_
              rintro e w9 ⟨rfl, rfl⟩
              go_wp2_with fail
              refine (len_any _ g ms (HBXB.out.below HB8.out)).mono ?_
              rintro e w9 ⟨rfl, rfl⟩
              rw [← HML.out]
              go_wp2
              go_ret
              exact ⟨by simp, HWW.out.trans ((HBB.out.trans (HB8.out.mono HBB.out.size)).mono HWW.out.size)⟩

set_option maxRecDepth 100000 in
theorem walk {H : Type} {enc : TypeId × Value → H} {W : World} {base : Nat} {args : Array Value} {ds : List (DataW H)} {ps : List MemPlace}
    (h : Handed enc Try.prog W base Try.f7.params.toList args ds ps) : Calls Try.prog 7 args W fun e w' => TrueBelow W e w' := by
  rw [Try.params7] at h
  have hval := h.val
  obtain ⟨v0, vs0, d0, ds0, p0, q0, hargs, rfl, rfl, h0, r0⟩ := trodAll_cons h.trod
  obtain ⟨v1, vs1, d1, ds1, p1, q1, rfl, rfl, rfl, h1, r1⟩ := trodAll_cons r0
  obtain ⟨rfl, rfl, rfl⟩ := trodAll_nil r1
  obtain rfl : args = #[v0, v1] := by cases args; simp_all
  obtain ⟨a0, l0, c0, e0⟩ := okWide_slice Try.underlying42 (hval 0 42 v0 rfl rfl)
  have hv1 := hval 1 46 v1 rfl rfl
  unfold Value.okWide at hv1
  rw [Try.underlying46] at hv1
  obtain ⟨cs1, he1, _⟩ := hv1
  obtain ⟨V, rfl, hV⟩ := arg_vals e0 h0 0 h.fits rfl rfl
  obtain ⟨key, rfl, hk⟩ := arg_val he1 h1 1 h.fits rfl rfl
  exact law_any V key W hV hk


set_option maxRecDepth 100000 in
theorem lifted (os : Os) (started : os.Started) (H : Type) (enc : TypeId × Value → H) :
    ReturnsInHanded {} Try.checked os 7 .any (Rows.postCopiesSpec.pre6 enc Try.prog Try.f7 Rows.postCopiesRow.domain false) (Rows.postCopiesSpec.post enc Try.prog Try.f7 false true false false) := by
  refine returnsInHanded_of_change_sized (C := Try.checked) own started (by kernel_rfl) Try.func7
    (ChangeSpec.witness6 (enc := enc) (C := Try.checked) false ⟨#[], #[.slice none 0 0, .agg #[.int .i64 0, .int .i64 0, .float .f64 0, .string ByteArray.empty, .slice none 0 0, .slice none 0 0]], []⟩ 8 (by kernel_rfl) (by kernel_rfl) (by kernel_rfl) (by kernel_rfl)) ?_
  intro W base args ds gs before hval hW _ hsz _
  refine (walk (handed_of hval hW rfl rfl hsz)).mono fun e W' ⟨he, hb⟩ => ?_
  subst he
  exact ⟨_, rfl, law_post hW rfl laidOut (by kernel_rfl) rfl Try.underlying4 (fun ds' h => by match ds', h with | [_, _], _ => rfl) hb⟩

theorem over : Rows.postCopiesRow.holds Try.pinned (OpenSpec.ofChange Rows.postCopiesSpec) :=
  OpenClaim.holds_of_wide 7 Try.f7 rfl rfl rfl rfl rfl rfl rfl ⟨rfl, rfl, rfl, rfl, rfl⟩ rfl rfl rfl rfl rfl (by kernel_rfl) Try.func7 (by kernel_rfl)
    (of_decide_eq_true (by kernel_rfl)) (by unfold Func.isWrapper; first | (rw [if_pos (by decide +kernel)]; kernel_rfl) | (rw [if_neg (by decide +kernel)]; exact ⟨rfl, rfl⟩))
    (fun os started H enc _ => lifted os started H enc)

theorem proved : Rows.PostCopiesSaid :=
  over
#print axioms proved
end Go.Proofs.Ytemhinagajfemaa.postCopies
