/- Words that the laws of layer 9 share. -/
import Derived.Test.YtjpdbhhjlnmacaaGreatTpM7
import Derived.Test.YtjpdbhhjlnmacaaGreatTpM17
import Derived.Test.YtjpdbhhjlnmacaaGreatTpM18
import Derived.Test.YtjpdbhhjlnmacaaGreatTpM23
import Derived.Test.YtjpdbhhjlnmacaaGreatTpM36
import Derived.Test.YtjpdbhhjlnmacaaGreatTpM40
import Derived.Test.YtjpdbhhjlnmacaaGreatTpM42
import Derived.Test.YtjpdbhhjlnmacaaGreatTpM48
import Derived.Test.YtjpdbhhjlnmacaaGreatTpM50
import Derived.Test.YtjpdbhhjlnmacaaGreatTpM52
namespace Go.Proofs.YtjpdbhhjlnmacaaGreat
set_option linter.unusedVariables false
open Go.RowKit

/-- What a join of right types answers. -/
def JAns (a b T : Ty) (k : Int) : Prop := (k = 0 ∧ a.joinT b = some T.erase) ∨ (k = 6 ∧ a.joinT b = none ∧ T.erase = Ty.zero)
theorem joined_right (a b : Ty) (w : World) (ha : a.In w) (hb : b.In w) (hra : a.RightB = true) (hrb : b.RightB = true) :
    Calls Tryz.prog 17 #[a.agg, b.agg] w fun e w' => ∃ (T : Ty) (k : Int), e = .returned (.tuple #[T.agg, .int .i64 k]) ∧ T.In w' ∧ JAns a b T k ∧ Below w.heap.size w w' := by
  refine (joinf_any a b (fun b => b < w.heap.size) w (fun b h => h) ha hb ha.sep hb.sep).mono ?_
  rintro e w' ⟨hb', hr⟩
  unfold Ty.joinF at hr
  rw [hra, hrb] at hr
  simp only [Bool.and_self, cond_true] at hr
  cases h2 : a.joinT b with
  | none =>
    rw [h2] at hr
    exact ⟨Ty.zero, 6, hr, tzero_in _, .inr ⟨rfl, h2, rfl⟩, hb'⟩
  | some v =>
    rw [h2] at hr
    obtain ⟨u, he, hue, hui, hus⟩ := hr
    exact ⟨u, 0, he, hui, .inl ⟨rfl, by rw [h2, hue]⟩, hb'⟩
/-- A join of what is no type. -/
theorem joined_wrong (a b : Ty) (w : World) (ha : a.In w) (hb : b.In w) (hr : (a.RightB && b.RightB) = false) :
    Calls Tryz.prog 17 #[a.agg, b.agg] w fun e w' => e = .returned (.tuple #[Ty.zero.agg, .int .i64 2]) ∧ Below w.heap.size w w' := by
  refine (joinf_any a b (fun b => b < w.heap.size) w (fun b h => h) ha hb ha.sep hb.sep).mono ?_
  rintro e w' ⟨hb', h⟩
  unfold Ty.joinF at h
  rw [hr] at h
  simp only [cond_false] at h
  exact ⟨h, hb'⟩
theorem zero_wrong (a q : Ty) (h : q.erase = Ty.zero) : (a.RightB && q.RightB) = false := by
  rw [← Ty.RightB_erase q, h]
  have : Ty.zero.RightB = false := by kernel_rfl
  rw [this, Bool.and_false]
theorem right_rt {a : Ty} (h : a.RightB = true) : a.Rt := RightB.some h
theorem isB_up {a x v : Ty} (ha : a.RightB = true) (hx : x.RightB = true) (hv : x.erase = v) (h : a.joinT v = some v) : a.isB x = true := by
  rw [isB_eq, ha, hx, ← Ty.joinT_eraseR, hv, h]
  show v.sameB x = true
  exact Ty.sameB_of (by rw [← hv, Ty.ee])
theorem isB_self {a : Ty} (ha : a.RightB = true) : a.isB a = true := by
  rw [isB_eq, ha, joinT_self]
  exact Ty.sameB_of (Ty.ee a)
end Go.Proofs.YtjpdbhhjlnmacaaGreat

/- Expressions, and variables, that came in, opened (printed by wip/gen_expopen.py). -/
namespace Go.Proofs.YtjpdbhhjlnmacaaGreat
set_option linter.unusedVariables false
open Go.RowKit Go.ChangeShapes Go.WideShapes Go.Deep

section
variable {H : Type} {enc : TypeId × Value → H} {W : World}
theorem str_ok {s : ByteArray} {d : DataW H × List MemPlace} (hd : d = (.lit (.string s.data.toList), [])) (hw : Fits 9 d.1) : strok s := by
  have : s.data.toList.length ≤ 140737488351232 := hw _ (by rw [hd]; simp [DataW.weights])
  unfold strok
  have e : s.size = s.data.toList.length := Array.length_toList.symm
  omega
set_option maxRecDepth 100000 in
set_option maxHeartbeats 2000000 in
theorem exp_open : ∀ (fuel : Nat) (cs : List Value) (x : DataW H × List MemPlace), DataW.trod enc Tryz.prog W 0 (fun _ => true) true fuel 29 cs = some x → Fits 29 x.1 → ∃ v : Exp, cs = v.cells ∧ v.In W
  | 0, cs, x, h, _ => by simp [DataW.trod] at h
  | fuel + 1, cs, x, h, hw => by
    obtain ⟨ys, n, hn, rfl, hl, hyl, hfs⟩ := DataW.trod_struct Tryz.underlying29 h
    have hnf : n = fuel := by omega
    rw [hnf] at hfs
    rw [show Tryz.prog.cellsOf 29 = 10 from by kernel_rfl] at hl
    obtain ⟨c0, c1, c2, c3, c4, c5, c6, c7, c8, c9, rfl⟩ : ∃ c0 c1 c2 c3 c4 c5 c6 c7 c8 c9, cs = [c0, c1, c2, c3, c4, c5, c6, c7, c8, c9] := by
      match cs, hl with
      | [c0, c1, c2, c3, c4, c5, c6, c7, c8, c9], _ => exact ⟨c0, c1, c2, c3, c4, c5, c6, c7, c8, c9, rfl⟩
    have hget : ∀ i, i < 5 → ∃ y, ys[i]? = some y := fun i hi => ⟨ys[i]'(by rw [hyl]; exact hi), List.getElem?_eq_getElem _⟩
    obtain ⟨y0, g0⟩ := hget 0 (by omega); obtain ⟨y1, g1⟩ := hget 1 (by omega); obtain ⟨y2, g2⟩ := hget 2 (by omega)
    obtain ⟨y3, g3⟩ := hget 3 (by omega); obtain ⟨y4, g4⟩ := hget 4 (by omega)
    have t0 : DataW.trod enc Tryz.prog W 0 (fun _ => true) true fuel 3 (([c0, c1, c2, c3, c4, c5, c6, c7, c8, c9].drop 0).take (Tryz.prog.cellsOf 3)) = some y0 := (hfs 0 _ rfl).trans g0
    have t1 : DataW.trod enc Tryz.prog W 0 (fun _ => true) true fuel 9 (([c0, c1, c2, c3, c4, c5, c6, c7, c8, c9].drop 1).take (Tryz.prog.cellsOf 9)) = some y1 := (hfs 1 _ rfl).trans g1
    have t2 : DataW.trod enc Tryz.prog W 0 (fun _ => true) true fuel 26 (([c0, c1, c2, c3, c4, c5, c6, c7, c8, c9].drop 2).take (Tryz.prog.cellsOf 26)) = some y2 := (hfs 2 _ rfl).trans g2
    have t3 : DataW.trod enc Tryz.prog W 0 (fun _ => true) true fuel 23 (([c0, c1, c2, c3, c4, c5, c6, c7, c8, c9].drop 8).take (Tryz.prog.cellsOf 23)) = some y3 := (hfs 3 _ rfl).trans g3
    have t4 : DataW.trod enc Tryz.prog W 0 (fun _ => true) true fuel 27 (([c0, c1, c2, c3, c4, c5, c6, c7, c8, c9].drop 9).take (Tryz.prog.cellsOf 27)) = some y4 := (hfs 4 _ rfl).trans g4
    have hp : ∀ (j : Nat) (u : TypeId) (y : DataW H × List MemPlace), _ → ys[j]? = some y → Fits u y.1 := fun j u y h1 h2 => parts_mem Tryz.underlying29 (j := j) h1 (by rw [List.getElem?_map, h2]; rfl) hw
    have w1 : Fits 9 y1.1 := hp 1 9 y1 rfl g1
    have w2 : Fits 26 y2.1 := hp 2 26 y2 rfl g2
    have w3 : Fits 23 y3.1 := hp 3 23 y3 rfl g3
    have w5 : Fits 27 y4.1 := hp 4 27 y4 rfl g4
    simp only [show Tryz.prog.cellsOf 3 = 1 from by kernel_rfl, List.drop_zero, List.take_succ_cons, List.take_zero] at t0
    simp only [show Tryz.prog.cellsOf 9 = 1 from by kernel_rfl, List.drop_succ_cons, List.drop_zero, List.take_succ_cons, List.take_zero] at t1
    simp only [show Tryz.prog.cellsOf 26 = 6 from by kernel_rfl, List.drop_succ_cons, List.drop_zero, List.take_succ_cons, List.take_zero] at t2
    simp only [show Tryz.prog.cellsOf 23 = 1 from by kernel_rfl, List.drop_succ_cons, List.drop_zero, List.take_succ_cons, List.take_zero] at t3
    simp only [show Tryz.prog.cellsOf 27 = 1 from by kernel_rfl, List.drop_succ_cons, List.drop_zero, List.take_succ_cons, List.take_zero] at t4
    obtain ⟨x0, e0, _, r0⟩ := DataW.trod_int Tryz.underlying3 t0
    obtain ⟨x1, e1, d1, _⟩ := DataW.trod_string Tryz.underlying9 t1
    obtain ⟨v, e2, hv⟩ := val_open fuel _ y2 t2 w2
    obtain ⟨na, ns, e3, q1, q2, q3⟩ := names_open t3 w3
    have hs1 : strok x1 := str_ok d1 w1
    unfold Val.cells at e2
    injection e0 with e0 _; injection e1 with e1 _; injection e3 with e3 _
    injection e2 with f0 e2; injection e2 with f1 e2; injection e2 with f2 e2; injection e2 with f3 e2; injection e2 with f4 e2; injection e2 with f5 e2
    subst e0 e1 f0 f1 f2 f3 f4 f5 e3
    have hin : ∀ (xa : Sl) (xs : List Exp), c9 = xa.val xs.length → xs.length ≤ 879609302195 → xa.lies W 10 xs.length (fun i => (xs.getD i Exp.zero).cells) → (∀ y, y ∈ xs → y.In W) →
        ∃ u : Exp, [.int .i64 x0, .string x1, .int .i64 v.k, .int .i64 v.n, .float .f64 v.f, .string v.s, v.na.val v.ns.length, v.xa.val v.xs.length, na.val ns.length, c9] = u.cells ∧ u.In W := fun xa xs h1 h2 h3 h4 =>
      ⟨.mk x0 x1 v na ns xa xs, by rw [h1]; rfl, (Exp.in_iff W _).2 ⟨⟨i64_wf r0, hs1, q1, h2, q2⟩, hv, q3, h3, h4⟩⟩
    rcases DataW.trod_slice Tryz.underlying27 t4 with ⟨e5, _⟩ | ⟨a, len, cap, elems, rest, n', hn', e5, hx5, hb5, hlc, hcm, hel, hi, hsp, _⟩
    · injection e5 with e5 _
      exact hin .no [] e5 (by simp) rfl (fun y hy => by simp at hy)
    · injection e5 with e5 _
      obtain ⟨hrl, hrj⟩ := hsp rfl
      have hbytes : cap * 160 ≤ 140737488351232 := by
        refine w5 _ ?_
        rw [hx5]
        have hbo : Tryz.prog.bytesOf 29 = 160 := by kernel_rfl
        simp only [DataW.weights, Tryz.underlying27, List.length_map, hbo, List.mem_cons]
        left
        rw [hel, hrl]
        omega
      have hcell : ∀ i, i < cap → ∃ cs', W.cells? 0 (a.add (i * 10)) 10 = some cs' := fun i hic => by
        rcases Nat.lt_or_ge i len with h' | h'
        · have := hi i h'
          rw [List.getElem?_eq_getElem (by omega)] at this
          obtain ⟨cs', h1, h2⟩ := Option.bind_eq_some_iff.1 this
          rw [show Tryz.prog.cellsOf 29 = 10 from by kernel_rfl] at h1
          exact ⟨cs', h1⟩
        · have := hrj (i - len) (by omega)
          rw [List.getElem?_eq_getElem (by omega)] at this
          obtain ⟨cs', h1, h2⟩ := Option.bind_eq_some_iff.1 this
          rw [show Tryz.prog.cellsOf 29 = 10 from by kernel_rfl, show len + (i - len) = i by omega] at h1
          exact ⟨cs', h1⟩
      have hv' : ∀ i, i < len → ∃ v : Exp, W.cells? 0 (a.add (i * 10)) 10 = some v.cells ∧ v.In W := fun i hil => by
        have := hi i hil
        rw [List.getElem?_eq_getElem (by omega)] at this
        obtain ⟨cs', h1, h2⟩ := Option.bind_eq_some_iff.1 this
        rw [show Tryz.prog.cellsOf 29 = 10 from by kernel_rfl] at h1
        obtain ⟨v, rfl, hvi⟩ := exp_open fuel cs' (elems[i]'(by omega)) (DataW.trod_le (by omega) h2) (fun y hy => w5 y (by
          rw [hx5]
          simp only [DataW.weights, Tryz.underlying27, List.mem_cons, List.mem_append]
          right; left
          exact weightsAll_mem (List.mem_map.2 ⟨_, List.getElem_mem _, rfl⟩) hy))
        exact ⟨v, h1, hvi⟩
      obtain ⟨xs, hxl, hxs⟩ := exists_list len hv'
      rcases Nat.eq_zero_or_pos cap with h0 | h0
      · obtain rfl : cap = 0 := h0
        obtain rfl : len = 0 := by omega
        exact hin (.odd a) [] e5 (by simp) rfl (fun y hy => by simp at hy)
      · obtain ⟨cs', hc'⟩ := hcell 0 h0
        obtain ⟨_, hcl, hat⟩ := World.cells?_some hc'
        have h00 := hat 0 (by omega)
        rw [List.getElem?_eq_getElem (by omega)] at h00
        have ha0 : (a.add (0 * 10)).add 0 = a := by simp [Addr.add]
        rw [ha0] at h00
        have hspot := cell_spot h00
        have hlt := cell_lt h00
        refine hin (.at_ a.block a.off cap) xs (by rw [e5, hxl]; show Value.slice (some a) len cap = _; rw [Sl.val, ← hspot]) (by omega) ⟨by omega, by unfold maxLen at hcm; exact hcm, fun i hi' j hj => ⟨?_, hlt⟩⟩ (fun y hy => ?_)
        · obtain ⟨_, _, hat⟩ := World.cells?_some (hxs i hi').1
          have := hat j hj
          rw [Go.Deep.add_add, hspot, Addr.add_lit] at this
          rw [this]
          simp [hi']
        · obtain ⟨i, hi', rfl⟩ := List.getElem_of_mem hy
          exact (hxs i hi').2
theorem arg_exp {v : Value} {cs : Array Value} (e : v = .agg cs) {d : DataW H} {p : List MemPlace} (h : DataW.Trod enc Tryz.prog W 0 (fun _ => true) true 29 v d p)
    {ts : List TypeId} {ds : List (DataW H)} (j : Nat) (hsz : (DataW.weightsEach Tryz.prog ts ds).all (· ≤ reachBytes) = true) (ht : ts[j]? = some 29) (hd : ds[j]? = some d) :
    ∃ u : Exp, v = u.agg ∧ u.In W := by
  subst e
  obtain ⟨fuel, hf⟩ := h
  obtain ⟨u, he, hu⟩ := exp_open fuel _ _ hf (fun y hy => by
    have := List.all_eq_true.1 hsz y (weightsEach_mem ht hd hy)
    exact of_decide_eq_true this)
  refine ⟨u, ?_, hu⟩
  simp only [Value.cells] at he
  show Value.agg cs = .agg _
  congr 1
  exact Array.ext' he
set_option maxRecDepth 100000 in
set_option maxHeartbeats 2000000 in
theorem var_open (fuel : Nat) (cs : List Value) (x : DataW H × List MemPlace) (h : DataW.trod enc Tryz.prog W 0 (fun _ => true) true fuel 56 cs = some x) (hw : Fits 56 x.1) : ∃ v : Var, cs = v.cells ∧ v.In W := by
  cases fuel with
  | zero => simp [DataW.trod] at h
  | succ fuel =>
    obtain ⟨ys, n, hn, rfl, hl, hyl, hfs⟩ := DataW.trod_struct Tryz.underlying56 h
    have hnf : n = fuel := by omega
    rw [hnf] at hfs
    rw [show Tryz.prog.cellsOf 56 = 11 from by kernel_rfl] at hl
    obtain ⟨c0, c1, c2, c3, c4, c5, c6, c7, c8, c9, ca, rfl⟩ : ∃ c0 c1 c2 c3 c4 c5 c6 c7 c8 c9 ca, cs = [c0, c1, c2, c3, c4, c5, c6, c7, c8, c9, ca] := by
      match cs, hl with
      | [c0, c1, c2, c3, c4, c5, c6, c7, c8, c9, ca], _ => exact ⟨c0, c1, c2, c3, c4, c5, c6, c7, c8, c9, ca, rfl⟩
    have hget : ∀ i, i < 4 → ∃ y, ys[i]? = some y := fun i hi => ⟨ys[i]'(by rw [hyl]; exact hi), List.getElem?_eq_getElem _⟩
    obtain ⟨y0, g0⟩ := hget 0 (by omega); obtain ⟨y1, g1⟩ := hget 1 (by omega); obtain ⟨y2, g2⟩ := hget 2 (by omega); obtain ⟨y3, g3⟩ := hget 3 (by omega)
    have t0 : DataW.trod enc Tryz.prog W 0 (fun _ => true) true fuel 9 (([c0, c1, c2, c3, c4, c5, c6, c7, c8, c9, ca].drop 0).take (Tryz.prog.cellsOf 9)) = some y0 := (hfs 0 _ rfl).trans g0
    have t1 : DataW.trod enc Tryz.prog W 0 (fun _ => true) true fuel 3 (([c0, c1, c2, c3, c4, c5, c6, c7, c8, c9, ca].drop 1).take (Tryz.prog.cellsOf 3)) = some y1 := (hfs 1 _ rfl).trans g1
    have t2 : DataW.trod enc Tryz.prog W 0 (fun _ => true) true fuel 36 (([c0, c1, c2, c3, c4, c5, c6, c7, c8, c9, ca].drop 2).take (Tryz.prog.cellsOf 36)) = some y2 := (hfs 2 _ rfl).trans g2
    have t3 : DataW.trod enc Tryz.prog W 0 (fun _ => true) true fuel 26 (([c0, c1, c2, c3, c4, c5, c6, c7, c8, c9, ca].drop 5).take (Tryz.prog.cellsOf 26)) = some y3 := (hfs 3 _ rfl).trans g3
    have hp : ∀ (j : Nat) (u : TypeId) (y : DataW H × List MemPlace), _ → ys[j]? = some y → Fits u y.1 := fun j u y h1 h2 => parts_mem Tryz.underlying56 (j := j) h1 (by rw [List.getElem?_map, h2]; rfl) hw
    have w0 : Fits 9 y0.1 := hp 0 9 y0 rfl g0
    have w2 : Fits 36 y2.1 := hp 2 36 y2 rfl g2
    have w3 : Fits 26 y3.1 := hp 3 26 y3 rfl g3
    simp only [show Tryz.prog.cellsOf 9 = 1 from by kernel_rfl, List.drop_succ_cons, List.drop_zero, List.take_succ_cons, List.take_zero] at t0
    simp only [show Tryz.prog.cellsOf 3 = 1 from by kernel_rfl, List.drop_succ_cons, List.drop_zero, List.take_succ_cons, List.take_zero] at t1
    simp only [show Tryz.prog.cellsOf 36 = 3 from by kernel_rfl, List.drop_succ_cons, List.drop_zero, List.take_succ_cons, List.take_zero] at t2
    simp only [show Tryz.prog.cellsOf 26 = 6 from by kernel_rfl, List.drop_succ_cons, List.drop_zero, List.take_succ_cons, List.take_zero] at t3
    obtain ⟨x0, e0, d0, _⟩ := DataW.trod_string Tryz.underlying9 t0
    obtain ⟨x1, e1, _, r1⟩ := DataW.trod_int Tryz.underlying3 t1
    obtain ⟨t, e2, ht⟩ := ty_open fuel _ y2 t2 w2
    obtain ⟨v, e3, hv⟩ := val_open fuel _ y3 t3 w3
    have hs0 : strok x0 := str_ok d0 w0
    unfold Val.cells at e3
    unfold Ty.cells at e2
    injection e0 with e0 _; injection e1 with e1 _
    injection e2 with h0 e2; injection e2 with h1 e2; injection e2 with h2 e2
    injection e3 with f0 e3; injection e3 with f1 e3; injection e3 with f2 e3; injection e3 with f3 e3; injection e3 with f4 e3; injection e3 with f5 e3
    subst e0 e1 h0 h1 h2 f0 f1 f2 f3 f4 f5
    exact ⟨⟨x0, x1, t, v⟩, rfl, hs0, i64_wf r1, ht, hv⟩
set_option maxRecDepth 100000 in
set_option maxHeartbeats 2000000 in
theorem vars_open {fuel : Nat} {cs : List Value} {x : DataW H × List MemPlace} (h : DataW.trod enc Tryz.prog W 0 (fun _ => true) true fuel 30 cs = some x) (hw : Fits 30 x.1) :
    ∃ (vs : List Var) (p : Option Addr) (c : Nat), cs = [.slice p vs.length c] ∧ VarsIn W p c vs := by
  rcases DataW.trod_slice Tryz.underlying30 h with ⟨e5, _⟩ | ⟨a, len, cap, elems, rest, n', hn', e5, hx5, hb5, hlc, hcm, hel, hi, hsp, _⟩
  · exact ⟨[], none, 0, by rw [e5]; rfl, ⟨by simp, by simp, fun i hi => by simp at hi⟩⟩
  · rw [e5]
    obtain ⟨hrl, hrj⟩ := hsp rfl
    have hbytes : cap * 168 ≤ 140737488351232 := by
      refine hw _ ?_
      rw [hx5]
      have hbo : Tryz.prog.bytesOf 56 = 168 := by kernel_rfl
      simp only [DataW.weights, Tryz.underlying30, List.length_map, hbo, List.mem_cons]
      left
      rw [hel, hrl]
      omega
    have hcell : ∀ i, i < cap → ∃ cs', W.cells? 0 (a.add (i * 11)) 11 = some cs' := fun i hic => by
      rcases Nat.lt_or_ge i len with h' | h'
      · have := hi i h'
        rw [List.getElem?_eq_getElem (by omega)] at this
        obtain ⟨cs', h1, h2⟩ := Option.bind_eq_some_iff.1 this
        rw [show Tryz.prog.cellsOf 56 = 11 from by kernel_rfl] at h1
        exact ⟨cs', h1⟩
      · have := hrj (i - len) (by omega)
        rw [List.getElem?_eq_getElem (by omega)] at this
        obtain ⟨cs', h1, h2⟩ := Option.bind_eq_some_iff.1 this
        rw [show Tryz.prog.cellsOf 56 = 11 from by kernel_rfl, show len + (i - len) = i by omega] at h1
        exact ⟨cs', h1⟩
    have hv' : ∀ i, i < len → ∃ v : Var, W.cells? 0 (a.add (i * 11)) 11 = some v.cells ∧ v.In W := fun i hil => by
      have := hi i hil
      rw [List.getElem?_eq_getElem (by omega)] at this
      obtain ⟨cs', h1, h2⟩ := Option.bind_eq_some_iff.1 this
      rw [show Tryz.prog.cellsOf 56 = 11 from by kernel_rfl] at h1
      obtain ⟨v, rfl, hvi⟩ := var_open n' cs' (elems[i]'(by omega)) (h2) (fun y hy => hw y (by
        rw [hx5]
        simp only [DataW.weights, Tryz.underlying30, List.mem_cons, List.mem_append]
        right; left
        exact weightsAll_mem (List.mem_map.2 ⟨_, List.getElem_mem _, rfl⟩) hy))
      exact ⟨v, h1, hvi⟩
    obtain ⟨xs, hxl, hxs⟩ := exists_list len hv'
    refine ⟨xs, some a, cap, by rw [hxl], ⟨by omega, by omega, fun i hi' => ?_⟩⟩
    obtain ⟨cs', hc'⟩ := hcell i (by omega)
    have h00 := (World.cells?_some (hxs 0 (by omega)).1).2.2 0 (by omega)
    have ha0 : (a.add (0 * 11)).add 0 = a := by simp [Addr.add]
    rw [ha0] at h00
    have h01 : W.cell? a = some (.string (xs[0]'(by omega)).n) := h00
    have hspot := cell_spot h01
    have hlt := cell_lt h01
    refine ⟨a.block, a.off, by rw [← hspot], fun j hj => ?_, hlt, (hxs i hi').2⟩
    obtain ⟨_, _, hat⟩ := World.cells?_some (hxs i hi').1
    have := hat j hj
    rw [Go.Deep.add_add, hspot, Addr.add_lit] at this
    rw [Nat.add_assoc]
    exact this
set_option maxRecDepth 100000 in
theorem arg_vars {v : Value} {base : Nat} (hk : Value.okWide Tryz.prog W .any base 30 v) {d : DataW H} {p : List MemPlace} (h : DataW.Trod enc Tryz.prog W 0 (fun _ => true) true 30 v d p)
    {ts : List TypeId} {ds : List (DataW H)} (j : Nat) (hsz : (DataW.weightsEach Tryz.prog ts ds).all (· ≤ reachBytes) = true) (ht : ts[j]? = some 30) (hd : ds[j]? = some d) :
    ∃ (vs : List Var) (p : Option Addr) (c : Nat), v = .slice p vs.length c ∧ VarsIn W p c vs := by
  obtain ⟨o, l, c, rfl⟩ := okWide_slice Tryz.underlying30 hk
  obtain ⟨fuel, hf⟩ := h
  obtain ⟨vs, p, c', he, hu⟩ := vars_open hf (fun y hy => by
    have := List.all_eq_true.1 hsz y (weightsEach_mem ht hd hy)
    exact of_decide_eq_true this)
  simp only [Value.cells] at he
  injection he with he _
  exact ⟨vs, p, c', he, hu⟩
end
end Go.Proofs.YtjpdbhhjlnmacaaGreat

/- Words that the laws on types.Check share (printed by wip/gen_typesparts.py). -/
namespace Go.Proofs.YtjpdbhhjlnmacaaGreat
set_option linter.unusedVariables false
open Go.RowKit

/-- What a check answers, both ways at once. -/
def CAns (x : Exp) (vs : List Var) (T : Ty) (k : Int) : Prop := (k = 0 ∧ checkF x vs = .ok T.erase) ∨ (k ≠ 0 ∧ checkF x vs = .error k ∧ T.erase = Ty.zero)
theorem checked_both (x : Exp) (vs : List Var) (vp : Option Addr) (vc : Nat) (w : World) (hx : x.In w) (hv : VarsIn w vp vc vs) :
    Calls Tryz.prog 11 #[x.agg, .slice vp vs.length vc] w fun e w' => ∃ (T : Ty) (k : Int), e = .returned (.tuple #[T.agg, .int .i64 k]) ∧ T.In w' ∧ CAns x vs T k ∧ Below w.heap.size w w' := by
  refine (checkf_any x vs vp vc w hx hv).mono ?_
  rintro e w' ⟨hb, hr⟩
  cases h : checkF x vs with
  | error k =>
    rw [h] at hr
    exact ⟨Ty.zero, k, hr, tzero_in _, .inr ⟨checkF_err h, h, rfl⟩, hb⟩
  | ok v =>
    rw [h] at hr
    obtain ⟨u, he, hue, hui, hus⟩ := hr
    exact ⟨u, 0, he, hui, .inl ⟨rfl, by rw [h, hue]⟩, hb⟩
/-- An expression of one kid that lies in a row of its own. -/
theorem one_in {W : World} {k : Int} {s : ByteArray} {na : Sl} {ns : List ByteArray} {y : Exp} {g : Nat} (hk : i64r k) (hs : strok s) (hn : ns.length ≤ 1) (hns : ∀ s, s ∈ ns → strok s) (hna : na.lies W 1 ns.length (fun i => [.string (ns.getD i ByteArray.empty)])) (hy : y.In W) (hg : Blk W g 29 y.cells.toArray) :
    (Exp.mk k s Val.zero na ns (.at_ g 0 1) [y]).In W := by
  rw [Exp.in_iff]
  refine ⟨⟨hk, hs, by show ns.length ≤ _; omega, by show 1 ≤ _; omega, hns⟩, ?_, hna, ⟨Nat.le_refl _, by omega, fun i hi j hj => ⟨?_, hg.lt⟩⟩, fun z hz => ?_⟩
  · rw [show (Exp.mk k s Val.zero na ns (.at_ g 0 1) [y]).v = Val.zero from rfl, Val.in_iff]
    exact ⟨⟨by unfold i64r; decide, by unfold i64r; decide, by decide, by unfold strok; decide, by decide, by decide, fun s h => by simp [Val.ns] at h⟩, rfl, rfl, fun x hx => by simp [Val.xs] at hx⟩
  · obtain rfl : i = 0 := by have : i < 1 := hi; omega
    rw [hg.cell]
    show y.cells.toArray[0 + (0 * 10 + j)]? = y.cells[j]?
    rw [List.getElem?_toArray]
    congr 1
    omega
  · obtain rfl : z = y := by simpa [Exp.xs] using hz
    exact hy
theorem cells3x {W : World} {Q : Nat} {T : TypeId} {v0 v1 v2 : Value} (h : Blk W Q T #[v0, v1, v2]) : ∀ W', Below W.heap.size W W' → W'.cell? ⟨Q, 0, none⟩ = some v0 ∧ W'.cell? ⟨Q, 1, none⟩ = some v1 ∧ W'.cell? ⟨Q, 2, none⟩ = some v2 := fun W' hb =>
  ⟨(h.below hb h.lt).cell 0, (h.below hb h.lt).cell 1, (h.below hb h.lt).cell 2⟩
theorem cells10 {W : World} {Q : Nat} {T : TypeId} {v0 v1 v2 v3 v4 v5 v6 v7 v8 v9 : Value} (h : Blk W Q T #[v0, v1, v2, v3, v4, v5, v6, v7, v8, v9]) : ∀ W', Below W.heap.size W W' → W'.cell? ⟨Q, 0, none⟩ = some v0 ∧ W'.cell? ⟨Q, 1, none⟩ = some v1 ∧ W'.cell? ⟨Q, 2, none⟩ = some v2 ∧ W'.cell? ⟨Q, 3, none⟩ = some v3 ∧ W'.cell? ⟨Q, 4, none⟩ = some v4 ∧ W'.cell? ⟨Q, 5, none⟩ = some v5 ∧ W'.cell? ⟨Q, 6, none⟩ = some v6 ∧ W'.cell? ⟨Q, 7, none⟩ = some v7 ∧ W'.cell? ⟨Q, 8, none⟩ = some v8 ∧ W'.cell? ⟨Q, 9, none⟩ = some v9 := fun W' hb =>
  ⟨(h.below hb h.lt).cell 0, (h.below hb h.lt).cell 1, (h.below hb h.lt).cell 2, (h.below hb h.lt).cell 3, (h.below hb h.lt).cell 4, (h.below hb h.lt).cell 5, (h.below hb h.lt).cell 6, (h.below hb h.lt).cell 7, (h.below hb h.lt).cell 8, (h.below hb h.lt).cell 9⟩
end Go.Proofs.YtjpdbhhjlnmacaaGreat
