/- codec.ReadUint, ReadInt, ReadStr at any bytes, from any place on. -/
import Derived.Test.YtemhinagajfemaaConeM4
import Derived.Test.YtemhinagajfemaaConeM26
namespace Go.Proofs.Ytemhinagajfemaa
set_option linter.unusedVariables false
open Go.RowKit

theorem run_enter {P : Program} {f : FuncId} {fn : Func} {c : Code} (hf : P.funcs[f]? = some fn) (hname : (fn.name == "runtime.NumGoroutine") = false) (hb : fn.body = some c) (args : Array Value) (w : World) :
    (callFunc f args).run P w = .ok (.enter f args) w := by
  have h1 : fn.name ≠ "runtime.NumGoroutine" := by simpa using hname
  simp [callFunc, hf, h1, hb]
theorem enter_int (args : Array Value) (W : World) : (callFunc 53 args).run Try.prog W = .ok (.enter 53 args) W := run_enter Try.func53 (by kernel_rfl) rfl args W
theorem enter_str (args : Array Value) (W : World) : (callFunc 55 args).run Try.prog W = .ok (.enter 55 args) W := run_enter Try.func55 (by kernel_rfl) rfl args W

theorem apart_blk {b m : Nat} {t : TypeId} {cs : Array Value} (h : m < b) : Apart2 b (fun W => Blk W m t cs) := fun W p u hp hq => Blk.far hq (by rcases hp with h' | h' <;> omega) u

/-- The place behind what was read, or the error. -/
def place {A : Type} (r : Except Int (A × Nat)) : Except Int Nat := match r with
  | .ok (_, q) => .ok q
  | .error k => .error k

set_option maxHeartbeats 1000000 in
theorem clo_int_ok (s : ByteArray) (p : Nat) (parts : Int) (g m n q : Nat) (w : World) (hs : s.size ≤ 100000) (hp : p ≤ s.size) (h : At w g s p parts) (hm : Blk w m 2 #[.int .i64 0]) (hgm : g ≠ m) (hu : readU s p 0 0 = .ok (n, q)) :
    Calls Try.prog 53 #[.pointer (some ⟨g, 0, none⟩), .pointer (some ⟨m, 0, none⟩)] w fun e w' => CloDid (.ok q) s g m (fun W => Blk W m 2 #[.int .i64 (unzig n)]) (fun W => Blk W m 2 #[.int .i64 0]) w e w' := by
  have hr := rint_any s p parts g w hs hp h
  rw [hu] at hr
  have HR := Lib.hid hr
  have HM := Lib.hid hm
  clear hr hu h hm
  go_enter Try.func53, Try.ntmps53
  go_wp2_with fail
  refine HR.out.mono ?_
  rintro e w2 ⟨rfl, ha2, ho2⟩
  have hm2 : Blk w2 m 2 #[.int .i64 0] := HM.out.grown ho2 (by simp; omega)
  have c0 := hm2.cell 0
  have f0 := hm2.frozen 0
  simp at c0
  have hm3 := hm2.set_ 0 (.int .i64 (unzig n))
  have ha3 := Blk.far ha2 (p := ⟨m, 0, none⟩) hgm (.int .i64 (unzig n))
  have HM3 := Lib.hid hm3; have HA3 := Lib.hid ha3; have HO2 := Lib.hid ho2
  clear hm3 ha3 ho2 hm2 ha2
  go_wp2
  go_end0
  exact ⟨w2, HO2.out, (Only.refl w2 m).set_ (p := ⟨m, 0, none⟩) (.inl rfl) _, rfl, ⟨parts, HA3.out⟩, HM3.out⟩
set_option maxHeartbeats 1000000 in
theorem clo_int_no (s : ByteArray) (p : Nat) (parts k : Int) (g m : Nat) (w : World) (Q : World → Prop) (hs : s.size ≤ 100000) (hp : p ≤ s.size) (h : At w g s p parts) (hm : Blk w m 2 #[.int .i64 0]) (hgm : g ≠ m) (hu : readU s p 0 0 = .error k) :
    Calls Try.prog 53 #[.pointer (some ⟨g, 0, none⟩), .pointer (some ⟨m, 0, none⟩)] w fun e w' => CloDid (.error k) s g m Q (fun W => Blk W m 2 #[.int .i64 0]) w e w' := by
  have hr := rint_any s p parts g w hs hp h
  rw [hu] at hr
  have HR := Lib.hid hr
  have HM := Lib.hid hm
  clear hr hu h hm
  go_enter Try.func53, Try.ntmps53
  go_wp2_with fail
  refine HR.out.mono ?_
  rintro e w2 ⟨rfl, ho2⟩
  unfold gives
  go_wp2
  exact ⟨rfl, w2, ho2, Only.refl w2 m, rfl, HM.out.grown ho2 (by simp; omega)⟩

def IntTold (r : Except Int (Nat × Nat)) (w : World) (e : Ending) (w' : World) : Prop :=
  Below w.heap.size w w' ∧ match r with
    | .ok (n, q) => e = .returned (.tuple #[.int .i64 (unzig n), .int .i64 q, .int .i64 0])
    | .error k => e = .returned (.tuple #[.int .i64 0, .int .i64 0, .int .i64 k])

set_option maxHeartbeats 1000000 in
theorem readint_any (s : ByteArray) (p : Nat) (w : World) (hs : s.size ≤ 100000) (hp : p ≤ s.size) :
    Calls Try.prog 15 #[.string s, .int .i64 p] w fun e w' => IntTold (readU s p 0 0) w e w' := by
  have hmf : ∀ (fn : Fn) (first cap : Array Value) (w : World), (Instr.makeFunc fn first cap).run Try.prog w = .ok (.func fn first cap) w := fun _ _ _ _ => rfl
  obtain ⟨W, hW⟩ : ∃ W, W = w.alloc (.cells #[.int .i64 0] 2) := ⟨_, rfl⟩
  have bm : Blk W w.heap.size 2 #[.int .i64 0] := by rw [hW]; exact Blk.new w 2 _
  have hB : Below w.heap.size w W := by rw [hW]; exact (Below.refl _ _).alloc (Nat.le_refl _) _
  have hlt := bm.lt
  cases hu : readU s p 0 0 with
  | ok nq =>
    obtain ⟨n, q⟩ := nq
    have hr := reads_any 53 #[.pointer (some ⟨w.heap.size, 0, none⟩)] (.ok q) s p w.heap.size (fun W => Blk W w.heap.size 2 #[.int .i64 (unzig n)]) (fun W => Blk W w.heap.size 2 #[.int .i64 0]) W hs hp hlt enter_int (apart_blk hlt) (apart_blk hlt)
      (fun W' hb hz ha => clo_int_ok s p 0 _ w.heap.size n q W' hs hp ha (bm.below hb hlt) (by omega) hu)
    have HW := Lib.hid hW; have HB := Lib.hid hB; have HR := Lib.hid hr
    clear hW bm hB hr hu
    go_enter Try.func15, Try.ntmps15
    go_wp2_with fail
    rw [← HW.out]
    refine HR.out.mono ?_
    rintro e w2 ⟨ho, rfl, hb⟩
    have c0 := hb.cell 0
    have f0 := hb.frozen 0
    have c1 := (hb.set_ 0 (.int .i64 (unzig n))).cell 0
    simp at c0 c1
    have hl := (Go.Proofs.Ytemhinagajfemaa.Below.only HB.out ho (Nat.le_refl _) HB.out.size).setCell (p := ⟨w.heap.size, 0, none⟩) (Nat.le_refl _) (.int .i64 (unzig n))
    have HL := Lib.hid hl
    clear hl ho hb HR HB HW
    go_wp2
    refine bodyPost_ret (v := .tuple #[.int .i64 (unzig n), .int .i64 q, .int .i64 0]) (by simp [results, Try.results15, go_sem, c1]) rfl ?_
    exact ⟨HL.out, rfl⟩
  | error k =>
    have hr := reads_any 53 #[.pointer (some ⟨w.heap.size, 0, none⟩)] (.error k) s p w.heap.size (fun W => True) (fun W => Blk W w.heap.size 2 #[.int .i64 0]) W hs hp hlt enter_int (fun _ _ _ _ h => h) (apart_blk hlt)
      (fun W' hb hz ha => clo_int_no s p 0 k _ w.heap.size W' _ hs hp ha (bm.below hb hlt) (by omega) hu)
    have HW := Lib.hid hW; have HB := Lib.hid hB; have HR := Lib.hid hr
    clear hW bm hB hr hu
    go_enter Try.func15, Try.ntmps15
    go_wp2_with fail
    rw [← HW.out]
    refine HR.out.mono ?_
    rintro e w2 ⟨ho, rfl, hb⟩
    have c0 := hb.cell 0
    have f0 := hb.frozen 0
    have c1 := (hb.set_ 0 (.int .i64 0)).cell 0
    simp at c0 c1
    have hl := (Go.Proofs.Ytemhinagajfemaa.Below.only HB.out ho (Nat.le_refl _) HB.out.size).setCell (p := ⟨w.heap.size, 0, none⟩) (Nat.le_refl _) (.int .i64 0)
    have HL := Lib.hid hl
    clear hl ho hb HR HB HW
    go_wp2
    refine bodyPost_ret (v := .tuple #[.int .i64 0, .int .i64 0, .int .i64 k]) (by simp [results, Try.results15, go_sem, c1]) rfl ?_
    exact ⟨HL.out, rfl⟩

set_option maxHeartbeats 1000000 in
theorem clo_str_ok (s : ByteArray) (p : Nat) (parts most : Int) (g c m q : Nat) (t : ByteArray) (w : World) (hs : s.size ≤ 100000) (hp : p ≤ s.size) (hm1 : -9223372036854775808 ≤ most) (hm2 : most ≤ 9223372036854775807) (h : At w g s p parts) (hc : Blk w c 3 #[.int .i64 most]) (hm : Blk w m 9 #[.string ⟨#[]⟩]) (hgm : g ≠ m) (hgc : g ≠ c) (hu : readS s p most = .ok (t, q)) :
    Calls Try.prog 55 #[.pointer (some ⟨g, 0, none⟩), .pointer (some ⟨c, 0, none⟩), .pointer (some ⟨m, 0, none⟩)] w fun e w' => CloDid (.ok q) s g m (fun W => Blk W m 9 #[.string t]) (fun W => Blk W m 9 #[.string ⟨#[]⟩]) w e w' := by
  have hr := rstr_any s p parts most g w hs hp hm1 hm2 h
  rw [hu] at hr
  have d0 := hc.cell 0
  simp at d0
  have HR := Lib.hid hr
  have HM := Lib.hid hm
  clear hr hu h hm hc
  go_enter Try.func55, Try.ntmps55
  go_wp2_with fail
  refine HR.out.mono ?_
  rintro e w2 ⟨rfl, ha2, ho2⟩
  have hmm2 : Blk w2 m 9 #[.string ⟨#[]⟩] := HM.out.grown ho2 (by simp; omega)
  have c0 := hmm2.cell 0
  have f0 := hmm2.frozen 0
  simp at c0
  have hm3 := hmm2.set_ 0 (.string t)
  have ha3 := Blk.far ha2 (p := ⟨m, 0, none⟩) hgm (.string t)
  have HM3 := Lib.hid hm3; have HA3 := Lib.hid ha3; have HO2 := Lib.hid ho2
  clear hm3 ha3 ho2 hmm2 ha2
  go_wp2
  go_end0
  exact ⟨w2, HO2.out, (Only.refl w2 m).set_ (p := ⟨m, 0, none⟩) (.inl rfl) _, rfl, ⟨parts, HA3.out⟩, HM3.out⟩
set_option maxHeartbeats 1000000 in
theorem clo_str_no (s : ByteArray) (p : Nat) (parts most k : Int) (g c m : Nat) (w : World) (Q : World → Prop) (hs : s.size ≤ 100000) (hp : p ≤ s.size) (hm1 : -9223372036854775808 ≤ most) (hm2 : most ≤ 9223372036854775807) (h : At w g s p parts) (hc : Blk w c 3 #[.int .i64 most]) (hm : Blk w m 9 #[.string ⟨#[]⟩]) (hgm : g ≠ m) (hu : readS s p most = .error k) :
    Calls Try.prog 55 #[.pointer (some ⟨g, 0, none⟩), .pointer (some ⟨c, 0, none⟩), .pointer (some ⟨m, 0, none⟩)] w fun e w' => CloDid (.error k) s g m Q (fun W => Blk W m 9 #[.string ⟨#[]⟩]) w e w' := by
  have hr := rstr_any s p parts most g w hs hp hm1 hm2 h
  rw [hu] at hr
  have d0 := hc.cell 0
  simp at d0
  have HR := Lib.hid hr
  have HM := Lib.hid hm
  clear hr hu h hm hc
  go_enter Try.func55, Try.ntmps55
  go_wp2_with fail
  refine HR.out.mono ?_
  rintro e w2 ⟨rfl, ho2⟩
  unfold gives
  go_wp2
  exact ⟨rfl, w2, ho2, Only.refl w2 m, rfl, HM.out.grown ho2 (by simp; omega)⟩

def StrTold (r : Except Int (ByteArray × Nat)) (w : World) (e : Ending) (w' : World) : Prop :=
  Below w.heap.size w w' ∧ match r with
    | .ok (t, q) => e = .returned (.tuple #[.string t, .int .i64 q, .int .i64 0])
    | .error k => e = .returned (.tuple #[.string ⟨#[]⟩, .int .i64 0, .int .i64 k])

set_option maxHeartbeats 1000000 in
theorem readstr_any (s : ByteArray) (p : Nat) (most : Int) (w : World) (hs : s.size ≤ 100000) (hp : p ≤ s.size) (hm1 : -9223372036854775808 ≤ most) (hm2 : most ≤ 9223372036854775807) :
    Calls Try.prog 16 #[.string s, .int .i64 p, .int .i64 most] w fun e w' => StrTold (readS s p most) w e w' := by
  have hmf : ∀ (fn : Fn) (first cap : Array Value) (w : World), (Instr.makeFunc fn first cap).run Try.prog w = .ok (.func fn first cap) w := fun _ _ _ _ => rfl
  obtain ⟨W, hW⟩ : ∃ W, W = (w.alloc (.cells #[.int .i64 most] 3)).alloc (.cells #[.string ⟨#[]⟩] 9) := ⟨_, rfl⟩
  have bc : Blk W w.heap.size 3 #[.int .i64 most] := by rw [hW]; exact (Blk.new w 3 _).alloc _
  have bm : Blk W (w.heap.size + 1) 9 #[.string ⟨#[]⟩] := by
    rw [hW]
    have := Blk.new (w.alloc (.cells #[.int .i64 most] 3)) 9 #[.string ⟨#[]⟩]
    rw [alloc_size'] at this
    exact this
  have hB : Below w.heap.size w W := by rw [hW]; exact ((Below.refl _ _).alloc (Nat.le_refl _) _).alloc (by simp) _
  have hlt := bm.lt
  have hltc := bc.lt
  cases hu : readS s p most with
  | ok nq =>
    obtain ⟨t, q⟩ := nq
    have hr := reads_any 55 #[.pointer (some ⟨w.heap.size, 0, none⟩), .pointer (some ⟨w.heap.size + 1, 0, none⟩)] (.ok q) s p (w.heap.size + 1) (fun W => Blk W (w.heap.size + 1) 9 #[.string t]) (fun W => Blk W (w.heap.size + 1) 9 #[.string ⟨#[]⟩]) W hs hp hlt enter_str (apart_blk hlt) (apart_blk hlt)
      (fun W' hb hz ha => clo_str_ok s p 0 most _ w.heap.size (w.heap.size + 1) q t W' hs hp hm1 hm2 ha (bc.below hb hltc) (bm.below hb hlt) (by omega) (by omega) hu)
    have HW := Lib.hid hW; have HB := Lib.hid hB; have HR := Lib.hid hr
    clear hW bm bc hB hr hu
    go_enter Try.func16, Try.ntmps16
    go_wp2_with fail
    rw [← HW.out]
    refine HR.out.mono ?_
    rintro e w2 ⟨ho, rfl, hb⟩
    have c0 := hb.cell 0
    have f0 := hb.frozen 0
    have c1 := (hb.set_ 0 (.string t)).cell 0
    simp at c0 c1
    have hl := (Go.Proofs.Ytemhinagajfemaa.Below.only HB.out ho (by omega) HB.out.size).setCell (p := ⟨w.heap.size + 1, 0, none⟩) (by simp) (.string t)
    have HL := Lib.hid hl
    clear hl ho hb HR HB HW
    go_wp2
    refine bodyPost_ret (v := .tuple #[.string t, .int .i64 q, .int .i64 0]) (by simp [results, Try.results16, go_sem, c1]) rfl ?_
    exact ⟨HL.out, rfl⟩
  | error k =>
    have hr := reads_any 55 #[.pointer (some ⟨w.heap.size, 0, none⟩), .pointer (some ⟨w.heap.size + 1, 0, none⟩)] (.error k) s p (w.heap.size + 1) (fun W => True) (fun W => Blk W (w.heap.size + 1) 9 #[.string ⟨#[]⟩]) W hs hp hlt enter_str (fun _ _ _ _ h => h) (apart_blk hlt)
      (fun W' hb hz ha => clo_str_no s p 0 most k _ w.heap.size (w.heap.size + 1) W' _ hs hp hm1 hm2 ha (bc.below hb hltc) (bm.below hb hlt) (by omega) hu)
    have HW := Lib.hid hW; have HB := Lib.hid hB; have HR := Lib.hid hr
    clear hW bm bc hB hr hu
    go_enter Try.func16, Try.ntmps16
    go_wp2_with fail
    rw [← HW.out]
    refine HR.out.mono ?_
    rintro e w2 ⟨ho, rfl, hb⟩
    have c0 := hb.cell 0
    have f0 := hb.frozen 0
    have c1 := (hb.set_ 0 (.string ⟨#[]⟩)).cell 0
    simp at c0 c1
    have hl := (Go.Proofs.Ytemhinagajfemaa.Below.only HB.out ho (by omega) HB.out.size).setCell (p := ⟨w.heap.size + 1, 0, none⟩) (by simp) (.string ⟨#[]⟩)
    have HL := Lib.hid hl
    clear hl ho hb HR HB HW
    go_wp2
    refine bodyPost_ret (v := .tuple #[.string ⟨#[]⟩, .int .i64 0, .int .i64 k]) (by simp [results, Try.results16, go_sem, c1]) rfl ?_
    exact ⟨HL.out, rfl⟩

set_option maxHeartbeats 1000000 in
theorem readuint_out (s : ByteArray) (at_ : Int) (w : World) (hs : s.size ≤ 100000) (hp : at_ < 0 ∨ (s.size : Int) < at_) :
    Calls Try.prog 14 #[.string s, .int .i64 at_] w fun e w' => Below w.heap.size w w' ∧ e = .returned (.tuple #[.int .u64 0, .int .i64 0, .int .i64 3]) := by
  have hmf : ∀ (fn : Fn) (first cap : Array Value) (w : World), (Instr.makeFunc fn first cap).run Try.prog w = .ok (.func fn first cap) w := fun _ _ _ _ => rfl
  obtain ⟨W, hW⟩ : ∃ W, W = w.alloc (.cells #[.int .u64 0] 22) := ⟨_, rfl⟩
  have bm : Blk W (w.heap.size) 22 #[.int .u64 0] := by
    rw [hW]
    exact Blk.new w 22 _
  have hB : Below w.heap.size w W := by rw [hW]; first | exact (Below.refl _ _).alloc (Nat.le_refl _) _ | exact ((Below.refl _ _).alloc (Nat.le_refl _) _).alloc (by simp) _
  have hlt := bm.lt
  have hr := reads_out 51 #[.pointer (some ⟨w.heap.size, 0, none⟩)] s at_ W hs hp
  have HW := Lib.hid hW; have HB := Lib.hid hB; have HR := Lib.hid hr; have HM := Lib.hid bm
  clear hW bm hB hr
  go_enter Try.func14, Try.ntmps14
  go_wp2_with fail
  rw [← HW.out]
  refine HR.out.mono ?_
  rintro e w2 ⟨rfl, ho⟩
  have hb := HM.out.below ho hlt
  have c0 := hb.cell 0
  have f0 := hb.frozen 0
  have c1 := (hb.set_ 0 (.int .u64 0)).cell 0
  simp at c0 c1
  have hl := (HB.out.trans (ho.mono HB.out.size)).setCell (p := ⟨w.heap.size, 0, none⟩) (by simp) (.int .u64 0)
  have HL := Lib.hid hl
  clear hl ho hb HR HB HW
  go_wp2
  refine bodyPost_ret (v := .tuple #[.int .u64 0, .int .i64 0, .int .i64 3]) (by simp [results, Try.results14, go_sem, c1]) rfl ?_
  exact ⟨HL.out, rfl⟩

set_option maxHeartbeats 1000000 in
theorem readint_out (s : ByteArray) (at_ : Int) (w : World) (hs : s.size ≤ 100000) (hp : at_ < 0 ∨ (s.size : Int) < at_) :
    Calls Try.prog 15 #[.string s, .int .i64 at_] w fun e w' => Below w.heap.size w w' ∧ e = .returned (.tuple #[.int .i64 0, .int .i64 0, .int .i64 3]) := by
  have hmf : ∀ (fn : Fn) (first cap : Array Value) (w : World), (Instr.makeFunc fn first cap).run Try.prog w = .ok (.func fn first cap) w := fun _ _ _ _ => rfl
  obtain ⟨W, hW⟩ : ∃ W, W = w.alloc (.cells #[.int .i64 0] 2) := ⟨_, rfl⟩
  have bm : Blk W (w.heap.size) 2 #[.int .i64 0] := by
    rw [hW]
    exact Blk.new w 2 _
  have hB : Below w.heap.size w W := by rw [hW]; first | exact (Below.refl _ _).alloc (Nat.le_refl _) _ | exact ((Below.refl _ _).alloc (Nat.le_refl _) _).alloc (by simp) _
  have hlt := bm.lt
  have hr := reads_out 53 #[.pointer (some ⟨w.heap.size, 0, none⟩)] s at_ W hs hp
  have HW := Lib.hid hW; have HB := Lib.hid hB; have HR := Lib.hid hr; have HM := Lib.hid bm
  clear hW bm hB hr
  go_enter Try.func15, Try.ntmps15
  go_wp2_with fail
  rw [← HW.out]
  refine HR.out.mono ?_
  rintro e w2 ⟨rfl, ho⟩
  have hb := HM.out.below ho hlt
  have c0 := hb.cell 0
  have f0 := hb.frozen 0
  have c1 := (hb.set_ 0 (.int .i64 0)).cell 0
  simp at c0 c1
  have hl := (HB.out.trans (ho.mono HB.out.size)).setCell (p := ⟨w.heap.size, 0, none⟩) (by simp) (.int .i64 0)
  have HL := Lib.hid hl
  clear hl ho hb HR HB HW
  go_wp2
  refine bodyPost_ret (v := .tuple #[.int .i64 0, .int .i64 0, .int .i64 3]) (by simp [results, Try.results15, go_sem, c1]) rfl ?_
  exact ⟨HL.out, rfl⟩

set_option maxHeartbeats 1000000 in
theorem readstr_out (s : ByteArray) (at_ most : Int) (w : World) (hs : s.size ≤ 100000) (hp : at_ < 0 ∨ (s.size : Int) < at_) :
    Calls Try.prog 16 #[.string s, .int .i64 at_, .int .i64 most] w fun e w' => Below w.heap.size w w' ∧ e = .returned (.tuple #[.string ⟨#[]⟩, .int .i64 0, .int .i64 3]) := by
  have hmf : ∀ (fn : Fn) (first cap : Array Value) (w : World), (Instr.makeFunc fn first cap).run Try.prog w = .ok (.func fn first cap) w := fun _ _ _ _ => rfl
  obtain ⟨W, hW⟩ : ∃ W, W = (w.alloc (.cells #[.int .i64 most] 3)).alloc (.cells #[.string ⟨#[]⟩] 9) := ⟨_, rfl⟩
  have bm : Blk W (w.heap.size + 1) 9 #[.string ⟨#[]⟩] := by
    rw [hW]
    have := Blk.new (w.alloc (.cells #[.int .i64 most] 3)) 9 #[.string ⟨#[]⟩]
    rw [alloc_size'] at this
    exact this
  have hB : Below w.heap.size w W := by rw [hW]; first | exact (Below.refl _ _).alloc (Nat.le_refl _) _ | exact ((Below.refl _ _).alloc (Nat.le_refl _) _).alloc (by simp) _
  have hlt := bm.lt
  have hr := reads_out 55 #[.pointer (some ⟨w.heap.size, 0, none⟩), .pointer (some ⟨w.heap.size + 1, 0, none⟩)] s at_ W hs hp
  have HW := Lib.hid hW; have HB := Lib.hid hB; have HR := Lib.hid hr; have HM := Lib.hid bm
  clear hW bm hB hr
  go_enter Try.func16, Try.ntmps16
  go_wp2_with fail
  rw [← HW.out]
  refine HR.out.mono ?_
  rintro e w2 ⟨rfl, ho⟩
  have hb := HM.out.below ho hlt
  have c0 := hb.cell 0
  have f0 := hb.frozen 0
  have c1 := (hb.set_ 0 (.string ⟨#[]⟩)).cell 0
  simp at c0 c1
  have hl := (HB.out.trans (ho.mono HB.out.size)).setCell (p := ⟨w.heap.size + 1, 0, none⟩) (by simp) (.string ⟨#[]⟩)
  have HL := Lib.hid hl
  clear hl ho hb HR HB HW
  go_wp2
  refine bodyPost_ret (v := .tuple #[.string ⟨#[]⟩, .int .i64 0, .int .i64 3]) (by simp [results, Try.results16, go_sem, c1]) rfl ?_
  exact ⟨HL.out, rfl⟩
end Go.Proofs.Ytemhinagajfemaa
