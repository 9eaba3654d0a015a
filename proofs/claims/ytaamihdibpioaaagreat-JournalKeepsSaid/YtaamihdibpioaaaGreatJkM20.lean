/- The code's reader: a value that has no items (printed by wip/gen_rdval.py). -/
import Derived.Test.YtaamihdibpioaaaGreatJkM18
import Derived.Test.YtaamihdibpioaaaGreatJkM19
namespace Go.Proofs.YtaamihdibpioaaaGreat
set_option linter.unusedVariables false
open Go.RowKit

def ValRead (r : Except Int (Val × Nat × Nat)) (s : ByteArray) (g : Nat) (w : World) (e : Ending) (w' : World) : Prop :=
  Only w w' g ∧ match r with
  | .ok (v, q, m) => ∃ u : Val, e = .returned u.agg ∧ u.erase = v ∧ u.In w' ∧ u.Sep (fun b => w.heap.size ≤ b) ∧ At w' g s q (m : Int)
  | .error k => e = gives k
theorem only_far {w a b : World} {g V : Nat} (h : Only w a g) (k : Only a b V) (hV : w.heap.size ≤ V) : Only w b g :=
  ⟨k.os.trans h.os, k.tape.trans h.tape, k.output.trans h.output, Nat.le_trans h.size k.size, fun i hi hne => (k.block i (Nat.lt_of_lt_of_le hi h.size) (by simp; omega)).trans (h.block i hi hne)⟩
theorem blk_set {W : World} {g i : Nat} {T : TypeId} {l : List Value} (hb : Blk W g T l.toArray) (u : Value) : Blk (W.setCell ⟨g, i, none⟩ u) g T (l.set i u).toArray := by
  have := hb.set_ i u
  simpa using this
theorem stored6' {w5 : World} {g : Nat} {T : TypeId} {x0 x1 x2 x3 x4 x5 : Value} (hb : Blk w5 g T [x0, x1, x2, x3, x4, x5].toArray) (u0 u1 u2 u3 u4 u5 : Value) :
    Blk ((((((w5.setCell ⟨g, 0, none⟩ u0).setCell ⟨g, 1, none⟩ u1).setCell ⟨g, 2, none⟩ u2).setCell ⟨g, 3, none⟩ u3).setCell ⟨g, 4, none⟩ u4).setCell ⟨g, 5, none⟩ u5) g T [u0, u1, u2, u3, u4, u5].toArray ∧ Only w5 ((((((w5.setCell ⟨g, 0, none⟩ u0).setCell ⟨g, 1, none⟩ u1).setCell ⟨g, 2, none⟩ u2).setCell ⟨g, 3, none⟩ u3).setCell ⟨g, 4, none⟩ u4).setCell ⟨g, 5, none⟩ u5) g :=
  ⟨blk_set (i := 5) (blk_set (i := 4) (blk_set (i := 3) (blk_set (i := 2) (blk_set (i := 1) (blk_set (i := 0) hb u0) u1) u2) u3) u4) u5,
    ((((((Only.refl w5 g).set_ (.inl rfl) _).set_ (.inl rfl) _).set_ (.inl rfl) _).set_ (.inl rfl) _).set_ (.inl rfl) _).set_ (.inl rfl) _⟩

/-- A reader in block g, and a value that is being made in block V, both behind what was there in w. -/
structure RS (TE : TypeId) (w wr : World) (g V : Nat) (s : ByteArray) (q : Nat) (m : Int) (cs : List Value) : Prop where
  rd : At wr g s q m
  blk : Blk wr V TE cs.toArray
  only : Only w wr g
  lt : g < V
  eq : V = w.heap.size
section
variable {TE : TypeId} {w wr w2 : World} {g V : Nat} {s : ByteArray} {q q' : Nat} {m m' : Int} {cs : List Value}
theorem RS.read (h : RS TE w wr g V s q m cs) (ha : At w2 g s q' m') (ho : Only wr w2 g) : RS TE w w2 g V s q' m' cs :=
  ⟨ha, h.blk.grown ho (by have := h.lt; simp; omega), h.only.trans ho, h.lt, h.eq⟩
theorem RS.set_ (h : RS TE w wr g V s q m cs) (i : Nat) (u : Value) : RS TE w (wr.setCell ⟨V, i, none⟩ u) g V s q m (cs.set i u) :=
  ⟨Blk.far h.rd (by have := h.lt; simp; omega) u, blk_set h.blk u, h.only.set_ (p := ⟨V, i, none⟩) (.inr (by rw [h.eq]; exact Nat.le_refl _)) u, h.lt, h.eq⟩
theorem RS.cell (h : RS TE w wr g V s q m cs) (i : Nat) : wr.cell? ⟨V, i, none⟩ = cs[i]? := by rw [h.blk.cell]; simp
theorem RS.frozen (h : RS TE w wr g V s q m cs) (i : Nat) : wr.frozen? ⟨V, i, none⟩ = false := h.blk.frozen i
theorem RS.vlt (h : RS TE w wr g V s q m cs) : V < wr.heap.size := h.blk.lt
theorem RS.start (w : World) (g : Nat) (s : ByteArray) (q : Nat) (m : Int) (cs : List Value) (h : At w g s q m) : RS TE w (w.alloc (.cells cs.toArray TE)) g w.heap.size s q m cs :=
  ⟨h.alloc _, Blk.new w TE _, (Only.refl w g).alloc _, h.lt, rfl⟩
theorem RS.six {x0 x1 x2 x3 x4 x5 : Value} (h : RS TE w wr g V s q m [x0, x1, x2, x3, x4, x5]) (u0 u1 u2 u3 u4 u5 : Value) :
    RS TE w ((((((wr.setCell ⟨V, 0, none⟩ u0).setCell ⟨V, 1, none⟩ u1).setCell ⟨V, 2, none⟩ u2).setCell ⟨V, 3, none⟩ u3).setCell ⟨V, 4, none⟩ u4).setCell ⟨V, 5, none⟩ u5) g V s q m [u0, u1, u2, u3, u4, u5] := by
  have := stored6' h.blk u0 u1 u2 u3 u4 u5
  exact ⟨Blk.grown h.rd this.2 (by have := h.lt; simp; omega), this.1, only_far h.only this.2 (by rw [h.eq]; exact Nat.le_refl _), h.lt, h.eq⟩
theorem stored3 {w5 : World} {g : Nat} {T : TypeId} {x0 x1 x2 : Value} (hb : Blk w5 g T [x0, x1, x2].toArray) (u0 u1 u2 : Value) :
    Blk (((w5.setCell ⟨g, 0, none⟩ u0).setCell ⟨g, 1, none⟩ u1).setCell ⟨g, 2, none⟩ u2) g T [u0, u1, u2].toArray ∧ Only w5 (((w5.setCell ⟨g, 0, none⟩ u0).setCell ⟨g, 1, none⟩ u1).setCell ⟨g, 2, none⟩ u2) g :=
  ⟨blk_set (i := 2) (blk_set (i := 1) (blk_set (i := 0) hb u0) u1) u2, (((Only.refl w5 g).set_ (.inl rfl) _).set_ (.inl rfl) _).set_ (.inl rfl) _⟩
theorem RS.three {x0 x1 x2 : Value} (h : RS TE w wr g V s q m [x0, x1, x2]) (u0 u1 u2 : Value) :
    RS TE w (((wr.setCell ⟨V, 0, none⟩ u0).setCell ⟨V, 1, none⟩ u1).setCell ⟨V, 2, none⟩ u2) g V s q m [u0, u1, u2] := by
  have := stored3 h.blk u0 u1 u2
  exact ⟨Blk.grown h.rd this.2 (by have := h.lt; simp; omega), this.1, only_far h.only this.2 (by rw [h.eq]; exact Nat.le_refl _), h.lt, h.eq⟩
theorem leaf_end {k n : Int} {f M : Nat} {t : ByteArray} {cs : List Value} (h : RS 37 w wr g V s q (M : Int) cs) {r : Except Int (Val × Nat × Nat)} (hr : r = .ok (.mk k n f t .no [] .no [], q, M)) (hk : i64r k) (hn : i64r n) (hf : f < 18446744073709551616) (ht : strok t) :
    ValRead r s g w (.returned (.agg #[.int .i64 k, .int .i64 n, .float .f64 f, .string t, .slice none 0 0, .slice none 0 0])) wr := by
  refine ⟨h.only, ?_⟩
  rw [hr]
  refine ⟨.mk k n f t .no [] .no [], rfl, rfl, ?_, ?_, h.rd⟩
  · rw [Val.in_iff]
    exact ⟨⟨hk, hn, hf, ht, by simp [Val.ns], by simp [Val.xs], fun s h => by simp [Val.ns] at h⟩, rfl, rfl, fun x hx => by simp [Val.xs] at hx⟩
  · rw [Val.sep_iff]
    exact ⟨trivial, trivial, fun x hx => by simp [Val.xs] at hx⟩
end
theorem byte_k (s : ByteArray) (p : Nat) (parts : Int) (g k : Nat) (w : World) (hs : s.size ≤ 100000) (hp : p < s.size) (h : At w g s p parts) (hk : (byteAt s p).toNat = k) :
    Calls Tryz.prog 150 #[.pointer (some ⟨g, 0, none⟩)] w fun e w' => e = .returned (.int .u8 k) ∧ At w' g s (p + 1) parts ∧ Only w w' g :=
  (byte_ok s p parts g w hs hp h).mono fun e w' ⟨he, ha, ho⟩ => ⟨by rw [he, ← byteAt_eq, hk], ha, ho⟩

set_option maxHeartbeats 2000000 in
set_option maxRecDepth 100000 in
theorem rv_begin (s : ByteArray) (hs : s.size ≤ 100000) (d p m deep g : Nat) (w : World) (hd : deep + d = 12) (hp : p ≤ s.size) (hm : m ≤ 200) (hm1 : 200 < m + 1) (h : At w g s p (m : Int)) :
    Calls Tryz.prog 153 #[.pointer (some ⟨g, 0, none⟩), .int .i64 deep] w fun e w' => ValRead (rdV s (d + 1) p m) s g w e w' := by

  have hsf := run_store_flt
  obtain ⟨V, hV⟩ : ∃ V, V = w.heap.size := ⟨_, rfl⟩
  obtain ⟨W, hW⟩ : ∃ W, W = w.alloc (.cells #[.int .i64 0, .int .i64 0, .float .f64 0, .string ⟨#[]⟩, .slice none 0 0, .slice none 0 0] 37) := ⟨_, rfl⟩
  have hst : RS 37 w W g V s p (m : Int) [.int .i64 0, .int .i64 0, .float .f64 0, .string ⟨#[]⟩, .slice none 0 0, .slice none 0 0] := by rw [hV, hW]; exact RS.start w g s p m _ h
  have HV := Lib.hid hV; have HW := Lib.hid hW; have HS0 := Lib.hid hst
  clear hV hW hst h
  have HE : Hid (rdV s (d + 1) p m = .error 5) := Lib.hid (by unfold rdV; rw [if_pos hm1])
  have HBEG := Lib.hid (rbegin_bad s p m deep g W hm (.inr hm1) HS0.out.rd)

  go_enter Tryz.func153, Tryz.ntmps153
  go_wp2_with fail
  rw [← HW.out, ← HV.out]
  refine HBEG.out.mono ?_
  rintro e w1 ⟨rfl, ho1⟩
  have ho := HS0.out.only.trans ho1

  unfold gives
  go_wp2
  refine ⟨rfl, ?_⟩
  refine ⟨ho, ?_⟩
  rw [HE.out]
  rfl

set_option maxHeartbeats 2000000 in
set_option maxRecDepth 100000 in
theorem rv_deep (s : ByteArray) (hs : s.size ≤ 100000) (p m g : Nat) (w : World) (hp : p ≤ s.size) (hm : m ≤ 200) (h : At w g s p (m : Int)) :
    Calls Tryz.prog 153 #[.pointer (some ⟨g, 0, none⟩), .int .i64 13] w fun e w' => ValRead (rdV s 0 p m) s g w e w' := by

  have hsf := run_store_flt
  obtain ⟨V, hV⟩ : ∃ V, V = w.heap.size := ⟨_, rfl⟩
  obtain ⟨W, hW⟩ : ∃ W, W = w.alloc (.cells #[.int .i64 0, .int .i64 0, .float .f64 0, .string ⟨#[]⟩, .slice none 0 0, .slice none 0 0] 37) := ⟨_, rfl⟩
  have hst : RS 37 w W g V s p (m : Int) [.int .i64 0, .int .i64 0, .float .f64 0, .string ⟨#[]⟩, .slice none 0 0, .slice none 0 0] := by rw [hV, hW]; exact RS.start w g s p m _ h
  have HV := Lib.hid hV; have HW := Lib.hid hW; have HS0 := Lib.hid hst
  clear hV hW hst h
  have HE : Hid (rdV s 0 p m = .error 5) := Lib.hid (by unfold rdV; rfl)
  have HBEG := Lib.hid (rbegin_bad s p m 13 g W hm (.inl (by omega)) HS0.out.rd)

  go_enter Tryz.func153, Tryz.ntmps153
  go_wp2_with fail
  rw [← HW.out, ← HV.out]
  refine HBEG.out.mono ?_
  rintro e w1 ⟨rfl, ho1⟩
  have ho := HS0.out.only.trans ho1

  unfold gives
  go_wp2
  refine ⟨rfl, ?_⟩
  refine ⟨ho, ?_⟩
  rw [HE.out]
  rfl

set_option maxHeartbeats 2000000 in
set_option maxRecDepth 100000 in
theorem rv_torn (s : ByteArray) (hs : s.size ≤ 100000) (d p m deep g : Nat) (w : World) (hd : deep + d = 12) (hp : p ≤ s.size) (hm : m ≤ 200) (hm1 : m + 1 ≤ 200) (hin : ¬ p < s.size) (h : At w g s p (m : Int)) :
    Calls Tryz.prog 153 #[.pointer (some ⟨g, 0, none⟩), .int .i64 deep] w fun e w' => ValRead (rdV s (d + 1) p m) s g w e w' := by

  have hsf := run_store_flt
  obtain ⟨V, hV⟩ : ∃ V, V = w.heap.size := ⟨_, rfl⟩
  obtain ⟨W, hW⟩ : ∃ W, W = w.alloc (.cells #[.int .i64 0, .int .i64 0, .float .f64 0, .string ⟨#[]⟩, .slice none 0 0, .slice none 0 0] 37) := ⟨_, rfl⟩
  have hst : RS 37 w W g V s p (m : Int) [.int .i64 0, .int .i64 0, .float .f64 0, .string ⟨#[]⟩, .slice none 0 0, .slice none 0 0] := by rw [hV, hW]; exact RS.start w g s p m _ h
  have HV := Lib.hid hV; have HW := Lib.hid hW; have HS0 := Lib.hid hst
  clear hV hW hst h

  have HBEG := Lib.hid (rbegin_ok s p m deep g W (by omega) hm1 HS0.out.rd)
  have HE : Hid (rdV s (d + 1) p m = .error 14) := Lib.hid (by unfold rdV; rw [if_neg (by omega), if_pos (by omega)])

  go_enter Tryz.func153, Tryz.ntmps153
  go_wp2_with fail
  rw [← HW.out, ← HV.out]

  refine HBEG.out.mono ?_
  rintro e w1 ⟨rfl, ha1, ho1⟩
  have HS1 := Lib.hid (HS0.out.read ha1 ho1)
  clear ha1 ho1 HBEG HW
  have HB1 := Lib.hid (byte_torn s p ((m + 1 : Nat) : Int) g w1 hs (by omega) (by omega) HS1.out.rd)
  go_wp2_with fail
  refine HB1.out.mono ?_
  rintro e w2 ⟨rfl, ho2⟩
  have ho := HS1.out.only.trans ho2

  unfold gives
  go_wp2
  refine ⟨rfl, ?_⟩
  refine ⟨ho, ?_⟩
  rw [HE.out]
  rfl

set_option maxHeartbeats 2000000 in
set_option maxRecDepth 100000 in
theorem rv_bool_torn (s : ByteArray) (hs : s.size ≤ 100000) (d p m deep g : Nat) (w : World) (hd : deep + d = 12) (hp : p ≤ s.size) (hm : m ≤ 200) (hm1 : m + 1 ≤ 200) (hin : p < s.size) (hk : (byteAt s p).toNat = 1) (h2 : ¬ p + 1 < s.size) (h : At w g s p (m : Int)) :
    Calls Tryz.prog 153 #[.pointer (some ⟨g, 0, none⟩), .int .i64 deep] w fun e w' => ValRead (rdV s (d + 1) p m) s g w e w' := by

  have hsf := run_store_flt
  obtain ⟨V, hV⟩ : ∃ V, V = w.heap.size := ⟨_, rfl⟩
  obtain ⟨W, hW⟩ : ∃ W, W = w.alloc (.cells #[.int .i64 0, .int .i64 0, .float .f64 0, .string ⟨#[]⟩, .slice none 0 0, .slice none 0 0] 37) := ⟨_, rfl⟩
  have hst : RS 37 w W g V s p (m : Int) [.int .i64 0, .int .i64 0, .float .f64 0, .string ⟨#[]⟩, .slice none 0 0, .slice none 0 0] := by rw [hV, hW]; exact RS.start w g s p m _ h
  have HV := Lib.hid hV; have HW := Lib.hid hW; have HS0 := Lib.hid hst
  clear hV hW hst h

  have HBEG := Lib.hid (rbegin_ok s p m deep g W (by omega) hm1 HS0.out.rd)
  have HE : Hid (rdV s (d + 1) p m = .error 14) := Lib.hid (by unfold rdV; rw [if_neg (by omega), if_neg (by omega), if_pos hk, if_pos (by omega)])

  go_enter Tryz.func153, Tryz.ntmps153
  go_wp2_with fail
  rw [← HW.out, ← HV.out]

  refine HBEG.out.mono ?_
  rintro e w1 ⟨rfl, ha1, ho1⟩
  have HS1 := Lib.hid (HS0.out.read ha1 ho1)
  clear ha1 ho1 HBEG HW

  have HB1 := Lib.hid (byte_k s p ((m + 1 : Nat) : Int) g 1 w1 hs hin HS1.out.rd hk)
  go_wp2_with fail
  refine HB1.out.mono ?_
  rintro e w2 ⟨rfl, ha2, ho2⟩
  have HS2 := Lib.hid (HS1.out.read ha2 ho2)
  clear ha2 ho2 HB1 HS1
  have c0 := HS2.out.cell 0; have f0 := HS2.out.frozen 0; have hvl := HS2.out.vlt
  simp only [List.getElem?_cons_zero, List.getElem?_cons_succ] at c0
  obtain ⟨W2, hW2⟩ : ∃ W2, W2 = w2.setCell ⟨V, 0, none⟩ (.int .i64 1) := ⟨_, rfl⟩
  have hs3 : RS 37 w W2 g V s (p + 1) ((m + 1 : Nat) : Int) [.int .i64 1, .int .i64 0, .float .f64 0, .string ⟨#[]⟩, .slice none 0 0, .slice none 0 0] := by rw [hW2]; exact HS2.out.set_ 0 _
  have HS3 := Lib.hid hs3; have HW2 := Lib.hid hW2
  clear hs3 hW2
  go_upto_region 3 with fail
  rw [← HW2.out]
  clear c0 f0 hvl HS2
  have c0 := HS3.out.cell 0; have hvl := HS3.out.vlt
  simp only [List.getElem?_cons_zero, List.getElem?_cons_succ] at c0
  have HB2 := Lib.hid (byte_torn s (p + 1) ((m + 1 : Nat) : Int) g W2 hs (by omega) (by omega) HS3.out.rd)
  go_wp2_with fail
  refine HB2.out.mono ?_
  rintro e w3 ⟨rfl, ho3⟩
  have ho := HS3.out.only.trans ho3

  unfold gives
  go_wp2
  refine ⟨rfl, ?_⟩
  refine ⟨ho, ?_⟩
  rw [HE.out]
  rfl

set_option maxHeartbeats 2000000 in
set_option maxRecDepth 100000 in
theorem rv_bool_bad (s : ByteArray) (hs : s.size ≤ 100000) (d p m deep g : Nat) (w : World) (hd : deep + d = 12) (hp : p ≤ s.size) (hm : m ≤ 200) (hm1 : m + 1 ≤ 200) (hin : p < s.size) (hk : (byteAt s p).toNat = 1) (h2 : p + 1 < s.size) (h3 : ¬ (byteAt s (p + 1)).toNat ≤ 1) (h : At w g s p (m : Int)) :
    Calls Tryz.prog 153 #[.pointer (some ⟨g, 0, none⟩), .int .i64 deep] w fun e w' => ValRead (rdV s (d + 1) p m) s g w e w' := by

  have hsf := run_store_flt
  obtain ⟨V, hV⟩ : ∃ V, V = w.heap.size := ⟨_, rfl⟩
  obtain ⟨W, hW⟩ : ∃ W, W = w.alloc (.cells #[.int .i64 0, .int .i64 0, .float .f64 0, .string ⟨#[]⟩, .slice none 0 0, .slice none 0 0] 37) := ⟨_, rfl⟩
  have hst : RS 37 w W g V s p (m : Int) [.int .i64 0, .int .i64 0, .float .f64 0, .string ⟨#[]⟩, .slice none 0 0, .slice none 0 0] := by rw [hV, hW]; exact RS.start w g s p m _ h
  have HV := Lib.hid hV; have HW := Lib.hid hW; have HS0 := Lib.hid hst
  clear hV hW hst h

  have HBEG := Lib.hid (rbegin_ok s p m deep g W (by omega) hm1 HS0.out.rd)
  have HE : Hid (rdV s (d + 1) p m = .error 5) := Lib.hid (by unfold rdV; rw [if_neg (by omega), if_neg (by omega), if_pos hk, if_neg (by omega), if_neg h3])
  obtain ⟨c, hc⟩ : ∃ c, c = (byteAt s (p + 1)).toNat := ⟨_, rfl⟩
  have hc8 : c < 256 := by rw [hc]; exact (byteAt s (p + 1)).toNat_lt
  rw [← hc] at h3
  have i1 : decide ((c : Int) ≤ 1) = false := by simp; omega
  have HC := Lib.hid hc
  clear hc

  go_enter Tryz.func153, Tryz.ntmps153
  go_wp2_with fail
  rw [← HW.out, ← HV.out]

  refine HBEG.out.mono ?_
  rintro e w1 ⟨rfl, ha1, ho1⟩
  have HS1 := Lib.hid (HS0.out.read ha1 ho1)
  clear ha1 ho1 HBEG HW

  have HB1 := Lib.hid (byte_k s p ((m + 1 : Nat) : Int) g 1 w1 hs hin HS1.out.rd hk)
  go_wp2_with fail
  refine HB1.out.mono ?_
  rintro e w2 ⟨rfl, ha2, ho2⟩
  have HS2 := Lib.hid (HS1.out.read ha2 ho2)
  clear ha2 ho2 HB1 HS1
  have c0 := HS2.out.cell 0; have f0 := HS2.out.frozen 0; have hvl := HS2.out.vlt
  simp only [List.getElem?_cons_zero, List.getElem?_cons_succ] at c0
  obtain ⟨W2, hW2⟩ : ∃ W2, W2 = w2.setCell ⟨V, 0, none⟩ (.int .i64 1) := ⟨_, rfl⟩
  have hs3 : RS 37 w W2 g V s (p + 1) ((m + 1 : Nat) : Int) [.int .i64 1, .int .i64 0, .float .f64 0, .string ⟨#[]⟩, .slice none 0 0, .slice none 0 0] := by rw [hW2]; exact HS2.out.set_ 0 _
  have HS3 := Lib.hid hs3; have HW2 := Lib.hid hW2
  clear hs3 hW2
  go_upto_region 3 with fail
  rw [← HW2.out]
  clear c0 f0 hvl HS2
  have c0 := HS3.out.cell 0; have hvl := HS3.out.vlt
  simp only [List.getElem?_cons_zero, List.getElem?_cons_succ] at c0
  have HB2 := Lib.hid (byte_k s (p + 1) ((m + 1 : Nat) : Int) g c W2 hs h2 HS3.out.rd HC.out.symm)
  have hcv : IntKind.i64.wrap (c : Int) = (c : Int) := IntWalk.i64_in _ (by omega)
  go_wp2_with fail
  refine HB2.out.mono ?_
  rintro e w3 ⟨rfl, ha3, ho3⟩
  have HS4 := Lib.hid (HS3.out.read ha3 ho3)
  clear ha3 ho3 HB2 HS3 c0 hvl
  have c1 := HS4.out.cell 1; have f1 := HS4.out.frozen 1; have hvl := HS4.out.vlt
  simp only [List.getElem?_cons_zero, List.getElem?_cons_succ] at c1
  obtain ⟨W4, hW4⟩ : ∃ W4, W4 = w3.setCell ⟨V, 1, none⟩ (.int .i64 c) := ⟨_, rfl⟩
  have hs5 : RS 37 w W4 g V s (p + 2) ((m + 1 : Nat) : Int) [.int .i64 1, .int .i64 c, .float .f64 0, .string ⟨#[]⟩, .slice none 0 0, .slice none 0 0] := by rw [hW4]; exact HS4.out.set_ 1 _
  have HS5 := Lib.hid hs5; have HW4 := Lib.hid hW4
  clear hs5 hW4
  go_upto_region 7 with fail
  rw [← HW4.out]
  clear c1 f1 hvl HS4
  have c1 := HS5.out.cell 1
  simp only [List.getElem?_cons_zero, List.getElem?_cons_succ] at c1
  go_wp2_with fail
  refine (must_false _ _ _ (by first | rfl | (simp; omega))).mono ?_
  rintro e w5 ⟨rfl, rfl⟩
  have ho := HS5.out.only

  go_wp2
  refine ⟨rfl, ?_⟩
  refine ⟨ho, ?_⟩
  rw [HE.out]
  rfl

set_option maxHeartbeats 2000000 in
set_option maxRecDepth 100000 in
theorem rv_bool (s : ByteArray) (hs : s.size ≤ 100000) (d p m deep g : Nat) (w : World) (hd : deep + d = 12) (hp : p ≤ s.size) (hm : m ≤ 200) (hm1 : m + 1 ≤ 200) (hin : p < s.size) (hk : (byteAt s p).toNat = 1) (h2 : p + 1 < s.size) (h3 : (byteAt s (p + 1)).toNat ≤ 1) (h : At w g s p (m : Int)) :
    Calls Tryz.prog 153 #[.pointer (some ⟨g, 0, none⟩), .int .i64 deep] w fun e w' => ValRead (rdV s (d + 1) p m) s g w e w' := by

  have hsf := run_store_flt
  obtain ⟨V, hV⟩ : ∃ V, V = w.heap.size := ⟨_, rfl⟩
  obtain ⟨W, hW⟩ : ∃ W, W = w.alloc (.cells #[.int .i64 0, .int .i64 0, .float .f64 0, .string ⟨#[]⟩, .slice none 0 0, .slice none 0 0] 37) := ⟨_, rfl⟩
  have hst : RS 37 w W g V s p (m : Int) [.int .i64 0, .int .i64 0, .float .f64 0, .string ⟨#[]⟩, .slice none 0 0, .slice none 0 0] := by rw [hV, hW]; exact RS.start w g s p m _ h
  have HV := Lib.hid hV; have HW := Lib.hid hW; have HS0 := Lib.hid hst
  clear hV hW hst h

  have HBEG := Lib.hid (rbegin_ok s p m deep g W (by omega) hm1 HS0.out.rd)
  have HE : Hid (rdV s (d + 1) p m = .ok (Val.leafN 1 (byteAt s (p + 1)).toNat, p + 2, m + 1)) := Lib.hid (by unfold rdV; rw [if_neg (by omega), if_neg (by omega), if_pos hk, if_neg (by omega), if_pos h3])
  obtain ⟨c, hc⟩ : ∃ c, c = (byteAt s (p + 1)).toNat := ⟨_, rfl⟩
  have hc8 : c < 256 := by rw [hc]; exact (byteAt s (p + 1)).toNat_lt
  rw [← hc] at h3 HE
  have i1 : decide ((c : Int) ≤ 1) = true := by simp; omega
  have HC := Lib.hid hc
  clear hc

  go_enter Tryz.func153, Tryz.ntmps153
  go_wp2_with fail
  rw [← HW.out, ← HV.out]

  refine HBEG.out.mono ?_
  rintro e w1 ⟨rfl, ha1, ho1⟩
  have HS1 := Lib.hid (HS0.out.read ha1 ho1)
  clear ha1 ho1 HBEG HW

  have HB1 := Lib.hid (byte_k s p ((m + 1 : Nat) : Int) g 1 w1 hs hin HS1.out.rd hk)
  go_wp2_with fail
  refine HB1.out.mono ?_
  rintro e w2 ⟨rfl, ha2, ho2⟩
  have HS2 := Lib.hid (HS1.out.read ha2 ho2)
  clear ha2 ho2 HB1 HS1
  have c0 := HS2.out.cell 0; have f0 := HS2.out.frozen 0; have hvl := HS2.out.vlt
  simp only [List.getElem?_cons_zero, List.getElem?_cons_succ] at c0
  obtain ⟨W2, hW2⟩ : ∃ W2, W2 = w2.setCell ⟨V, 0, none⟩ (.int .i64 1) := ⟨_, rfl⟩
  have hs3 : RS 37 w W2 g V s (p + 1) ((m + 1 : Nat) : Int) [.int .i64 1, .int .i64 0, .float .f64 0, .string ⟨#[]⟩, .slice none 0 0, .slice none 0 0] := by rw [hW2]; exact HS2.out.set_ 0 _
  have HS3 := Lib.hid hs3; have HW2 := Lib.hid hW2
  clear hs3 hW2
  go_upto_region 3 with fail
  rw [← HW2.out]
  clear c0 f0 hvl HS2
  have c0 := HS3.out.cell 0; have hvl := HS3.out.vlt
  simp only [List.getElem?_cons_zero, List.getElem?_cons_succ] at c0
  have HB2 := Lib.hid (byte_k s (p + 1) ((m + 1 : Nat) : Int) g c W2 hs h2 HS3.out.rd HC.out.symm)
  have hcv : IntKind.i64.wrap (c : Int) = (c : Int) := IntWalk.i64_in _ (by omega)
  go_wp2_with fail
  refine HB2.out.mono ?_
  rintro e w3 ⟨rfl, ha3, ho3⟩
  have HS4 := Lib.hid (HS3.out.read ha3 ho3)
  clear ha3 ho3 HB2 HS3 c0 hvl
  have c1 := HS4.out.cell 1; have f1 := HS4.out.frozen 1; have hvl := HS4.out.vlt
  simp only [List.getElem?_cons_zero, List.getElem?_cons_succ] at c1
  obtain ⟨W4, hW4⟩ : ∃ W4, W4 = w3.setCell ⟨V, 1, none⟩ (.int .i64 c) := ⟨_, rfl⟩
  have hs5 : RS 37 w W4 g V s (p + 2) ((m + 1 : Nat) : Int) [.int .i64 1, .int .i64 c, .float .f64 0, .string ⟨#[]⟩, .slice none 0 0, .slice none 0 0] := by rw [hW4]; exact HS4.out.set_ 1 _
  have HS5 := Lib.hid hs5; have HW4 := Lib.hid hW4
  clear hs5 hW4
  go_upto_region 7 with fail
  rw [← HW4.out]
  clear c1 f1 hvl HS4
  have c1 := HS5.out.cell 1
  simp only [List.getElem?_cons_zero, List.getElem?_cons_succ] at c1
  go_wp2_with fail
  refine (must_true _ _ _ (by first | rfl | (simp; omega))).mono ?_
  rintro e w5 ⟨rfl, rfl⟩
  clear c1

  have e0 := HS5.out.cell 0; have e1 := HS5.out.cell 1; have e2 := HS5.out.cell 2; have e3 := HS5.out.cell 3; have e4 := HS5.out.cell 4; have e5 := HS5.out.cell 5
  have f0 := HS5.out.frozen 0; have f1 := HS5.out.frozen 1; have f2 := HS5.out.frozen 2; have f3 := HS5.out.frozen 3; have f4 := HS5.out.frozen 4; have f5 := HS5.out.frozen 5
  simp only [List.getElem?_cons_zero, List.getElem?_cons_succ] at e0 e1 e2 e3 e4 e5
  obtain ⟨WF, hWF⟩ : ∃ WF, WF = ((((((W4.setCell ⟨V, 0, none⟩ (.int .i64 1)).setCell ⟨V, 1, none⟩ (.int .i64 c)).setCell ⟨V, 2, none⟩ (.float .f64 0)).setCell ⟨V, 3, none⟩ (.string ⟨#[]⟩)).setCell ⟨V, 4, none⟩ (.slice none 0 0)).setCell ⟨V, 5, none⟩ (.slice none 0 0)) := ⟨_, rfl⟩
  have HSF : Hid (RS 37 w WF g V s _ _ [.int .i64 1, .int .i64 c, .float .f64 0, .string ⟨#[]⟩, .slice none 0 0, .slice none 0 0]) := Lib.hid (by rw [hWF]; exact HS5.out.six _ _ _ _ _ _)
  have HWF := Lib.hid hWF
  clear hWF
  go_wp2_with fail
  rw [← HWF.out]
  clear e0 e1 e2 e3 e4 e5 f0 f1 f2 f3 f4 f5
  have e0 := HSF.out.cell 0; have e1 := HSF.out.cell 1; have e2 := HSF.out.cell 2; have e3 := HSF.out.cell 3; have e4 := HSF.out.cell 4; have e5 := HSF.out.cell 5
  simp only [List.getElem?_cons_zero, List.getElem?_cons_succ] at e0 e1 e2 e3 e4 e5
  refine bodyPost_ret (v := .agg #[.int .i64 1, .int .i64 c, .float .f64 0, .string ⟨#[]⟩, .slice none 0 0, .slice none 0 0]) (by simp [results, Tryz.results153, go_sem, e0, e1, e2, e3, e4, e5]) rfl ?_
  exact leaf_end HSF.out HE.out (by unfold i64r; omega) (by unfold i64r; omega) (by omega) (by unfold strok; decide)

set_option maxHeartbeats 2000000 in
set_option maxRecDepth 100000 in
theorem rv_int_bad (s : ByteArray) (hs : s.size ≤ 100000) (d p m deep g : Nat) (w : World) (hd : deep + d = 12) (hp : p ≤ s.size) (hm : m ≤ 200) (hm1 : m + 1 ≤ 200) (hin : p < s.size) (hk : (byteAt s p).toNat = 2) (k : Int) (hu : readU s (p + 1) 0 0 = .error k) (h : At w g s p (m : Int)) :
    Calls Tryz.prog 153 #[.pointer (some ⟨g, 0, none⟩), .int .i64 deep] w fun e w' => ValRead (rdV s (d + 1) p m) s g w e w' := by

  have hsf := run_store_flt
  obtain ⟨V, hV⟩ : ∃ V, V = w.heap.size := ⟨_, rfl⟩
  obtain ⟨W, hW⟩ : ∃ W, W = w.alloc (.cells #[.int .i64 0, .int .i64 0, .float .f64 0, .string ⟨#[]⟩, .slice none 0 0, .slice none 0 0] 37) := ⟨_, rfl⟩
  have hst : RS 37 w W g V s p (m : Int) [.int .i64 0, .int .i64 0, .float .f64 0, .string ⟨#[]⟩, .slice none 0 0, .slice none 0 0] := by rw [hV, hW]; exact RS.start w g s p m _ h
  have HV := Lib.hid hV; have HW := Lib.hid hW; have HS0 := Lib.hid hst
  clear hV hW hst h

  have HBEG := Lib.hid (rbegin_ok s p m deep g W (by omega) hm1 HS0.out.rd)
  have HE : Hid (rdV s (d + 1) p m = .error k) := Lib.hid (by unfold rdV; rw [if_neg (by omega), if_neg (by omega), if_neg (by rw [hk]; decide), if_pos hk, hu])

  go_enter Tryz.func153, Tryz.ntmps153
  go_wp2_with fail
  rw [← HW.out, ← HV.out]

  refine HBEG.out.mono ?_
  rintro e w1 ⟨rfl, ha1, ho1⟩
  have HS1 := Lib.hid (HS0.out.read ha1 ho1)
  clear ha1 ho1 HBEG HW

  have HB1 := Lib.hid (byte_k s p ((m + 1 : Nat) : Int) g 2 w1 hs hin HS1.out.rd hk)
  go_wp2_with fail
  refine HB1.out.mono ?_
  rintro e w2 ⟨rfl, ha2, ho2⟩
  have HS2 := Lib.hid (HS1.out.read ha2 ho2)
  clear ha2 ho2 HB1 HS1
  have c0 := HS2.out.cell 0; have f0 := HS2.out.frozen 0; have hvl := HS2.out.vlt
  simp only [List.getElem?_cons_zero, List.getElem?_cons_succ] at c0
  obtain ⟨W2, hW2⟩ : ∃ W2, W2 = w2.setCell ⟨V, 0, none⟩ (.int .i64 2) := ⟨_, rfl⟩
  have hs3 : RS 37 w W2 g V s (p + 1) ((m + 1 : Nat) : Int) [.int .i64 2, .int .i64 0, .float .f64 0, .string ⟨#[]⟩, .slice none 0 0, .slice none 0 0] := by rw [hW2]; exact HS2.out.set_ 0 _
  have HS3 := Lib.hid hs3; have HW2 := Lib.hid hW2
  clear hs3 hW2
  go_upto_region 3 with fail
  rw [← HW2.out]
  clear c0 f0 hvl HS2
  have c0 := HS3.out.cell 0; have hvl := HS3.out.vlt
  simp only [List.getElem?_cons_zero, List.getElem?_cons_succ] at c0
  have HR := Lib.hid (rint_any s (p + 1) ((m + 1 : Nat) : Int) g W2 hs (by omega) HS3.out.rd)
  rw [hu] at HR
  go_wp2_with fail
  refine HR.out.mono ?_
  rintro e w3 ⟨rfl, ho3⟩
  have ho := HS3.out.only.trans ho3

  unfold gives
  go_wp2
  refine ⟨rfl, ?_⟩
  refine ⟨ho, ?_⟩
  rw [HE.out]
  rfl

set_option maxHeartbeats 2000000 in
set_option maxRecDepth 100000 in
theorem rv_int (s : ByteArray) (hs : s.size ≤ 100000) (d p m deep g : Nat) (w : World) (hd : deep + d = 12) (hp : p ≤ s.size) (hm : m ≤ 200) (hm1 : m + 1 ≤ 200) (hin : p < s.size) (hk : (byteAt s p).toNat = 2) (n q : Nat) (hu : readU s (p + 1) 0 0 = .ok (n, q)) (h : At w g s p (m : Int)) :
    Calls Tryz.prog 153 #[.pointer (some ⟨g, 0, none⟩), .int .i64 deep] w fun e w' => ValRead (rdV s (d + 1) p m) s g w e w' := by

  have hsf := run_store_flt
  obtain ⟨V, hV⟩ : ∃ V, V = w.heap.size := ⟨_, rfl⟩
  obtain ⟨W, hW⟩ : ∃ W, W = w.alloc (.cells #[.int .i64 0, .int .i64 0, .float .f64 0, .string ⟨#[]⟩, .slice none 0 0, .slice none 0 0] 37) := ⟨_, rfl⟩
  have hst : RS 37 w W g V s p (m : Int) [.int .i64 0, .int .i64 0, .float .f64 0, .string ⟨#[]⟩, .slice none 0 0, .slice none 0 0] := by rw [hV, hW]; exact RS.start w g s p m _ h
  have HV := Lib.hid hV; have HW := Lib.hid hW; have HS0 := Lib.hid hst
  clear hV hW hst h

  have HBEG := Lib.hid (rbegin_ok s p m deep g W (by omega) hm1 HS0.out.rd)
  have HE : Hid (rdV s (d + 1) p m = .ok (Val.leafN 2 (unzig n), q, m + 1)) := Lib.hid (by unfold rdV; rw [if_neg (by omega), if_neg (by omega), if_neg (by rw [hk]; decide), if_pos hk, hu])
  have hul := (readU_lt s (p + 1) 0 0 (by decide) (by omega) n q hu).1

  go_enter Tryz.func153, Tryz.ntmps153
  go_wp2_with fail
  rw [← HW.out, ← HV.out]

  refine HBEG.out.mono ?_
  rintro e w1 ⟨rfl, ha1, ho1⟩
  have HS1 := Lib.hid (HS0.out.read ha1 ho1)
  clear ha1 ho1 HBEG HW

  have HB1 := Lib.hid (byte_k s p ((m + 1 : Nat) : Int) g 2 w1 hs hin HS1.out.rd hk)
  go_wp2_with fail
  refine HB1.out.mono ?_
  rintro e w2 ⟨rfl, ha2, ho2⟩
  have HS2 := Lib.hid (HS1.out.read ha2 ho2)
  clear ha2 ho2 HB1 HS1
  have c0 := HS2.out.cell 0; have f0 := HS2.out.frozen 0; have hvl := HS2.out.vlt
  simp only [List.getElem?_cons_zero, List.getElem?_cons_succ] at c0
  obtain ⟨W2, hW2⟩ : ∃ W2, W2 = w2.setCell ⟨V, 0, none⟩ (.int .i64 2) := ⟨_, rfl⟩
  have hs3 : RS 37 w W2 g V s (p + 1) ((m + 1 : Nat) : Int) [.int .i64 2, .int .i64 0, .float .f64 0, .string ⟨#[]⟩, .slice none 0 0, .slice none 0 0] := by rw [hW2]; exact HS2.out.set_ 0 _
  have HS3 := Lib.hid hs3; have HW2 := Lib.hid hW2
  clear hs3 hW2
  go_upto_region 3 with fail
  rw [← HW2.out]
  clear c0 f0 hvl HS2
  have c0 := HS3.out.cell 0; have hvl := HS3.out.vlt
  simp only [List.getElem?_cons_zero, List.getElem?_cons_succ] at c0
  have HR := Lib.hid (rint_any s (p + 1) ((m + 1 : Nat) : Int) g W2 hs (by omega) HS3.out.rd)
  rw [hu] at HR
  go_wp2_with fail
  refine HR.out.mono ?_
  rintro e w3 ⟨rfl, ha3, ho3⟩
  have HS4 := Lib.hid (HS3.out.read ha3 ho3)
  clear ha3 ho3 HR HS3 c0 hvl
  have c1 := HS4.out.cell 1; have f1 := HS4.out.frozen 1; have hvl := HS4.out.vlt
  simp only [List.getElem?_cons_zero, List.getElem?_cons_succ] at c1
  obtain ⟨W4, hW4⟩ : ∃ W4, W4 = w3.setCell ⟨V, 1, none⟩ (.int .i64 (unzig n)) := ⟨_, rfl⟩
  have hs5 : RS 37 w W4 g V s q ((m + 1 : Nat) : Int) [.int .i64 2, .int .i64 (unzig n), .float .f64 0, .string ⟨#[]⟩, .slice none 0 0, .slice none 0 0] := by rw [hW4]; exact HS4.out.set_ 1 _
  have HS5 := Lib.hid hs5; have HW4 := Lib.hid hW4
  clear hs5 hW4
  go_upto_region 22 with fail
  rw [← HW4.out]
  clear c1 f1 hvl HS4

  have e0 := HS5.out.cell 0; have e1 := HS5.out.cell 1; have e2 := HS5.out.cell 2; have e3 := HS5.out.cell 3; have e4 := HS5.out.cell 4; have e5 := HS5.out.cell 5
  have f0 := HS5.out.frozen 0; have f1 := HS5.out.frozen 1; have f2 := HS5.out.frozen 2; have f3 := HS5.out.frozen 3; have f4 := HS5.out.frozen 4; have f5 := HS5.out.frozen 5
  simp only [List.getElem?_cons_zero, List.getElem?_cons_succ] at e0 e1 e2 e3 e4 e5
  obtain ⟨WF, hWF⟩ : ∃ WF, WF = ((((((W4.setCell ⟨V, 0, none⟩ (.int .i64 2)).setCell ⟨V, 1, none⟩ (.int .i64 (unzig n))).setCell ⟨V, 2, none⟩ (.float .f64 0)).setCell ⟨V, 3, none⟩ (.string ⟨#[]⟩)).setCell ⟨V, 4, none⟩ (.slice none 0 0)).setCell ⟨V, 5, none⟩ (.slice none 0 0)) := ⟨_, rfl⟩
  have HSF : Hid (RS 37 w WF g V s _ _ [.int .i64 2, .int .i64 (unzig n), .float .f64 0, .string ⟨#[]⟩, .slice none 0 0, .slice none 0 0]) := Lib.hid (by rw [hWF]; exact HS5.out.six _ _ _ _ _ _)
  have HWF := Lib.hid hWF
  clear hWF
  go_wp2_with fail
  rw [← HWF.out]
  clear e0 e1 e2 e3 e4 e5 f0 f1 f2 f3 f4 f5
  have e0 := HSF.out.cell 0; have e1 := HSF.out.cell 1; have e2 := HSF.out.cell 2; have e3 := HSF.out.cell 3; have e4 := HSF.out.cell 4; have e5 := HSF.out.cell 5
  simp only [List.getElem?_cons_zero, List.getElem?_cons_succ] at e0 e1 e2 e3 e4 e5
  refine bodyPost_ret (v := .agg #[.int .i64 2, .int .i64 (unzig n), .float .f64 0, .string ⟨#[]⟩, .slice none 0 0, .slice none 0 0]) (by simp [results, Tryz.results153, go_sem, e0, e1, e2, e3, e4, e5]) rfl ?_
  exact leaf_end HSF.out HE.out (by unfold i64r; omega) (by unfold i64r unzig; split <;> omega) (by omega) (by unfold strok; decide)

set_option maxHeartbeats 2000000 in
set_option maxRecDepth 100000 in
theorem rv_float_bad (s : ByteArray) (hs : s.size ≤ 100000) (d p m deep g : Nat) (w : World) (hd : deep + d = 12) (hp : p ≤ s.size) (hm : m ≤ 200) (hm1 : m + 1 ≤ 200) (hin : p < s.size) (hk : (byteAt s p).toNat = 3) (k : Int) (hu : readF s (p + 1) = .error k) (h : At w g s p (m : Int)) :
    Calls Tryz.prog 153 #[.pointer (some ⟨g, 0, none⟩), .int .i64 deep] w fun e w' => ValRead (rdV s (d + 1) p m) s g w e w' := by

  have hsf := run_store_flt
  obtain ⟨V, hV⟩ : ∃ V, V = w.heap.size := ⟨_, rfl⟩
  obtain ⟨W, hW⟩ : ∃ W, W = w.alloc (.cells #[.int .i64 0, .int .i64 0, .float .f64 0, .string ⟨#[]⟩, .slice none 0 0, .slice none 0 0] 37) := ⟨_, rfl⟩
  have hst : RS 37 w W g V s p (m : Int) [.int .i64 0, .int .i64 0, .float .f64 0, .string ⟨#[]⟩, .slice none 0 0, .slice none 0 0] := by rw [hV, hW]; exact RS.start w g s p m _ h
  have HV := Lib.hid hV; have HW := Lib.hid hW; have HS0 := Lib.hid hst
  clear hV hW hst h

  have HBEG := Lib.hid (rbegin_ok s p m deep g W (by omega) hm1 HS0.out.rd)
  have HE : Hid (rdV s (d + 1) p m = .error k) := Lib.hid (by unfold rdV; rw [if_neg (by omega), if_neg (by omega), if_neg (by rw [hk]; decide), if_neg (by rw [hk]; decide), if_pos hk, hu])

  go_enter Tryz.func153, Tryz.ntmps153
  go_wp2_with fail
  rw [← HW.out, ← HV.out]

  refine HBEG.out.mono ?_
  rintro e w1 ⟨rfl, ha1, ho1⟩
  have HS1 := Lib.hid (HS0.out.read ha1 ho1)
  clear ha1 ho1 HBEG HW

  have HB1 := Lib.hid (byte_k s p ((m + 1 : Nat) : Int) g 3 w1 hs hin HS1.out.rd hk)
  go_wp2_with fail
  refine HB1.out.mono ?_
  rintro e w2 ⟨rfl, ha2, ho2⟩
  have HS2 := Lib.hid (HS1.out.read ha2 ho2)
  clear ha2 ho2 HB1 HS1
  have c0 := HS2.out.cell 0; have f0 := HS2.out.frozen 0; have hvl := HS2.out.vlt
  simp only [List.getElem?_cons_zero, List.getElem?_cons_succ] at c0
  obtain ⟨W2, hW2⟩ : ∃ W2, W2 = w2.setCell ⟨V, 0, none⟩ (.int .i64 3) := ⟨_, rfl⟩
  have hs3 : RS 37 w W2 g V s (p + 1) ((m + 1 : Nat) : Int) [.int .i64 3, .int .i64 0, .float .f64 0, .string ⟨#[]⟩, .slice none 0 0, .slice none 0 0] := by rw [hW2]; exact HS2.out.set_ 0 _
  have HS3 := Lib.hid hs3; have HW2 := Lib.hid hW2
  clear hs3 hW2
  go_upto_region 3 with fail
  rw [← HW2.out]
  clear c0 f0 hvl HS2
  have c0 := HS3.out.cell 0; have hvl := HS3.out.vlt
  simp only [List.getElem?_cons_zero, List.getElem?_cons_succ] at c0
  have HR := Lib.hid (rfloat_any s (p + 1) ((m + 1 : Nat) : Int) g W2 hs (by omega) HS3.out.rd)
  rw [hu] at HR
  go_wp2_with fail
  refine HR.out.mono ?_
  rintro e w3 ⟨rfl, ho3⟩
  have ho := HS3.out.only.trans ho3

  unfold gives
  go_wp2
  refine ⟨rfl, ?_⟩
  refine ⟨ho, ?_⟩
  rw [HE.out]
  rfl

set_option maxHeartbeats 2000000 in
set_option maxRecDepth 100000 in
theorem rv_float (s : ByteArray) (hs : s.size ≤ 100000) (d p m deep g : Nat) (w : World) (hd : deep + d = 12) (hp : p ≤ s.size) (hm : m ≤ 200) (hm1 : m + 1 ≤ 200) (hin : p < s.size) (hk : (byteAt s p).toNat = 3) (n q : Nat) (hu : readF s (p + 1) = .ok (n, q)) (h : At w g s p (m : Int)) :
    Calls Tryz.prog 153 #[.pointer (some ⟨g, 0, none⟩), .int .i64 deep] w fun e w' => ValRead (rdV s (d + 1) p m) s g w e w' := by

  have hsf := run_store_flt
  obtain ⟨V, hV⟩ : ∃ V, V = w.heap.size := ⟨_, rfl⟩
  obtain ⟨W, hW⟩ : ∃ W, W = w.alloc (.cells #[.int .i64 0, .int .i64 0, .float .f64 0, .string ⟨#[]⟩, .slice none 0 0, .slice none 0 0] 37) := ⟨_, rfl⟩
  have hst : RS 37 w W g V s p (m : Int) [.int .i64 0, .int .i64 0, .float .f64 0, .string ⟨#[]⟩, .slice none 0 0, .slice none 0 0] := by rw [hV, hW]; exact RS.start w g s p m _ h
  have HV := Lib.hid hV; have HW := Lib.hid hW; have HS0 := Lib.hid hst
  clear hV hW hst h

  have HBEG := Lib.hid (rbegin_ok s p m deep g W (by omega) hm1 HS0.out.rd)
  have HE : Hid (rdV s (d + 1) p m = .ok (Val.leafF n, q, m + 1)) := Lib.hid (by unfold rdV; rw [if_neg (by omega), if_neg (by omega), if_neg (by rw [hk]; decide), if_neg (by rw [hk]; decide), if_pos hk, hu])
  have hul := (readF_lt hu).2.2.1

  go_enter Tryz.func153, Tryz.ntmps153
  go_wp2_with fail
  rw [← HW.out, ← HV.out]

  refine HBEG.out.mono ?_
  rintro e w1 ⟨rfl, ha1, ho1⟩
  have HS1 := Lib.hid (HS0.out.read ha1 ho1)
  clear ha1 ho1 HBEG HW

  have HB1 := Lib.hid (byte_k s p ((m + 1 : Nat) : Int) g 3 w1 hs hin HS1.out.rd hk)
  go_wp2_with fail
  refine HB1.out.mono ?_
  rintro e w2 ⟨rfl, ha2, ho2⟩
  have HS2 := Lib.hid (HS1.out.read ha2 ho2)
  clear ha2 ho2 HB1 HS1
  have c0 := HS2.out.cell 0; have f0 := HS2.out.frozen 0; have hvl := HS2.out.vlt
  simp only [List.getElem?_cons_zero, List.getElem?_cons_succ] at c0
  obtain ⟨W2, hW2⟩ : ∃ W2, W2 = w2.setCell ⟨V, 0, none⟩ (.int .i64 3) := ⟨_, rfl⟩
  have hs3 : RS 37 w W2 g V s (p + 1) ((m + 1 : Nat) : Int) [.int .i64 3, .int .i64 0, .float .f64 0, .string ⟨#[]⟩, .slice none 0 0, .slice none 0 0] := by rw [hW2]; exact HS2.out.set_ 0 _
  have HS3 := Lib.hid hs3; have HW2 := Lib.hid hW2
  clear hs3 hW2
  go_upto_region 3 with fail
  rw [← HW2.out]
  clear c0 f0 hvl HS2
  have c0 := HS3.out.cell 0; have hvl := HS3.out.vlt
  simp only [List.getElem?_cons_zero, List.getElem?_cons_succ] at c0
  have HR := Lib.hid (rfloat_any s (p + 1) ((m + 1 : Nat) : Int) g W2 hs (by omega) HS3.out.rd)
  rw [hu] at HR
  go_wp2_with fail
  refine HR.out.mono ?_
  rintro e w3 ⟨rfl, ha3, ho3⟩
  have HS4 := Lib.hid (HS3.out.read ha3 ho3)
  clear ha3 ho3 HR HS3 c0 hvl
  have c1 := HS4.out.cell 2; have f1 := HS4.out.frozen 2; have hvl := HS4.out.vlt
  simp only [List.getElem?_cons_zero, List.getElem?_cons_succ] at c1
  obtain ⟨W4, hW4⟩ : ∃ W4, W4 = w3.setCell ⟨V, 2, none⟩ (.float .f64 n) := ⟨_, rfl⟩
  have hs5 : RS 37 w W4 g V s q ((m + 1 : Nat) : Int) [.int .i64 3, .int .i64 0, .float .f64 n, .string ⟨#[]⟩, .slice none 0 0, .slice none 0 0] := by rw [hW4]; exact HS4.out.set_ 2 _
  have HS5 := Lib.hid hs5; have HW4 := Lib.hid hW4
  clear hs5 hW4
  go_upto_region 22 with fail
  rw [← HW4.out]
  clear c1 f1 hvl HS4

  have e0 := HS5.out.cell 0; have e1 := HS5.out.cell 1; have e2 := HS5.out.cell 2; have e3 := HS5.out.cell 3; have e4 := HS5.out.cell 4; have e5 := HS5.out.cell 5
  have f0 := HS5.out.frozen 0; have f1 := HS5.out.frozen 1; have f2 := HS5.out.frozen 2; have f3 := HS5.out.frozen 3; have f4 := HS5.out.frozen 4; have f5 := HS5.out.frozen 5
  simp only [List.getElem?_cons_zero, List.getElem?_cons_succ] at e0 e1 e2 e3 e4 e5
  obtain ⟨WF, hWF⟩ : ∃ WF, WF = ((((((W4.setCell ⟨V, 0, none⟩ (.int .i64 3)).setCell ⟨V, 1, none⟩ (.int .i64 0)).setCell ⟨V, 2, none⟩ (.float .f64 n)).setCell ⟨V, 3, none⟩ (.string ⟨#[]⟩)).setCell ⟨V, 4, none⟩ (.slice none 0 0)).setCell ⟨V, 5, none⟩ (.slice none 0 0)) := ⟨_, rfl⟩
  have HSF : Hid (RS 37 w WF g V s _ _ [.int .i64 3, .int .i64 0, .float .f64 n, .string ⟨#[]⟩, .slice none 0 0, .slice none 0 0]) := Lib.hid (by rw [hWF]; exact HS5.out.six _ _ _ _ _ _)
  have HWF := Lib.hid hWF
  clear hWF
  go_wp2_with fail
  rw [← HWF.out]
  clear e0 e1 e2 e3 e4 e5 f0 f1 f2 f3 f4 f5
  have e0 := HSF.out.cell 0; have e1 := HSF.out.cell 1; have e2 := HSF.out.cell 2; have e3 := HSF.out.cell 3; have e4 := HSF.out.cell 4; have e5 := HSF.out.cell 5
  simp only [List.getElem?_cons_zero, List.getElem?_cons_succ] at e0 e1 e2 e3 e4 e5
  refine bodyPost_ret (v := .agg #[.int .i64 3, .int .i64 0, .float .f64 n, .string ⟨#[]⟩, .slice none 0 0, .slice none 0 0]) (by simp [results, Tryz.results153, go_sem, e0, e1, e2, e3, e4, e5]) rfl ?_
  exact leaf_end HSF.out HE.out (by unfold i64r; omega) (by unfold i64r; omega) hul (by unfold strok; decide)

set_option maxHeartbeats 2000000 in
set_option maxRecDepth 100000 in
theorem rv_str_bad (s : ByteArray) (hs : s.size ≤ 100000) (d p m deep g : Nat) (w : World) (hd : deep + d = 12) (hp : p ≤ s.size) (hm : m ≤ 200) (hm1 : m + 1 ≤ 200) (hin : p < s.size) (hk : (byteAt s p).toNat = 4) (k : Int) (hu : readS s (p + 1) 200 = .error k) (h : At w g s p (m : Int)) :
    Calls Tryz.prog 153 #[.pointer (some ⟨g, 0, none⟩), .int .i64 deep] w fun e w' => ValRead (rdV s (d + 1) p m) s g w e w' := by

  have hsf := run_store_flt
  obtain ⟨V, hV⟩ : ∃ V, V = w.heap.size := ⟨_, rfl⟩
  obtain ⟨W, hW⟩ : ∃ W, W = w.alloc (.cells #[.int .i64 0, .int .i64 0, .float .f64 0, .string ⟨#[]⟩, .slice none 0 0, .slice none 0 0] 37) := ⟨_, rfl⟩
  have hst : RS 37 w W g V s p (m : Int) [.int .i64 0, .int .i64 0, .float .f64 0, .string ⟨#[]⟩, .slice none 0 0, .slice none 0 0] := by rw [hV, hW]; exact RS.start w g s p m _ h
  have HV := Lib.hid hV; have HW := Lib.hid hW; have HS0 := Lib.hid hst
  clear hV hW hst h

  have HBEG := Lib.hid (rbegin_ok s p m deep g W (by omega) hm1 HS0.out.rd)
  have HE : Hid (rdV s (d + 1) p m = .error k) := Lib.hid (by unfold rdV; rw [if_neg (by omega), if_neg (by omega), if_neg (by rw [hk]; decide), if_neg (by rw [hk]; decide), if_neg (by rw [hk]; decide), if_pos hk, hu])

  go_enter Tryz.func153, Tryz.ntmps153
  go_wp2_with fail
  rw [← HW.out, ← HV.out]

  refine HBEG.out.mono ?_
  rintro e w1 ⟨rfl, ha1, ho1⟩
  have HS1 := Lib.hid (HS0.out.read ha1 ho1)
  clear ha1 ho1 HBEG HW

  have HB1 := Lib.hid (byte_k s p ((m + 1 : Nat) : Int) g 4 w1 hs hin HS1.out.rd hk)
  go_wp2_with fail
  refine HB1.out.mono ?_
  rintro e w2 ⟨rfl, ha2, ho2⟩
  have HS2 := Lib.hid (HS1.out.read ha2 ho2)
  clear ha2 ho2 HB1 HS1
  have c0 := HS2.out.cell 0; have f0 := HS2.out.frozen 0; have hvl := HS2.out.vlt
  simp only [List.getElem?_cons_zero, List.getElem?_cons_succ] at c0
  obtain ⟨W2, hW2⟩ : ∃ W2, W2 = w2.setCell ⟨V, 0, none⟩ (.int .i64 4) := ⟨_, rfl⟩
  have hs3 : RS 37 w W2 g V s (p + 1) ((m + 1 : Nat) : Int) [.int .i64 4, .int .i64 0, .float .f64 0, .string ⟨#[]⟩, .slice none 0 0, .slice none 0 0] := by rw [hW2]; exact HS2.out.set_ 0 _
  have HS3 := Lib.hid hs3; have HW2 := Lib.hid hW2
  clear hs3 hW2
  go_upto_region 3 with fail
  rw [← HW2.out]
  clear c0 f0 hvl HS2
  have c0 := HS3.out.cell 0; have hvl := HS3.out.vlt
  simp only [List.getElem?_cons_zero, List.getElem?_cons_succ] at c0
  have HR := Lib.hid (rstr_any s (p + 1) ((m + 1 : Nat) : Int) 200 g W2 hs (by omega) (by omega) (by omega) HS3.out.rd)
  rw [hu] at HR
  go_wp2_with fail
  refine HR.out.mono ?_
  rintro e w3 ⟨rfl, ho3⟩
  have ho := HS3.out.only.trans ho3

  unfold gives
  go_wp2
  refine ⟨rfl, ?_⟩
  refine ⟨ho, ?_⟩
  rw [HE.out]
  rfl

set_option maxHeartbeats 2000000 in
set_option maxRecDepth 100000 in
theorem rv_str (s : ByteArray) (hs : s.size ≤ 100000) (d p m deep g : Nat) (w : World) (hd : deep + d = 12) (hp : p ≤ s.size) (hm : m ≤ 200) (hm1 : m + 1 ≤ 200) (hin : p < s.size) (hk : (byteAt s p).toNat = 4) (t : ByteArray) (q : Nat) (hu : readS s (p + 1) 200 = .ok (t, q)) (h : At w g s p (m : Int)) :
    Calls Tryz.prog 153 #[.pointer (some ⟨g, 0, none⟩), .int .i64 deep] w fun e w' => ValRead (rdV s (d + 1) p m) s g w e w' := by

  have hsf := run_store_flt
  obtain ⟨V, hV⟩ : ∃ V, V = w.heap.size := ⟨_, rfl⟩
  obtain ⟨W, hW⟩ : ∃ W, W = w.alloc (.cells #[.int .i64 0, .int .i64 0, .float .f64 0, .string ⟨#[]⟩, .slice none 0 0, .slice none 0 0] 37) := ⟨_, rfl⟩
  have hst : RS 37 w W g V s p (m : Int) [.int .i64 0, .int .i64 0, .float .f64 0, .string ⟨#[]⟩, .slice none 0 0, .slice none 0 0] := by rw [hV, hW]; exact RS.start w g s p m _ h
  have HV := Lib.hid hV; have HW := Lib.hid hW; have HS0 := Lib.hid hst
  clear hV hW hst h

  have HBEG := Lib.hid (rbegin_ok s p m deep g W (by omega) hm1 HS0.out.rd)
  have HE : Hid (rdV s (d + 1) p m = .ok (Val.leafS t, q, m + 1)) := Lib.hid (by unfold rdV; rw [if_neg (by omega), if_neg (by omega), if_neg (by rw [hk]; decide), if_neg (by rw [hk]; decide), if_neg (by rw [hk]; decide), if_pos hk, hu])
  have hul := (readS_lt hu).2.2

  go_enter Tryz.func153, Tryz.ntmps153
  go_wp2_with fail
  rw [← HW.out, ← HV.out]

  refine HBEG.out.mono ?_
  rintro e w1 ⟨rfl, ha1, ho1⟩
  have HS1 := Lib.hid (HS0.out.read ha1 ho1)
  clear ha1 ho1 HBEG HW

  have HB1 := Lib.hid (byte_k s p ((m + 1 : Nat) : Int) g 4 w1 hs hin HS1.out.rd hk)
  go_wp2_with fail
  refine HB1.out.mono ?_
  rintro e w2 ⟨rfl, ha2, ho2⟩
  have HS2 := Lib.hid (HS1.out.read ha2 ho2)
  clear ha2 ho2 HB1 HS1
  have c0 := HS2.out.cell 0; have f0 := HS2.out.frozen 0; have hvl := HS2.out.vlt
  simp only [List.getElem?_cons_zero, List.getElem?_cons_succ] at c0
  obtain ⟨W2, hW2⟩ : ∃ W2, W2 = w2.setCell ⟨V, 0, none⟩ (.int .i64 4) := ⟨_, rfl⟩
  have hs3 : RS 37 w W2 g V s (p + 1) ((m + 1 : Nat) : Int) [.int .i64 4, .int .i64 0, .float .f64 0, .string ⟨#[]⟩, .slice none 0 0, .slice none 0 0] := by rw [hW2]; exact HS2.out.set_ 0 _
  have HS3 := Lib.hid hs3; have HW2 := Lib.hid hW2
  clear hs3 hW2
  go_upto_region 3 with fail
  rw [← HW2.out]
  clear c0 f0 hvl HS2
  have c0 := HS3.out.cell 0; have hvl := HS3.out.vlt
  simp only [List.getElem?_cons_zero, List.getElem?_cons_succ] at c0
  have HR := Lib.hid (rstr_any s (p + 1) ((m + 1 : Nat) : Int) 200 g W2 hs (by omega) (by omega) (by omega) HS3.out.rd)
  rw [hu] at HR
  go_wp2_with fail
  refine HR.out.mono ?_
  rintro e w3 ⟨rfl, ha3, ho3⟩
  have HS4 := Lib.hid (HS3.out.read ha3 ho3)
  clear ha3 ho3 HR HS3 c0 hvl
  have c1 := HS4.out.cell 3; have f1 := HS4.out.frozen 3; have hvl := HS4.out.vlt
  simp only [List.getElem?_cons_zero, List.getElem?_cons_succ] at c1
  obtain ⟨W4, hW4⟩ : ∃ W4, W4 = w3.setCell ⟨V, 3, none⟩ (.string t) := ⟨_, rfl⟩
  have hs5 : RS 37 w W4 g V s q ((m + 1 : Nat) : Int) [.int .i64 4, .int .i64 0, .float .f64 0, .string t, .slice none 0 0, .slice none 0 0] := by rw [hW4]; exact HS4.out.set_ 3 _
  have HS5 := Lib.hid hs5; have HW4 := Lib.hid hW4
  clear hs5 hW4
  go_upto_region 22 with fail
  rw [← HW4.out]
  clear c1 f1 hvl HS4

  have e0 := HS5.out.cell 0; have e1 := HS5.out.cell 1; have e2 := HS5.out.cell 2; have e3 := HS5.out.cell 3; have e4 := HS5.out.cell 4; have e5 := HS5.out.cell 5
  have f0 := HS5.out.frozen 0; have f1 := HS5.out.frozen 1; have f2 := HS5.out.frozen 2; have f3 := HS5.out.frozen 3; have f4 := HS5.out.frozen 4; have f5 := HS5.out.frozen 5
  simp only [List.getElem?_cons_zero, List.getElem?_cons_succ] at e0 e1 e2 e3 e4 e5
  obtain ⟨WF, hWF⟩ : ∃ WF, WF = ((((((W4.setCell ⟨V, 0, none⟩ (.int .i64 4)).setCell ⟨V, 1, none⟩ (.int .i64 0)).setCell ⟨V, 2, none⟩ (.float .f64 0)).setCell ⟨V, 3, none⟩ (.string t)).setCell ⟨V, 4, none⟩ (.slice none 0 0)).setCell ⟨V, 5, none⟩ (.slice none 0 0)) := ⟨_, rfl⟩
  have HSF : Hid (RS 37 w WF g V s _ _ [.int .i64 4, .int .i64 0, .float .f64 0, .string t, .slice none 0 0, .slice none 0 0]) := Lib.hid (by rw [hWF]; exact HS5.out.six _ _ _ _ _ _)
  have HWF := Lib.hid hWF
  clear hWF
  go_wp2_with fail
  rw [← HWF.out]
  clear e0 e1 e2 e3 e4 e5 f0 f1 f2 f3 f4 f5
  have e0 := HSF.out.cell 0; have e1 := HSF.out.cell 1; have e2 := HSF.out.cell 2; have e3 := HSF.out.cell 3; have e4 := HSF.out.cell 4; have e5 := HSF.out.cell 5
  simp only [List.getElem?_cons_zero, List.getElem?_cons_succ] at e0 e1 e2 e3 e4 e5
  refine bodyPost_ret (v := .agg #[.int .i64 4, .int .i64 0, .float .f64 0, .string t, .slice none 0 0, .slice none 0 0]) (by simp [results, Tryz.results153, go_sem, e0, e1, e2, e3, e4, e5]) rfl ?_
  exact leaf_end HSF.out HE.out (by unfold i64r; omega) (by unfold i64r; omega) (by omega) (by unfold strok; omega)

set_option maxHeartbeats 2000000 in
set_option maxRecDepth 100000 in
theorem rv_other (s : ByteArray) (hs : s.size ≤ 100000) (d p m deep g : Nat) (w : World) (hd : deep + d = 12) (hp : p ≤ s.size) (hm : m ≤ 200) (hm1 : m + 1 ≤ 200) (hin : p < s.size) (hk1 : (byteAt s p).toNat = 0 ∨ 6 < (byteAt s p).toNat) (h : At w g s p (m : Int)) :
    Calls Tryz.prog 153 #[.pointer (some ⟨g, 0, none⟩), .int .i64 deep] w fun e w' => ValRead (rdV s (d + 1) p m) s g w e w' := by

  have hsf := run_store_flt
  obtain ⟨V, hV⟩ : ∃ V, V = w.heap.size := ⟨_, rfl⟩
  obtain ⟨W, hW⟩ : ∃ W, W = w.alloc (.cells #[.int .i64 0, .int .i64 0, .float .f64 0, .string ⟨#[]⟩, .slice none 0 0, .slice none 0 0] 37) := ⟨_, rfl⟩
  have hst : RS 37 w W g V s p (m : Int) [.int .i64 0, .int .i64 0, .float .f64 0, .string ⟨#[]⟩, .slice none 0 0, .slice none 0 0] := by rw [hV, hW]; exact RS.start w g s p m _ h
  have HV := Lib.hid hV; have HW := Lib.hid hW; have HS0 := Lib.hid hst
  clear hV hW hst h

  have HBEG := Lib.hid (rbegin_ok s p m deep g W (by omega) hm1 HS0.out.rd)
  have HE : Hid (rdV s (d + 1) p m = .error 5) := Lib.hid (by unfold rdV; rw [if_neg (by omega), if_neg (by omega), if_neg (by omega), if_neg (by omega), if_neg (by omega), if_neg (by omega), if_neg (by omega)])
  obtain ⟨K, hk⟩ : ∃ K, (byteAt s p).toNat = K := ⟨_, rfl⟩
  have hK8 : K < 256 := by rw [← hk]; exact (byteAt s p).toNat_lt
  rw [hk] at hk1
  have hcv : IntKind.i64.wrap (K : Int) = (K : Int) := IntWalk.i64_in _ (by omega)
  have i1 : ((K : Int) == 1) = false := by simp; omega
  have i2 : ((K : Int) == 2) = false := by simp; omega
  have i3 : ((K : Int) == 3) = false := by simp; omega
  have i4 : ((K : Int) == 4) = false := by simp; omega
  have i5 : ((K : Int) == 5) = false := by simp; omega
  have i6 : ((K : Int) == 6) = false := by simp; omega

  go_enter Tryz.func153, Tryz.ntmps153
  go_wp2_with fail
  rw [← HW.out, ← HV.out]

  refine HBEG.out.mono ?_
  rintro e w1 ⟨rfl, ha1, ho1⟩
  have HS1 := Lib.hid (HS0.out.read ha1 ho1)
  clear ha1 ho1 HBEG HW

  have HB1 := Lib.hid (byte_k s p ((m + 1 : Nat) : Int) g K w1 hs hin HS1.out.rd hk)
  go_wp2_with fail
  refine HB1.out.mono ?_
  rintro e w2 ⟨rfl, ha2, ho2⟩
  have HS2 := Lib.hid (HS1.out.read ha2 ho2)
  clear ha2 ho2 HB1 HS1
  have c0 := HS2.out.cell 0; have f0 := HS2.out.frozen 0; have hvl := HS2.out.vlt
  simp only [List.getElem?_cons_zero, List.getElem?_cons_succ] at c0
  obtain ⟨W2, hW2⟩ : ∃ W2, W2 = w2.setCell ⟨V, 0, none⟩ (.int .i64 K) := ⟨_, rfl⟩
  have hs3 : RS 37 w W2 g V s (p + 1) ((m + 1 : Nat) : Int) [.int .i64 K, .int .i64 0, .float .f64 0, .string ⟨#[]⟩, .slice none 0 0, .slice none 0 0] := by rw [hW2]; exact HS2.out.set_ 0 _
  have HS3 := Lib.hid hs3; have HW2 := Lib.hid hW2
  clear hs3 hW2
  go_upto_region 3 with fail
  rw [← HW2.out]
  clear c0 f0 hvl HS2
  have c0 := HS3.out.cell 0; have hvl := HS3.out.vlt
  simp only [List.getElem?_cons_zero, List.getElem?_cons_succ] at c0
  go_wp2
  refine ⟨rfl, HS3.out.only, ?_⟩
  rw [HE.out]
  rfl
end Go.Proofs.YtaamihdibpioaaaGreat
