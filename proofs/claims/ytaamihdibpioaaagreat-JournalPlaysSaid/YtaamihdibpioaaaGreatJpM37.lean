/- Records that are built beside: one step each. -/
import Derived.Test.YtaamihdibpioaaaGreatJpM34
import Derived.Test.YtaamihdibpioaaaGreatJpM36
import Derived.Great.Walk
import Derived.Great.BuildSlice
set_option maxRecDepth 100000
set_option maxHeartbeats 40000000
namespace Go.Proofs.YtaamihdibpioaaaGreat.Jr
open Go.RowKit Go.Proofs.YtaamihdibpioaaaGreat.Pk Go.Proofs.YtaamihdibpioaaaGreat.Rf
theorem wpList_build_as {P : Program} {ops : Array Oper} {rest : List Oper} {o : Oper} {a : Act} {w : World} {Q : Exit -> Act -> World -> Prop} (t : TypeId) (parts : Array (Nat × Operand)) (X : Array Value) (ps : List (Nat × Value))
  (hg : o.guard = none) (ho : o.op = .build t parts) (hp : (parts.map fun (i,x) => (i,a.eval x)).toList = ps) (hb : P.built t ps = some X)
  (h : wpList P ops Q rest (a.put o.dst (.agg X)) w) : wpList P ops Q (o :: rest) a w :=
 wpList_build hg t parts ho (by rw [hp,hb]; rfl) (by rw [hp,hb]; exact h)
theorem JAt.grown {w w' : World} {j d : Nat} {s : Jt} {row : Option Nat} (h : JAt w j d s) (hg : w.grownBy w' row) (h1 : some j ≠ row) (h2 : some d ≠ row) : JAt w' j d s := ⟨h.jb.grown hg h1,h.db.grown hg h2,h.dk⟩
theorem rec_range {w : World} {base n : Nat} {a : Option Addr} {c : Nat} {us : List Rc} (h : w.ownsRow base 44 19 (.slice a n c) us.length (recE.row us)) {k : Nat} (hk : k < us.length) :
  ∃ g,a = some ⟨g, 0,none⟩ /\ us.length <= c /\ base <= g /\ g < w.heap.size /\ w.rangeAt g (k * 19) (us[k]'hk).cells := by
 have hh := h
 rcases h.2 with ⟨h1,h0⟩ | ⟨g,cap,cur,hv,hb,hg,hc,_⟩
 ·omega
 ·injection hv with e1 e2 e3
  subst e1 e3; refine ⟨g,rfl,hc,hb,Blk.lt hg,fun j v hv => ?_⟩
  have hj : j < 19 := by
   have := (List.getElem?_eq_some_iff.1 hv).1
   rwa [Rc.cells_len] at this
  have := hh.cells (g := g) rfl (k * 19 + j) v (by rw [erow_get us k j hk hj]; exact hv)
  rw [Addr.add_lit,Nat.zero_add] at this; exact this
theorem range_part {w : World} {b o i : Nat} {cs ds : List Value} (h : w.rangeAt b o cs) (hd : ∀ j v, ds[j]? = some v -> cs[i + j]? = some v) : w.rangeAt b (o + i) ds := fun j v hv => by
 have := h (i + j) v (hd j v hv); rw [Nat.add_assoc]; exact this
theorem rc_cmd (r : Rc) : ∀ j v, r.c.cells[j]? = some v -> r.cells[2 + j]? = some v := fun j v hv => by
 unfold Rc.cells; rw [List.getElem?_append_right (by simp), <- hv]
 congr 1
 simp
end Go.Proofs.YtaamihdibpioaaaGreat.Jr
namespace Go.Proofs.YtaamihdibpioaaaGreat.Ri
open Go.RowKit Go.Proofs.YtaamihdibpioaaaGreat.Pk Go.Proofs.YtaamihdibpioaaaGreat.Jr
def stN (s : ByteArray) (o : Option Nat) : Option Nat := sndN (numR s o)
def stV (s : ByteArray) (o : Option Nat) : Option Nat := sndN (someR s o)
def vN (s : ByteArray) (o : Option Nat) : Nat := fstN (numR s o)
def vV (s : ByteArray) (o : Option Nat) : Val := fstV (someR s o)
theorem stN_some (s : ByteArray) (p : Nat) : stN s (some p) = (rdN s p).map (·.2) := by
 unfold stN numR
 show sndN (rdN s p) = _
 cases rdN s p with
 | none => rfl
 | some x => rfl
theorem stV_some (s : ByteArray) (p : Nat) : stV s (some p) = (rdSome s p).map (·.2) := by
 unfold stV someR
 show sndN (rdSome s p) = _
 cases rdSome s p with
 | none => rfl
 | some x => rfl
theorem rdCm_eq (s : ByteArray) (o0 o1 o2 o3 o4 o5 o6 o7 : Option Nat) (p : Nat) (h0 : o0 = some p) (h1 : o1 = stN s o0) (h2 : o2 = stN s o1) (h3 : o3 = stN s o2) (h4 : o4 = stN s o3) (h5 : o5 = stN s o4) (h6 : o6 = stV s o5) (h7 : o7 = stV s o6) :
  rdCm s p = o7.map fun q => (⟨vN s o0,vN s o1,vN s o2,vN s o3,vN s o4,vV s o5,vV s o6⟩,q) := by
 have nn : stN s none = none := rfl; have nv : stV s none = none := rfl; unfold rdCm; subst h0
 cases e0 : rdN s p with
 | none => rw [stN_some,e0] at h1; subst h1; rw [Option.map_none,nn] at h2; subst h2; rw [nn] at h3; subst h3; rw [nn] at h4; subst h4; rw [nn] at h5; subst h5; rw [nv] at h6; subst h6; rw [nv] at h7; subst h7; rfl
 | some x0 =>
 obtain ⟨a0,p1⟩ := x0; rw [stN_some,e0] at h1; have v0 : vN s (some p) = a0 := by unfold vN numR; show fstN (rdN s p) = _; rw [e0]; rfl
 simp only [Option.map_some] at h1; subst h1
 cases e1 : rdN s p1 with
 | none => rw [stN_some,e1] at h2; subst h2; rw [Option.map_none,nn] at h3; subst h3; rw [nn] at h4; subst h4; rw [nn] at h5; subst h5; rw [nv] at h6; subst h6; rw [nv] at h7; subst h7; simp [e1]
 | some x1 =>
 obtain ⟨a1,p2⟩ := x1; rw [stN_some,e1] at h2; have v1 : vN s (some p1) = a1 := by unfold vN numR; show fstN (rdN s p1) = _; rw [e1]; rfl
 simp only [Option.map_some] at h2; subst h2
 cases e2 : rdN s p2 with
 | none => rw [stN_some,e2] at h3; subst h3; rw [Option.map_none,nn] at h4; subst h4; rw [nn] at h5; subst h5; rw [nv] at h6; subst h6; rw [nv] at h7; subst h7; simp [e1,e2]
 | some x2 =>
 obtain ⟨a2,p3⟩ := x2; rw [stN_some,e2] at h3; have v2 : vN s (some p2) = a2 := by unfold vN numR; show fstN (rdN s p2) = _; rw [e2]; rfl
 simp only [Option.map_some] at h3; subst h3
 cases e3 : rdN s p3 with
 | none => rw [stN_some,e3] at h4; subst h4; rw [Option.map_none,nn] at h5; subst h5; rw [nv] at h6; subst h6; rw [nv] at h7; subst h7; simp [e1,e2,e3]
 | some x3 =>
 obtain ⟨a3,p4⟩ := x3; rw [stN_some,e3] at h4; have v3 : vN s (some p3) = a3 := by unfold vN numR; show fstN (rdN s p3) = _; rw [e3]; rfl
 simp only [Option.map_some] at h4; subst h4
 cases e4 : rdN s p4 with
 | none => rw [stN_some,e4] at h5; subst h5; rw [Option.map_none,nv] at h6; subst h6; rw [nv] at h7; subst h7; simp [e1,e2,e3,e4]
 | some x4 =>
 obtain ⟨a4,p5⟩ := x4; rw [stN_some,e4] at h5; have v4 : vN s (some p4) = a4 := by unfold vN numR; show fstN (rdN s p4) = _; rw [e4]; rfl
 simp only [Option.map_some] at h5; subst h5
 cases e5 : rdSome s p5 with
 | none => rw [stV_some,e5] at h6; subst h6; rw [Option.map_none,nv] at h7; subst h7; simp [e1,e2,e3,e4,e5]
 | some x5 =>
 obtain ⟨a5,p6⟩ := x5; rw [stV_some,e5] at h6; have v5 : vV s (some p5) = a5 := by unfold vV someR; show fstV (rdSome s p5) = _; rw [e5]; rfl
 simp only [Option.map_some] at h6; subst h6
 cases e6 : rdSome s p6 with
 | none => rw [stV_some,e6] at h7; subst h7; simp [e1,e2,e3,e4,e5,e6]
 | some x6 =>
 obtain ⟨a6,p7⟩ := x6; rw [stV_some,e6] at h7; have v6 : vV s (some p6) = a6 := by unfold vV someR; show fstV (rdSome s p6) = _; rw [e6]; rfl
 simp only [Option.map_some] at h7; subst h7
 simp [e1,e2,e3,e4,e5,e6,v0,v1,v2,v3,v4,v5,v6]
theorem vN_small (s : ByteArray) (o : Option Nat) : vN s o <= 10000 := by
 unfold vN numR
 cases o with
 | none => exact Nat.zero_le _
 | some p =>
  show fstN (rdN s p) <= _
  cases h : rdN s p with
  | none => exact Nat.zero_le _
  | some x => obtain ⟨n,q⟩ := x; exact rdN_small h
structure FSt (w W : World) (A g I X : Nat) (s : ByteArray) (o : Option Nat) (xs : List Value) : Prop where
 below : Below A w W
 res : Blk W A 39 [.int .i64 0, .int .i64 0, .int .i64 0, .int .i64 0, .int .i64 0, .int .i64 0, .int .i64 0, .float .f64 0, .string ⟨#[]⟩, .slice none 0 0, .slice none 0 0, .int .i64 0, .int .i64 0, .float .f64 0, .string ⟨#[]⟩, .slice none 0 0, .slice none 0 0].toArray
 inb : Blk W I 112 #[.pointer (some ⟨g, 0,none⟩)]
 st : RSt W g s o
 x : Blk W X 39 xs.toArray
 lo : A < g /\ A < I /\ A < X /\ g ≠ I /\ g ≠ X /\ I ≠ X
theorem FSt.next {w W W' : World} {A g I X : Nat} {s : ByteArray} {o o' : Option Nat} {xs : List Value} (h : FSt w W A g I X s o xs) (ho : Only W W' g) (hr : RSt W' g s o') : FSt w W' A g I X s o' xs := by
 obtain ⟨l1,l2,l3,l4,l5,l6⟩ := h.lo; exact ⟨Go.Proofs.YtaamihdibpioaaaGreat.Below.only h.below ho (by omega) (Nat.le_of_lt h.res.lt),h.res.grown ho (by simp; omega),h.inb.grown ho (by simp; omega),hr,h.x.grown ho (by simp; omega),h.lo⟩
theorem FSt.store {w W W' : World} {A g I X : Nat} {s : ByteArray} {o : Option Nat} {xs ys : List Value} (h : FSt w W A g I X s o xs) (hb : Blk W' X 39 ys.toArray) (ho : Only W W' X) : FSt w W' A g I X s o ys := by
 obtain ⟨l1,l2,l3,l4,l5,l6⟩ := h.lo; exact ⟨Go.Proofs.YtaamihdibpioaaaGreat.Below.only h.below ho (by omega) (Nat.le_of_lt h.res.lt),h.res.grown ho (by simp; omega),h.inb.grown ho (by simp; omega),h.st.only ho l5,hb,h.lo⟩
theorem FSt.under {w W W' : World} {A g I X : Nat} {s : ByteArray} {o : Option Nat} {xs : List Value} (h : FSt w W A g I X s o xs) (hb : Below W.heap.size W W') : FSt w W' A g I X s o xs :=
 ⟨h.below.trans (hb.mono (Nat.le_of_lt h.res.lt)),h.res.below hb h.res.lt,h.inb.below hb h.inb.lt,h.st.below hb,h.x.below hb h.x.lt,h.lo⟩
theorem FSt.done {w W W' : World} {A g I X : Nat} {s : ByteArray} {o : Option Nat} {xs ys : List Value} (h : FSt w W A g I X s o xs) (hb : Blk W' A 39 ys.toArray) (ho : Only W W' A) : Below A w W' /\ Blk W' I 112 #[.pointer (some ⟨g, 0, none⟩)] /\ RSt W' g s o /\ Blk W' X 39 xs.toArray := by
 obtain ⟨l1,l2,l3,l4,l5,l6⟩ := h.lo; exact ⟨Go.Proofs.YtaamihdibpioaaaGreat.Below.only h.below ho (Nat.le_refl _) (Nat.le_of_lt h.res.lt),h.inb.grown ho (by simp; omega),h.st.only ho (by omega),h.x.grown ho (by simp; omega)⟩
theorem FSt.put {w W : World} {A g I X : Nat} {s : ByteArray} {o : Option Nat} {xs : List Value} (h : FSt w W A g I X s o xs) (i : Nat) (v : Value) : FSt w (W.setCell ⟨X, i, none⟩ v) A g I X s o (xs.set i v) :=
 h.store (blk_set h.x v) ((Only.refl W X).set_ (.inl rfl) _)
theorem res_readF {x0 x1 x2 x3 x4 x5 x6 x7 x8 x9 x10 x11 x12 x13 x14 x15 x16 : Value} (A : Nat) (v5 v6 : Value) (tmps : Array Value) (W : World) (h4 : tmps[4]? = some (.pointer (some ⟨A, 0, none⟩))) (h5 : tmps[5]? = some v5) (h6 : tmps[6]? = some v6)
  (hA : Blk W A 39 [x0,x1,x2,x3,x4,x5,x6,x7,x8,x9,x10,x11,x12,x13,x14,x15,x16].toArray) : (results Tryz.f40 tmps).run Tryz.prog W = .ok (.tuple #[.agg #[x0,x1,x2,x3,x4,x5,x6,x7,x8,x9,x10,x11,x12,x13,x14,x15,x16],v5,v6]) W := by
 have e0 := hA.cell 0; have e1 := hA.cell 1; have e2 := hA.cell 2; have e3 := hA.cell 3; have e4 := hA.cell 4; have e5 := hA.cell 5; have e6 := hA.cell 6; have e7 := hA.cell 7; have e8 := hA.cell 8; have e9 := hA.cell 9; have e10 := hA.cell 10; have e11 := hA.cell 11; have e12 := hA.cell 12; have e13 := hA.cell 13; have e14 := hA.cell 14; have e15 := hA.cell 15; have e16 := hA.cell 16; simp only [gX0,gX1,gX2] at e0 e1 e2 e3 e4 e5 e6 e7 e8 e9 e10 e11 e12 e13 e14 e15 e16
 simp [results,Tryz.results40,go_sem,h4,h5,h6,e0,e1,e2,e3,e4,e5,e6,e7,e8,e9,e10,e11,e12,e13,e14,e15,e16]
theorem built_first (x : Int) : Tryz.prog.built 39 [(0, .int .i64 x)] = some #[.int .i64 x, .int .i64 0, .int .i64 0, .int .i64 0, .int .i64 0, .int .i64 0, .int .i64 0, .float .f64 0, .string ⟨#[]⟩, .slice none 0 0, .slice none 0 0, .int .i64 0, .int .i64 0, .float .f64 0, .string ⟨#[]⟩, .slice none 0 0, .slice none 0 0] := by kernel_rfl
theorem built_none : Tryz.prog.built 39 [] = some #[.int .i64 0, .int .i64 0, .int .i64 0, .int .i64 0, .int .i64 0, .int .i64 0, .int .i64 0, .float .f64 0, .string ⟨#[]⟩, .slice none 0 0, .slice none 0 0, .int .i64 0, .int .i64 0, .float .f64 0, .string ⟨#[]⟩, .slice none 0 0, .slice none 0 0] := by kernel_rfl
theorem blk_row {w : World} {g : Nat} {t : TypeId} {old : Array Value} (h : Blk w g t old) (cs : Array Value) : Blk (w.setRow g cs) g t cs /\ Only w (w.setRow g cs) g :=
 ⟨setRow_heap w g old cs t (0, 0) h,⟨rfl,rfl,rfl,by simp,fun i hi hne => setRow_other w g i cs (by simpa using hne)⟩⟩
theorem blk_rowd {w : World} {g : Nat} {t : TypeId} {old : Array Value} (h : Blk w g t old) (cs : Array Value) : Blk (w.drew.setRow g cs) g t cs /\ Only w (w.drew.setRow g cs) g :=
 ⟨(blk_row h.drew cs).1, (Only.refl w g).drew.trans (blk_row h.drew cs).2⟩
theorem set6aF {w : World} {g : Nat} {T : TypeId} {x0 x1 x2 x3 x4 x5 x6 x7 x8 x9 x10 x11 x12 x13 x14 x15 x16 : Value} (hb : Blk w g T [x0, x1, x2, x3, x4, x5, x6, x7, x8, x9, x10, x11, x12, x13, x14, x15, x16].toArray) (v5 v6 v7 v8 v9 v10 : Value) :
  Blk ((((((w.setCell ⟨g, 5,none⟩ (v5)).setCell ⟨g, 6,none⟩ (v6)).setCell ⟨g, 7,none⟩ (v7)).setCell ⟨g, 8,none⟩ (v8)).setCell ⟨g, 9,none⟩ (v9)).setCell ⟨g, 10,none⟩ (v10)) g T [x0,x1,x2,x3,x4,v5,v6,v7,v8,v9,v10,x11,x12,x13,x14,x15,x16].toArray /\ Only w ((((((w.setCell ⟨g, 5,none⟩ (v5)).setCell ⟨g, 6,none⟩ (v6)).setCell ⟨g, 7,none⟩ (v7)).setCell ⟨g, 8,none⟩ (v8)).setCell ⟨g, 9,none⟩ (v9)).setCell ⟨g, 10,none⟩ (v10)) g :=
 ⟨(blk_set (i := 10) (blk_set (i := 9) (blk_set (i := 8) (blk_set (i := 7) (blk_set (i := 6) (blk_set (i := 5) hb v5) v6) v7) v8) v9) v10), (((((((Only.refl w g).set_ (.inl rfl) _).set_ (.inl rfl) _).set_ (.inl rfl) _).set_ (.inl rfl) _).set_ (.inl rfl) _).set_ (.inl rfl) _)⟩
theorem set6bF {w : World} {g : Nat} {T : TypeId} {x0 x1 x2 x3 x4 x5 x6 x7 x8 x9 x10 x11 x12 x13 x14 x15 x16 : Value} (hb : Blk w g T [x0, x1, x2, x3, x4, x5, x6, x7, x8, x9, x10, x11, x12, x13, x14, x15, x16].toArray) (v11 v12 v13 v14 v15 v16 : Value) :
  Blk ((((((w.setCell ⟨g, 11,none⟩ (v11)).setCell ⟨g, 12,none⟩ (v12)).setCell ⟨g, 13,none⟩ (v13)).setCell ⟨g, 14,none⟩ (v14)).setCell ⟨g, 15,none⟩ (v15)).setCell ⟨g, 16,none⟩ (v16)) g T [x0,x1,x2,x3,x4,x5,x6,x7,x8,x9,x10,v11,v12,v13,v14,v15,v16].toArray /\ Only w ((((((w.setCell ⟨g, 11,none⟩ (v11)).setCell ⟨g, 12,none⟩ (v12)).setCell ⟨g, 13,none⟩ (v13)).setCell ⟨g, 14,none⟩ (v14)).setCell ⟨g, 15,none⟩ (v15)).setCell ⟨g, 16,none⟩ (v16)) g :=
 ⟨(blk_set (i := 16) (blk_set (i := 15) (blk_set (i := 14) (blk_set (i := 13) (blk_set (i := 12) (blk_set (i := 11) hb v11) v12) v13) v14) v15) v16), (((((((Only.refl w g).set_ (.inl rfl) _).set_ (.inl rfl) _).set_ (.inl rfl) _).set_ (.inl rfl) _).set_ (.inl rfl) _).set_ (.inl rfl) _)⟩
theorem frcmd_any (s : ByteArray) (p : Nat) (w : World) (hs : s.size <= 100000) (hp : p <= s.size) :
  Calls Tryz.prog 40 #[.string s, .int .i64 p] w fun e w' => CmdRead (rdCm s p) w e w' := by
 have hsf := run_store_flt; obtain ⟨A,hA⟩ := gXe (w.heap.size); obtain ⟨W0,hW0⟩ := gXe (w.alloc (.cells #[.int .i64 0, .int .i64 0, .int .i64 0, .int .i64 0, .int .i64 0, .int .i64 0, .int .i64 0, .float .f64 0, .string ⟨#[]⟩, .slice none 0 0, .slice none 0 0, .int .i64 0, .int .i64 0, .float .f64 0, .string ⟨#[]⟩, .slice none 0 0, .slice none 0 0] 39)); have hb0 : Below A w W0 := by rw [hW0,hA]; exact (Below.refl _ _).alloc (Nat.le_refl _) _
 have hr0 : Blk W0 A 39 [.int .i64 0, .int .i64 0, .int .i64 0, .int .i64 0, .int .i64 0, .int .i64 0, .int .i64 0, .float .f64 0, .string ⟨#[]⟩, .slice none 0 0, .slice none 0 0, .int .i64 0, .int .i64 0, .float .f64 0, .string ⟨#[]⟩, .slice none 0 0, .slice none 0 0].toArray := by rw [hW0,hA]; exact Blk.new _ _ _
 have hz0 : W0.heap.size = A + 1 := by rw [hW0,hA]; simp
 obtain ⟨o0,h0⟩ : ∃ o0 : Option Nat,o0 = some p := ⟨_,rfl⟩; obtain ⟨o1,h1⟩ : ∃ o,o = stN s o0 := ⟨_,rfl⟩; obtain ⟨n0,hn0⟩ : ∃ n,n = vN s o0 := ⟨_,rfl⟩; have hs0 : n0 <= 10000 := by rw [hn0]; exact vN_small _ _
 obtain ⟨o2,h2⟩ : ∃ o,o = stN s o1 := ⟨_,rfl⟩; obtain ⟨n1,hn1⟩ : ∃ n,n = vN s o1 := ⟨_,rfl⟩; have hs1 : n1 <= 10000 := by rw [hn1]; exact vN_small _ _
 obtain ⟨o3,h3⟩ : ∃ o,o = stN s o2 := ⟨_,rfl⟩; obtain ⟨n2,hn2⟩ : ∃ n,n = vN s o2 := ⟨_,rfl⟩; have hs2 : n2 <= 10000 := by rw [hn2]; exact vN_small _ _
 obtain ⟨o4,h4⟩ : ∃ o,o = stN s o3 := ⟨_,rfl⟩; obtain ⟨n3,hn3⟩ : ∃ n,n = vN s o3 := ⟨_,rfl⟩; have hs3 : n3 <= 10000 := by rw [hn3]; exact vN_small _ _
 obtain ⟨o5,h5⟩ : ∃ o,o = stN s o4 := ⟨_,rfl⟩; obtain ⟨n4,hn4⟩ : ∃ n,n = vN s o4 := ⟨_,rfl⟩; have hs4 : n4 <= 10000 := by rw [hn4]; exact vN_small _ _
 obtain ⟨o6,h6⟩ : ∃ o,o = stV s o5 := ⟨_,rfl⟩; obtain ⟨y5,hy5⟩ : ∃ y,y = vV s o5 := ⟨_,rfl⟩; obtain ⟨o7,h7⟩ : ∃ o,o = stV s o6 := ⟨_,rfl⟩; obtain ⟨y6,hy6⟩ : ∃ y,y = vV s o6 := ⟨_,rfl⟩; have hE := rdCm_eq s o0 o1 o2 o3 o4 o5 o6 o7 p h0 h1 h2 h3 h4 h5 h6 h7; rw [<- hn0, <- hn1, <- hn2, <- hn3, <- hn4, <- hy5, <- hy6] at hE; obtain ⟨R,hR⟩ := gXe (rdCm s p); rw [<- hR] at hE ⊢; have HE := gh hE; have HBG := gh (begin_in s p W0 hs hp); have HN : Hid (∀ (o o2 : Option Nat) (n g : Nat) (W : World),o2 = stN s o -> n = vN s o -> RSt W g s o -> Calls Tryz.prog 59 #[.agg #[.pointer (some ⟨g, 0,none⟩)]] W fun e w' => e = .returned (.int .i64 (n : Int)) /\ RSt w' g s o2 /\ Only W w' g) := gh (fun o o2 n g W e1 e2 hst => by rw [e1,e2]; exact innum_any s o g W hs hst)
 have HV : Hid (∀ (o o2 : Option Nat) (y : Val) (g : Nat) (W : World),o2 = stV s o -> y = vV s o -> RSt W g s o -> Calls Tryz.prog 60 #[.agg #[.pointer (some ⟨g, 0,none⟩)]] W fun e w' => ∃ u : Val,e = .returned u.agg /\ u.erase = y /\ u.In w' /\ u.Sep (fun b => W.heap.size <= b) /\ RSt w' g s o2 /\ Only W w' g) := gh (fun o o2 y g W e1 e2 hst => by rw [e1,e2]; exact insome_any s o g W hs hst)
 have HA := gh hA; have HW0 := gh hW0; have HB0 := gh hb0; have HR0 := gh hr0; have HZ0 := gh hz0; have HO0 := gh h0; have HO1 := gh h1; have HO2 := gh h2; have HO3 := gh h3; have HO4 := gh h4; have HO5 := gh h5; have HO6 := gh h6; have HO7 := gh h7; have HNE0 := gh hn0; have HNE1 := gh hn1; have HNE2 := gh hn2; have HNE3 := gh hn3; have HNE4 := gh hn4; have HY5 := gh hy5; have HY6 := gh hy6; clear hE hR hA hW0 hb0 hr0 hz0 hy5 hy6 h0 h1 h2 h3 h4 h5 h6 h7 hn0 hn1 hn2 hn3 hn4
 go_enter Tryz.func40,Tryz.ntmps40
 go_upto_region 1 with fail
 rw [<- HW0.o, <- HA.o]
 go_wp2_with fail
 refine HBG.o.mono ?_; rintro e w1 ⟨g,hg,rfl,hr1,hb1⟩; obtain ⟨I,hI⟩ := gXe (w1.heap.size); obtain ⟨W1,hW1⟩ := gXe (w1.alloc (.cells #[.pointer (some ⟨g, 0,none⟩)] 112)); have hbW : Below w1.heap.size w1 W1 := by rw [hW1]; exact (Below.refl _ _).alloc (Nat.le_refl _) _
 have hbW0 : Below A w W1 := (HB0.o.trans (hb1.mono (by have := HZ0.o; omega))).trans (hbW.mono (by have := HZ0.o; have := hb1.size; omega))
 have hr0 : Blk W1 A 39 [.int .i64 0, .int .i64 0, .int .i64 0, .int .i64 0, .int .i64 0, .int .i64 0, .int .i64 0, .float .f64 0, .string ⟨#[]⟩, .slice none 0 0, .slice none 0 0, .int .i64 0, .int .i64 0, .float .f64 0, .string ⟨#[]⟩, .slice none 0 0, .slice none 0 0].toArray := (HR0.o.below hb1 HR0.o.lt).below hbW (by have := HR0.o.lt; have := hb1.size; omega)
 have hib : Blk W1 I 112 #[.pointer (some ⟨g, 0,none⟩)] := by rw [hW1,hI]; exact Blk.new _ _ _
 have hst1 : RSt W1 g s o0 := by rw [HO0.o]; exact ⟨hp,Blk.below hr1 hbW (Blk.lt hr1)⟩
 have hAg : A < g /\ A < I /\ g < I := by have := HZ0.o; have := Blk.lt hr1; have := hb1.size; omega
 have HOK := gh (inok_any s o0 g W1 hst1); rw [HO0.o] at HOK; have HI := gh hI; have HW1 := gh hW1; have HBW := gh hbW0; have HR1 := gh hr0; have HIB := gh hib; have HS1 := gh hst1; have HAG := gh hAg; clear hg hr1 hb1 hI hW1 hbW hbW0 hr0 hib hst1 hAg HBG HB0 HR0
 go_upto_region 2 with fail
 rw [<- HW1.o, <- HI.o]; have c0 := HIB.o.cell 0
 simp at c0
 go_wp2_with fail
 refine HOK.o.mono ?_; rintro e w2 ⟨rfl,hb2⟩; have HIB2 := gh (HIB.o.below hb2 HIB.o.lt); have HBW2 := gh (HBW.o.trans (hb2.mono (Nat.le_of_lt HR1.o.lt))); have HR2 := gh (HR1.o.below hb2 HR1.o.lt); have HS2 := gh (HS1.o.below hb2); clear hb2 c0 HOK; have c0 := HIB2.o.cell 0
 simp at c0
 have HC0 := gh (HN.o o0 o1 n0 g w2 HO1.o HNE0.o HS2.o)
 go_wp2_with fail
 refine HC0.o.mono ?_; rintro e w3 ⟨rfl,hs3,ho3⟩; obtain ⟨X,hX⟩ := gXe (w3.heap.size); obtain ⟨V0,hV0⟩ := gXe (w3.alloc (.cells #[.int .i64 (n0 : Int), .int .i64 0, .int .i64 0, .int .i64 0, .int .i64 0, .int .i64 0, .int .i64 0, .float .f64 0, .string ⟨#[]⟩, .slice none 0 0, .slice none 0 0, .int .i64 0, .int .i64 0, .float .f64 0, .string ⟨#[]⟩, .slice none 0 0, .slice none 0 0] 39))
 have hF3 : FSt w V0 A g I X s o1 [.int .i64 (n0 : Int), .int .i64 0, .int .i64 0, .int .i64 0, .int .i64 0, .int .i64 0, .int .i64 0, .float .f64 0, .string ⟨#[]⟩, .slice none 0 0, .slice none 0 0, .int .i64 0, .int .i64 0, .float .f64 0, .string ⟨#[]⟩, .slice none 0 0, .slice none 0 0] := by
  obtain ⟨l1,l2,l3⟩ := HAG.o; have hbV : Below w3.heap.size w3 V0 := by rw [hV0]; exact (Below.refl _ _).alloc (Nat.le_refl _) _
  have hI3 := HIB2.o.grown ho3 (by simp; omega)
  have hR3 := HR2.o.grown ho3 (by simp; omega)
  have hx : Blk V0 X 39 [.int .i64 (n0 : Int), .int .i64 0, .int .i64 0, .int .i64 0, .int .i64 0, .int .i64 0, .int .i64 0, .float .f64 0, .string ⟨#[]⟩, .slice none 0 0, .slice none 0 0, .int .i64 0, .int .i64 0, .float .f64 0, .string ⟨#[]⟩, .slice none 0 0, .slice none 0 0].toArray := by rw [hV0,hX]; exact Blk.new _ _ _
  have hgl := hs3.lt; have hIl := hI3.lt; have hRl := hR3.lt; exact ⟨(Go.Proofs.YtaamihdibpioaaaGreat.Below.only HBW2.o ho3 (by omega) (Nat.le_of_lt HR2.o.lt)).trans (hbV.mono (by omega)),hR3.below hbV hRl,hI3.below hbV hIl,hs3.below hbV,hx,by omega,by omega,by omega,by omega,by omega,by omega⟩
 have HF0 := gh hF3; have HX := gh hX; have HV0 := gh hV0; clear hs3 ho3 hX hV0 hF3 c0 HC0 HS2 HR2 HBW2 HIB2 HS1 HIB HR1 HBW HW1 HI
 go_upto_region 5 with (first
  | (refine wpList_build_as 39 _ #[.int .i64 (n0 : Int), .int .i64 0, .int .i64 0, .int .i64 0, .int .i64 0, .int .i64 0, .int .i64 0, .float .f64 0, .string ⟨#[]⟩, .slice none 0 0, .slice none 0 0, .int .i64 0, .int .i64 0, .float .f64 0, .string ⟨#[]⟩, .slice none 0 0, .slice none 0 0] [(0, .int .i64 (n0 : Int))] rfl rfl (by kernel_rfl) (built_first _) ?_)
  | (refine wpList_store_new 39 _ _ #[.int .i64 (n0 : Int), .int .i64 0, .int .i64 0, .int .i64 0, .int .i64 0, .int .i64 0, .int .i64 0, .float .f64 0, .string ⟨#[]⟩, .slice none 0 0, .slice none 0 0, .int .i64 0, .int .i64 0, .float .f64 0, .string ⟨#[]⟩, .slice none 0 0, .slice none 0 0] _ rfl rfl HV0.o rfl rfl cmd_info rfl (by rw [List.all_toArray]; rfl) ?_; rw [<- HX.o])
  | fail)
 have c0 := HF0.o.inb.cell 0
 simp at c0
 have HC := gh (HN.o o1 o2 n1 g V0 HO2.o HNE1.o HF0.o.st)
 go_wp2_with fail
 refine HC.o.mono ?_; rintro e w4 ⟨rfl,hst,ho⟩; have HG := gh (HF0.o.next ho hst); have hF : FSt w (w4.setCell ⟨X, 1,none⟩ (.int .i64 (n1 : Int))) A g I X s o2 [.int .i64 (n0 : Int), .int .i64 (n1 : Int), .int .i64 0, .int .i64 0, .int .i64 0, .int .i64 0, .int .i64 0, .float .f64 0, .string ⟨#[]⟩, .slice none 0 0, .slice none 0 0, .int .i64 0, .int .i64 0, .float .f64 0, .string ⟨#[]⟩, .slice none 0 0, .slice none 0 0] := HG.o.put 1 _; obtain ⟨V1,hV⟩ := gXe (w4.setCell ⟨X, 1,none⟩ (.int .i64 (n1 : Int))); rw [<- hV] at hF; have HF1 := gh hF; have HV1 := gh hV; clear hst ho hF hV c0 HC; have x0 := HG.o.x.cell 1; have f0 := HG.o.x.frozen 1; simp only [gX0,gX1,gX2] at x0
 go_upto_region 6 with fail
 rw [<- HV1.o]; clear x0 f0 HG; have c0 := HF1.o.inb.cell 0
 simp at c0
 have HC := gh (HN.o o2 o3 n2 g V1 HO3.o HNE2.o HF1.o.st)
 go_wp2_with fail
 refine HC.o.mono ?_; rintro e w5 ⟨rfl,hst,ho⟩; have HG := gh (HF1.o.next ho hst); have hF : FSt w (w5.setCell ⟨X, 2,none⟩ (.int .i64 (n2 : Int))) A g I X s o3 [.int .i64 (n0 : Int), .int .i64 (n1 : Int), .int .i64 (n2 : Int), .int .i64 0, .int .i64 0, .int .i64 0, .int .i64 0, .float .f64 0, .string ⟨#[]⟩, .slice none 0 0, .slice none 0 0, .int .i64 0, .int .i64 0, .float .f64 0, .string ⟨#[]⟩, .slice none 0 0, .slice none 0 0] := HG.o.put 2 _; obtain ⟨V2,hV⟩ := gXe (w5.setCell ⟨X, 2,none⟩ (.int .i64 (n2 : Int))); rw [<- hV] at hF; have HF2 := gh hF; have HV2 := gh hV; clear hst ho hF hV c0 HC; have x0 := HG.o.x.cell 2; have f0 := HG.o.x.frozen 2; simp only [gX0,gX1,gX2] at x0
 go_upto_region 7 with fail
 rw [<- HV2.o]; clear x0 f0 HG; have c0 := HF2.o.inb.cell 0
 simp at c0
 have HC := gh (HN.o o3 o4 n3 g V2 HO4.o HNE3.o HF2.o.st)
 go_wp2_with fail
 refine HC.o.mono ?_; rintro e w6 ⟨rfl,hst,ho⟩; have HG := gh (HF2.o.next ho hst); have hF : FSt w (w6.setCell ⟨X, 3,none⟩ (.int .i64 (n3 : Int))) A g I X s o4 [.int .i64 (n0 : Int), .int .i64 (n1 : Int), .int .i64 (n2 : Int), .int .i64 (n3 : Int), .int .i64 0, .int .i64 0, .int .i64 0, .float .f64 0, .string ⟨#[]⟩, .slice none 0 0, .slice none 0 0, .int .i64 0, .int .i64 0, .float .f64 0, .string ⟨#[]⟩, .slice none 0 0, .slice none 0 0] := HG.o.put 3 _; obtain ⟨V3,hV⟩ := gXe (w6.setCell ⟨X, 3,none⟩ (.int .i64 (n3 : Int))); rw [<- hV] at hF; have HF3 := gh hF; have HV3 := gh hV; clear hst ho hF hV c0 HC; have x0 := HG.o.x.cell 3; have f0 := HG.o.x.frozen 3; simp only [gX0,gX1,gX2] at x0
 go_upto_region 8 with fail
 rw [<- HV3.o]; clear x0 f0 HG; have c0 := HF3.o.inb.cell 0
 simp at c0
 have HC := gh (HN.o o4 o5 n4 g V3 HO5.o HNE4.o HF3.o.st)
 go_wp2_with fail
 refine HC.o.mono ?_; rintro e w7 ⟨rfl,hst,ho⟩; have HG := gh (HF3.o.next ho hst); have hF : FSt w (w7.setCell ⟨X, 4,none⟩ (.int .i64 (n4 : Int))) A g I X s o5 [.int .i64 (n0 : Int), .int .i64 (n1 : Int), .int .i64 (n2 : Int), .int .i64 (n3 : Int), .int .i64 (n4 : Int), .int .i64 0, .int .i64 0, .float .f64 0, .string ⟨#[]⟩, .slice none 0 0, .slice none 0 0, .int .i64 0, .int .i64 0, .float .f64 0, .string ⟨#[]⟩, .slice none 0 0, .slice none 0 0] := HG.o.put 4 _; obtain ⟨V4,hV⟩ := gXe (w7.setCell ⟨X, 4,none⟩ (.int .i64 (n4 : Int))); rw [<- hV] at hF; have HF4 := gh hF; have HV4 := gh hV; clear hst ho hF hV c0 HC; have x0 := HG.o.x.cell 4; have f0 := HG.o.x.frozen 4; simp only [gX0,gX1,gX2] at x0
 go_upto_region 9 with fail
 rw [<- HV4.o]; clear x0 f0 HG; have c0 := HF4.o.inb.cell 0
 simp at c0
 have HC := gh (HV.o o5 o6 y5 g V4 HO6.o HY5.o HF4.o.st)
 go_wp2_with fail
 refine HC.o.mono ?_; rintro e w8 ⟨c1,rfl,hce,hci,hcs,hst,ho⟩; obtain ⟨a4,b4,k4⟩ := hci.nslice; obtain ⟨a5,b5,k5⟩ := hci.xslice; have hag : c1.agg = .agg #[.int .i64 c1.k, .int .i64 c1.n, .float .f64 c1.f, .string c1.s, .slice a4 c1.ns.length b4, .slice a5 c1.xs.length b5] := by unfold Val.agg; rw [k4,k5]
 rw [hag]; have HG := gh (HF4.o.next ho hst); have hset := set6aF HG.o.x (.int .i64 c1.k) (.int .i64 c1.n) (.float .f64 c1.f) (.string c1.s) (.slice a4 c1.ns.length b4) (.slice a5 c1.xs.length b5); obtain ⟨V5,hV⟩ := gXe (((((((w8.setCell ⟨X, 5,none⟩ (.int .i64 c1.k)).setCell ⟨X, 6,none⟩ (.int .i64 c1.n)).setCell ⟨X, 7,none⟩ (.float .f64 c1.f)).setCell ⟨X, 8,none⟩ (.string c1.s)).setCell ⟨X, 9,none⟩ (.slice a4 c1.ns.length b4)).setCell ⟨X, 10,none⟩ (.slice a5 c1.xs.length b5))); rw [<- hV] at hset; have hF := HG.o.store hset.1 hset.2; have hXl : X < V4.heap.size := HF4.o.x.lt; have hO := hset.2; have hci2 : c1.In V5 := hci.carryS hcs (fun b o hb hlt => only_cell hO (by have hb' : V4.heap.size <= b := hb; omega) hlt o) hO.size
 have HF5 := gh hF; have HV5 := gh hV; have HCE5 := gh hce; have HCI5 := gh hci2; have HCS5 := gh hcs; have HK45 := gh k4; have HK55 := gh k5; have HOO5 := gh ho; have HOX5 := gh hO; have HXL5 := gh hXl; clear hst ho hF hV c0 HC hce hci hcs k4 k5 hag hO hci2 hXl hset; have x5 := HG.o.x.cell 5; have x6 := HG.o.x.cell 6; have x7 := HG.o.x.cell 7; have x8 := HG.o.x.cell 8; have x9 := HG.o.x.cell 9; have x10 := HG.o.x.cell 10; simp only [gX0,gX1,gX2] at x5 x6 x7 x8 x9 x10; have f5 := HG.o.x.frozen 5; have f6 := HG.o.x.frozen 6; have f7 := HG.o.x.frozen 7; have f8 := HG.o.x.frozen 8; have f9 := HG.o.x.frozen 9; have f10 := HG.o.x.frozen 10
 go_upto_region 10 with fail
 rw [<- HV5.o]; clear x5 f5 x6 f6 x7 f7 x8 f8 x9 f9 x10 f10 HG; have c0 := HF5.o.inb.cell 0
 simp at c0
 have HC := gh (HV.o o6 o7 y6 g V5 HO7.o HY6.o HF5.o.st)
 go_wp2_with fail
 refine HC.o.mono ?_; rintro e w9 ⟨c2,rfl,hce,hci,hcs,hst,ho⟩; obtain ⟨d4,l4,k4⟩ := hci.nslice; obtain ⟨d5,l5,k5⟩ := hci.xslice; have hag : c2.agg = .agg #[.int .i64 c2.k, .int .i64 c2.n, .float .f64 c2.f, .string c2.s, .slice d4 c2.ns.length l4, .slice d5 c2.xs.length l5] := by unfold Val.agg; rw [k4,k5]
 rw [hag]; have HG := gh (HF5.o.next ho hst); have hset := set6bF HG.o.x (.int .i64 c2.k) (.int .i64 c2.n) (.float .f64 c2.f) (.string c2.s) (.slice d4 c2.ns.length l4) (.slice d5 c2.xs.length l5); obtain ⟨V6,hV⟩ := gXe (((((((w9.setCell ⟨X, 11,none⟩ (.int .i64 c2.k)).setCell ⟨X, 12,none⟩ (.int .i64 c2.n)).setCell ⟨X, 13,none⟩ (.float .f64 c2.f)).setCell ⟨X, 14,none⟩ (.string c2.s)).setCell ⟨X, 15,none⟩ (.slice d4 c2.ns.length l4)).setCell ⟨X, 16,none⟩ (.slice d5 c2.xs.length l5))); rw [<- hV] at hset; have hF := HG.o.store hset.1 hset.2; have hXl : X < V5.heap.size := HF5.o.x.lt; have hO := hset.2; have hci2 : c2.In V6 := hci.carryS hcs (fun b o hb hlt => only_cell hO (by have hb' : V5.heap.size <= b := hb; omega) hlt o) hO.size
 have HF6 := gh hF; have HV6 := gh hV; have HCE6 := gh hce; have HCI6 := gh hci2; have HCS6 := gh hcs; have HK46 := gh k4; have HK56 := gh k5; have HOO6 := gh ho; have HOX6 := gh hO; have HXL6 := gh hXl; clear hst ho hF hV c0 HC hce hci hcs k4 k5 hag hO hci2 hXl hset; have x11 := HG.o.x.cell 11; have x12 := HG.o.x.cell 12; have x13 := HG.o.x.cell 13; have x14 := HG.o.x.cell 14; have x15 := HG.o.x.cell 15; have x16 := HG.o.x.cell 16; simp only [gX0,gX1,gX2] at x11 x12 x13 x14 x15 x16; have f11 := HG.o.x.frozen 11; have f12 := HG.o.x.frozen 12; have f13 := HG.o.x.frozen 13; have f14 := HG.o.x.frozen 14; have f15 := HG.o.x.frozen 15; have f16 := HG.o.x.frozen 16
 go_upto_region 11 with fail
 rw [<- HV6.o]; clear x11 f11 x12 f12 x13 f13 x14 f14 x15 f15 x16 f16 HG
 have hc1 : c1.In V6 := by
  have hzV : V4.heap.size <= V5.heap.size := Nat.le_trans HOO5.o.size HOX5.o.size; have h9 : c1.In w9 := HCI5.o.carryS HCS5.o (fun b o hb hlt => only_cell HOO6.o (by have hb' : V4.heap.size <= b := hb; have := HF4.o.st.lt; omega) hlt o) HOO6.o.size
  exact h9.carryS HCS5.o (fun b o hb hlt => only_cell HOX6.o (by have hb' : V4.heap.size <= b := hb; have := HXL5.o; omega) hlt o) HOX6.o.size
 have HC1 := gh hc1; clear hc1; have HOK := gh (inok_any s o7 g V6 HF6.o.st); have c0 := HF6.o.inb.cell 0
 simp at c0
 go_wp2_with fail
 refine HOK.o.mono ?_; rintro e wA ⟨rfl,hbA⟩; have HFA := gh (HF6.o.under hbA); have HC1A := gh (HC1.o.below hbA); have HC2A := gh (HCI6.o.below hbA); have hzA := hbA.size; have hV46 : V4.heap.size <= V6.heap.size /\ V5.heap.size <= V6.heap.size := by have := HOO5.o.size; have := HOX5.o.size; have := HOO6.o.size; have := HOX6.o.size; omega
 have hA4 : A < V4.heap.size /\ A < V5.heap.size := ⟨HF4.o.res.lt,HF5.o.res.lt⟩; clear hbA c0 HOK
 cases o7 with
 | none =>
  have hst := blk_row HFA.o.res #[.int .i64 0, .int .i64 0, .int .i64 0, .int .i64 0, .int .i64 0, .int .i64 0, .int .i64 0, .float .f64 0, .string ⟨#[]⟩, .slice none 0 0, .slice none 0 0, .int .i64 0, .int .i64 0, .float .f64 0, .string ⟨#[]⟩, .slice none 0 0, .slice none 0 0]; obtain ⟨wB,hwB⟩ := gXe (wA.setRow A #[.int .i64 0, .int .i64 0, .int .i64 0, .int .i64 0, .int .i64 0, .int .i64 0, .int .i64 0, .float .f64 0, .string ⟨#[]⟩, .slice none 0 0, .slice none 0 0, .int .i64 0, .int .i64 0, .float .f64 0, .string ⟨#[]⟩, .slice none 0 0, .slice none 0 0]); rw [<- hwB] at hst; have HB := gh hst.1; have HBB := gh (HFA.o.done hst.1 hst.2).1; have HWB := gh hwB; have HRA := gh HFA.o.res; clear hst hwB
  go_wp2_with (first
   | (refine wpList_build_as 39 _ #[.int .i64 0, .int .i64 0, .int .i64 0, .int .i64 0, .int .i64 0, .int .i64 0, .int .i64 0, .float .f64 0, .string ⟨#[]⟩, .slice none 0 0, .slice none 0 0, .int .i64 0, .int .i64 0, .float .f64 0, .string ⟨#[]⟩, .slice none 0 0, .slice none 0 0] [] rfl rfl (by kernel_rfl) built_none ?_)
   | (refine wpList_store_row rfl 39 _ _ rfl A #[.int .i64 0, .int .i64 0, .int .i64 0, .int .i64 0, .int .i64 0, .int .i64 0, .int .i64 0, .float .f64 0, .string ⟨#[]⟩, .slice none 0 0, .slice none 0 0, .int .i64 0, .int .i64 0, .float .f64 0, .string ⟨#[]⟩, .slice none 0 0, .slice none 0 0] rfl rfl 39 _ HRA.o cmd_info rfl (by rw [List.all_toArray]; rfl) ?_; rw [<- HWB.o])
   | fail)
  refine bodyPost_ret (res_readF A (.int .i64 0) (.int .i64 5) _ _ rfl rfl rfl HB.o) rfl ?_; refine ⟨by rw [<- HA.o]; exact HBB.o,?_⟩
  rw [HE.o]
  rfl
 | some q =>
  have hst := blk_rowd HFA.o.res #[.int .i64 (n0 : Int), .int .i64 (n1 : Int), .int .i64 (n2 : Int), .int .i64 (n3 : Int), .int .i64 (n4 : Int), .int .i64 c1.k, .int .i64 c1.n, .float .f64 c1.f, .string c1.s, .slice a4 c1.ns.length b4, .slice a5 c1.xs.length b5, .int .i64 c2.k, .int .i64 c2.n, .float .f64 c2.f, .string c2.s, .slice d4 c2.ns.length l4, .slice d5 c2.xs.length l5]; obtain ⟨wB,hwB⟩ := gXe (wA.drew.setRow A #[.int .i64 (n0 : Int), .int .i64 (n1 : Int), .int .i64 (n2 : Int), .int .i64 (n3 : Int), .int .i64 (n4 : Int), .int .i64 c1.k, .int .i64 c1.n, .float .f64 c1.f, .string c1.s, .slice a4 c1.ns.length b4, .slice a5 c1.xs.length b5, .int .i64 c2.k, .int .i64 c2.n, .float .f64 c2.f, .string c2.s, .slice d4 c2.ns.length l4, .slice d5 c2.xs.length l5]); rw [<- hwB] at hst; have HLD : Hid (∀ Y, (fun Y => Blk Y X 39 [.int .i64 (n0 : Int), .int .i64 (n1 : Int), .int .i64 (n2 : Int), .int .i64 (n3 : Int), .int .i64 (n4 : Int), .int .i64 c1.k, .int .i64 c1.n, .float .f64 c1.f, .string c1.s, .slice a4 c1.ns.length b4, .slice a5 c1.xs.length b5, .int .i64 c2.k, .int .i64 c2.n, .float .f64 c2.f, .string c2.s, .slice d4 c2.ns.length l4, .slice d5 c2.xs.length l5].toArray /\ Blk Y I 112 #[.pointer (some ⟨g, 0,none⟩)] /\ RAt Y g s q 0 0) Y -> (Instr.loadAt 39 (.pointer (some ⟨X, 0,none⟩))).run Tryz.prog Y = .ok (.agg #[.int .i64 (n0 : Int), .int .i64 (n1 : Int), .int .i64 (n2 : Int), .int .i64 (n3 : Int), .int .i64 (n4 : Int), .int .i64 c1.k, .int .i64 c1.n, .float .f64 c1.f, .string c1.s, .slice a4 c1.ns.length b4, .slice a5 c1.xs.length b5, .int .i64 c2.k, .int .i64 c2.n, .float .f64 c2.f, .string c2.s, .slice d4 c2.ns.length l4, .slice d5 c2.xs.length l5]) Y) := gh (fun Y hY => run_loadAt_mid Y X 0 39 [.int .i64 (n0 : Int), .int .i64 (n1 : Int), .int .i64 (n2 : Int), .int .i64 (n3 : Int), .int .i64 (n4 : Int), .int .i64 c1.k, .int .i64 c1.n, .float .f64 c1.f, .string c1.s, .slice a4 c1.ns.length b4, .slice a5 c1.xs.length b5, .int .i64 c2.k, .int .i64 c2.n, .float .f64 c2.f, .string c2.s, .slice d4 c2.ns.length l4, .slice d5 c2.xs.length l5] _ (fun j v hv => by rw [hY.1.cell (0 + j)]; simpa using hv) Tryz.underlying39 rfl cmd_info)
  obtain ⟨hbB,hiB,hrB,hxB⟩ := HFA.o.done hst.1 hst.2; have hcB : c1.In wB := HC1A.o.carryS HCS5.o (fun b o hb hlt => only_cell hst.2 (by have hb' : V4.heap.size <= b := hb; omega) hlt o) hst.2.size
  have hdB : c2.In wB := HC2A.o.carryS HCS6.o (fun b o hb hlt => only_cell hst.2 (by have hb' : V5.heap.size <= b := hb; omega) hlt o) hst.2.size
  have HB := gh hst.1; have HBB := gh hbB; have HWB := gh hwB; have HCB := gh hcB; have HDB := gh hdB; have HSB := gh (And.intro hxB (And.intro hiB hrB.2)); have HRA := gh HFA.o.res.drew; have HSA := gh (And.intro HFA.o.x.drew (And.intro HFA.o.inb.drew HFA.o.st.2.drew)); clear hst hwB hbB hiB hrB hxB hcB hdB
  go_upto_region 13 with fail
  refine wp_region_held_drew (S := (fun Y => Blk Y X 39 [.int .i64 (n0 : Int), .int .i64 (n1 : Int), .int .i64 (n2 : Int), .int .i64 (n3 : Int), .int .i64 (n4 : Int), .int .i64 c1.k, .int .i64 c1.n, .float .f64 c1.f, .string c1.s, .slice a4 c1.ns.length b4, .slice a5 c1.xs.length b5, .int .i64 c2.k, .int .i64 c2.n, .float .f64 c2.f, .string c2.s, .slice d4 c2.ns.length l4, .slice d5 c2.xs.length l5].toArray /\ Blk Y I 112 #[.pointer (some ⟨g, 0,none⟩)] /\ RAt Y g s q 0 0)) (by kernel_rfl) (HSA.o) (fun hHeld => ?_)
  refine gT (i := 0) (d := some 44) (v := .agg #[.int .i64 (n0 : Int), .int .i64 (n1 : Int), .int .i64 (n2 : Int), .int .i64 (n3 : Int), .int .i64 (n4 : Int), .int .i64 c1.k, .int .i64 c1.n, .float .f64 c1.f, .string c1.s, .slice a4 c1.ns.length b4, .slice a5 c1.xs.length b5, .int .i64 c2.k, .int .i64 c2.n, .float .f64 c2.f, .string c2.s, .slice d4 c2.ns.length l4, .slice d5 c2.xs.length l5]) rfl rfl (by kernel_rfl) gf (by rfl) (fun w yS => exec_load _ _ rfl (HLD.o w yS)) hHeld ?_
  try simp only [Act.put,gX3,gX4,gX5]
  refine gT (i := 1) (d := some 45) (v := ?_) rfl rfl (by kernel_rfl) (fun _ _ _ h => h) (by rfl) ?_ hHeld ?_
  rotate_left
  ·(intro w yS; (try dsimp only at yS); have h1 := Blk.cell yS.2.2 1; have h2 := yS.2.1.cell 0; simp at h1 h2; go_simp; try with_reducible rfl)
  try simp only [Act.put,gX3,gX4,gX5]
  refine gT (i := 2) (d := some 46) (v := ?_) rfl rfl (by kernel_rfl) (fun _ _ _ h => h) (by rfl) ?_ hHeld ?_
  rotate_left
  ·(intro w yS; (try dsimp only at yS); have h1 := Blk.cell yS.2.2 1; have h2 := yS.2.1.cell 0; simp at h1 h2; go_simp; try with_reducible rfl)
  try simp only [Act.put,gX3,gX4,gX5]
  refine gT (i := 3) (d := some 47) (v := ?_) rfl rfl (by kernel_rfl) (fun _ _ _ h => h) (by rfl) ?_ hHeld ?_
  rotate_left
  ·(intro w yS; (try dsimp only at yS); have h1 := Blk.cell yS.2.2 1; have h2 := yS.2.1.cell 0; simp at h1 h2; go_simp; try with_reducible rfl)
  try simp only [Act.put,gX3,gX4,gX5]
  refine gT (i := 4) (d := some 48) (v := ?_) rfl rfl (by kernel_rfl) (fun _ _ _ h => h) (by rfl) ?_ hHeld ?_
  rotate_left
  ·(intro w yS; (try dsimp only at yS); have h1 := Blk.cell yS.2.2 1; have h2 := yS.2.1.cell 0; simp at h1 h2; go_simp; try with_reducible rfl)
  try simp only [Act.put,gX3,gX4,gX5]
  refine gT (i := 5) (d := some 49) (v := ?_) rfl rfl (by kernel_rfl) (fun _ _ _ h => h) (by rfl) ?_ hHeld ?_
  rotate_left
  ·(intro w yS; (try dsimp only at yS); have h1 := Blk.cell yS.2.2 1; have h2 := yS.2.1.cell 0; simp at h1 h2; go_simp; try with_reducible rfl)
  try simp only [Act.put,gX3,gX4,gX5]
  refine held_only (i := 6) (by kernel_rfl) rfl (by rfl) (fun K hK => ?_)
  refine wp_store_row 39 _ _ rfl A #[.int .i64 (n0 : Int), .int .i64 (n1 : Int), .int .i64 (n2 : Int), .int .i64 (n3 : Int), .int .i64 (n4 : Int), .int .i64 c1.k, .int .i64 c1.n, .float .f64 c1.f, .string c1.s, .slice a4 c1.ns.length b4, .slice a5 c1.xs.length b5, .int .i64 c2.k, .int .i64 c2.n, .float .f64 c2.f, .string c2.s, .slice d4 c2.ns.length l4, .slice d5 c2.xs.length l5] rfl rfl 39 _ HRA.o cmd_info rfl (by rw [List.all_toArray]; rfl) ?_
  rw [<- HWB.o]; refine hK.out _ _ HSB.o (fun hHeld => ?_)
  clear hK K; try simp only [Act.put,gX3,gX4,gX5]
  refine gT (i := 7) (d := some 5) (v := ?_) rfl rfl (by kernel_rfl) (fun _ _ _ h => h) (by rfl) ?_ hHeld ?_
  rotate_left
  ·(intro w yS; (try dsimp only at yS); go_simp; try with_reducible rfl)
  try simp only [Act.put,gX3,gX4,gX5]
  refine gT (i := 8) (d := some 6) (v := ?_) rfl rfl (by kernel_rfl) (fun _ _ _ h => h) (by rfl) ?_ hHeld ?_
  rotate_left
  ·(intro w yS; (try dsimp only at yS); go_simp; try with_reducible rfl)
  try simp only [Act.put,gX3,gX4,gX5]
  refine wpAnyH_done (by kernel_rfl) ?_ _
  go_wp2
  refine bodyPost_ret (res_readF A (.int .i64 q) (.int .i64 0) _ _ rfl rfl rfl HB.o) rfl ?_; refine ⟨by rw [<- HA.o]; exact HBB.o,?_⟩
  rw [HE.o]; refine ⟨⟨n0,n1,n2,n3,n4,c1,c2⟩,?_,?_,⟨?_,HCB.o,HDB.o⟩,HCS5.o.mono (fun b hb => ?_),HCS6.o.mono (fun b hb => ?_)⟩
  ·unfold Cm.agg Cm.cells Val.cells; rw [HK45.o,HK55.o,HK46.o,HK56.o]; rfl
  ·unfold Cm.erase; rw [HCE5.o,HCE6.o]
  ·intro z hz
   simp only [Cm.ints,List.mem_cons,List.not_mem_nil,or_false] at hz
   rcases hz with rfl | rfl | rfl | rfl | rfl <;> exact ⟨by omega,by omega⟩
  ·have hb' : V4.heap.size <= b := hb
   have := HA.o
   omega
  ·have hb' : V5.heap.size <= b := hb
   have := HA.o
   omega
end Go.Proofs.YtaamihdibpioaaaGreat.Ri
namespace Go.Proofs.YtaamihdibpioaaaGreat
open Go.RowKit Go.Proofs.YtaamihdibpioaaaGreat.Jr Go.Proofs.YtaamihdibpioaaaGreat.Pk
section
variable {P : Program} (w : World)
theorem run_append_fullJ (t ty e : TypeId) (i : TypeInfo) (z : Value) (size bytes : Nat) (ht : P.underlying t = some (.slice e)) (hi : P.info? e = some i) (hz : i.zero = some z)
  (hsize : i.size = size) (hby : i.bytes = bytes) (hzs : z.cells.size = size) (hsz : 0 < size) (B : Nat) (A : Option Addr) (n : Nat) (olds : List Value) (hr : Reads w B size A n olds)
  (a : Addr) (m c : Nat) (news : List Value) (hl : news.length = m * size) (hnews : ∀ j u,news[j]? = some u -> w.cell? (a.add j) = some u) (h1 : ∀ u ∈ news,u.oneCell' = true) (hm : 0 < m)
  (h63 : n + m <= maxLen) (hbytes : (n + m) * bytes <= 140737488355328) :
  ∃ v' w', (Builtin.append_ #[t,t] ty #[.slice A n n, .slice (some a) m c]).run P w = .ok v' w' /\ w'.ownsRow w.heap.size e size v' (n + m) (olds ++ news) /\ w.grownBy w' none := by
 rcases A with _ | b
 ·have hn : n = 0 := by
   rcases Nat.eq_zero_or_pos n with h0 | h0
   ·exact h0
   ·obtain ⟨ad, h, _⟩ := hr.2 h0
    cases h
  subst hn; have ho : olds = [] := List.eq_nil_of_length_eq_zero (by simpa using hr.1)
  subst ho; obtain ⟨v',w',hrun,h2,h3,_,h5⟩ := run_append_own_at (P := P) w w.heap.size t ty e i z size bytes ht hi hz hsize hby hzs hsz (.slice none 0 0) 0 [] (World.ownsRow_nil w w.heap.size e size) a m c news hl hnews h1 h63 hbytes (Nat.le_refl _); exact ⟨v',w',hrun,h2,h3⟩
 ·exact run_append_arg_grows w t ty e i z size bytes ht hi hz hsize hby hzs hsz b n n olds hr.1 (fun j u hu => by
   rcases Nat.eq_zero_or_pos n with h0 | h0
   ·subst h0
    have ho : olds = [] := List.eq_nil_of_length_eq_zero (by simpa using hr.1)
    subst ho
    simp at hu
   ·obtain ⟨ad, h, _, hc⟩ := hr.2 h0
    injection h with h; subst h; exact hc j u hu) a m c news hl hnews (by omega) h63 hbytes
theorem wp_append_full {o : Oper} {a : Act} {K : Act -> World -> Prop} {Q : Exit -> Act -> World -> Prop} (s x : Operand) (t : TypeId)
  (ho : o.op = .call { callee := .builtin .append,args := #[s,x],argTypes := #[t,t] })
  (e : TypeId) (i : TypeInfo) (z : Value) (size bytes : Nat) (ht : P.underlying t = some (.slice e)) (hi : P.info? e = some i) (hz : i.zero = some z)
  (hsize : i.size = size) (hby : i.bytes = bytes) (hzs : z.cells.size = size) (hsz : 0 < size) (B : Nat) (A : Option Addr) (n : Nat) (olds : List Value) (hs : a.eval s = .slice A n n) (hr : Reads w B size A n olds)
  (ad : Addr) (m c : Nat) (news : List Value) (hx : a.eval x = .slice (some ad) m c) (hl : news.length = m * size) (hnews : ∀ j u,news[j]? = some u -> w.cell? (ad.add j) = some u) (h1 : ∀ u ∈ news,u.oneCell' = true) (hm : 0 < m)
  (h63 : n + m <= maxLen) (hbytes : (n + m) * bytes <= 140737488355328)
  (h : ∀ v' w',w'.ownsRow w.heap.size e size v' (n + m) (olds ++ news) -> w.grownBy w' none -> K (a.put o.dst v') w') : o.wp P a w K Q := by
 obtain ⟨v',w',hrun,h2,h3⟩ := run_append_fullJ (P := P) w t o.type e i z size bytes ht hi hz hsize hby hzs hsz B A n olds hr ad m c news hl hnews h1 hm h63 hbytes; unfold Oper.wp execOp; simp only [ho,resolve,invoke,builtin,Sem.run_bind,Sem.run_pure,Result.andThen_ok,List.map_toArray,List.map_cons,List.map_nil,hs,hx,hrun]; exact h v' w' h2 h3
end
theorem wp_buildSliceAs {P : Program} {o : Oper} {a : Act} {w : World} {K : Act -> World -> Prop} {Q : Exit -> Act -> World -> Prop} (t e : TypeId) (len : Nat) (parts : Array (Nat × Operand)) (X : Array Value) (ps : List (Nat × Value))
  (ho : o.op = .buildSlice t len parts) (hp : (parts.map fun (i,x) => (i,a.eval x)).toList = ps) (hu : P.underlying t = some (.slice e)) (hb : P.builtSlice e len ps = some X)
  (h : K (a.put o.dst (.slice (some ⟨w.heap.size, 0,none⟩) len len)) (w.alloc (.cells X e))) : o.wp P a w K Q := by
 subst hp; unfold Program.builtSlice at hb
 cases hie : P.info? e with
 | none => simp [hie] at hb
 | some ie =>
  simp only [hie] at hb
  cases hz : ie.zero with
  | none => simp [hz] at hb
  | some z =>
   simp only [hz] at hb
   by_cases hc : len * ie.size > 2 ^ 24 \/ len * ie.size = 0
   ·simp [hc] at hb
   ·rw [if_neg hc] at hb
    exact wp_buildSlice t e len parts ho X ie z hu hie hz (fun h' => hc (Or.inl h')) (fun h' => hc (Or.inr h')) hb h
theorem built_recq (q l : Int) (c : Cm) : Tryz.prog.built 44 [(0, .int .i64 q), (1, .int .i64 l), (2, .agg c.cells.toArray)] = some (Rc.mk q l c).cells.toArray := by kernel_rfl
theorem built_recsq (r : Rc) : Tryz.prog.builtSlice 44 1 [(0, .agg r.cells.toArray)] = some r.cells.toArray := by kernel_rfl
theorem exec_build {P : Program} {oi : Oper} {ev : Operand -> Value} {w : World} (t : TypeId) (parts : Array (Nat × Operand)) (X : Array Value) (ps : List (Nat × Value)) (ho : oi.op = .build t parts)
  (hp : (parts.map fun (i,x) => (i,ev x)).toList = ps) (hb : P.built t ps = some X) : (execOp ev oi).run P w = .ok (.value (.agg X)) w := by
 unfold execOp; simp only [ho,Sem.run_bind,Sem.run_pure]; rw [show (Instr.build t (parts.map fun (i,x) => (i,ev x))).run P w = .ok (.agg X) w from run_build w t _ X (by rw [hp]; exact hb)]
 rfl
theorem rec_rest {w : World} {base b o cap n : Nat} {us : List Rc} (h : w.ownsRow base 44 19 (.slice (some ⟨b, o, none⟩) n cap) n (recE.row us)) (hn : n = us.length) (k : Nat) (hk : k <= n) : Reads w w.heap.size 19 (some ⟨b, k * 19, none⟩) (n - k) (recE.row (us.drop k)) := by
 have hrow : recE.row us = recE.row (us.take k) ++ recE.row (us.drop k) := by
  unfold Elem.row; rw [<- List.flatMap_append,List.take_append_drop]
 have hl1 : (recE.row (us.take k)).length = k * 19 := by rw [Elem.row_len,List.length_take,Nat.min_eq_left (by omega)]; rfl
 refine ⟨by rw [Elem.row_len,List.length_drop,hn]; rfl,fun h0 => ?_⟩
 obtain ⟨g',cp',hv',_,hlt⟩ := h.form (by omega)
 injection hv' with hv'; injection hv' with hv'; injection hv' with e1 e2; subst e1 e2; refine ⟨_,rfl,hlt,fun j u hu => ?_⟩
 have hw : (recE.row us)[k * 19 + j]? = some u := by
  rw [hrow,List.getElem?_append_right (by rw [hl1]; omega),hl1, <- hu]
  congr 1
  omega
 have := h.cells (g := b) rfl (k * 19 + j) u hw; rw [Addr.add_lit,Nat.zero_add] at this; rw [Addr.add_lit]; exact this
theorem rec_take {w : World} {B n k : Nat} {A : Option Addr} {us : List Rc} (h : Reads w B 19 A n (recE.row us)) (hn : n = us.length) (hk : k <= n) : Reads w B 19 A k (recE.row (us.take k)) := by
 refine ⟨by rw [Elem.row_len,List.length_take,Nat.min_eq_left (by omega)]; rfl,fun h0 => ?_⟩
 obtain ⟨ad,e,hb,hc⟩ := h.2 (by omega)
 refine ⟨ad,e,hb,fun j u hu => hc j u ?_⟩
 have e : recE.row us = recE.row (us.take k) ++ recE.row (us.drop k) := by
  unfold Elem.row; rw [<- List.flatMap_append,List.take_append_drop]
 rw [e,List.getElem?_append_left (List.getElem?_eq_some_iff.1 hu).1]; exact hu
end Go.Proofs.YtaamihdibpioaaaGreat
