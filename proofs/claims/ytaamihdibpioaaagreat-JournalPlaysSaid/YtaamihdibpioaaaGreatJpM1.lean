/- Words on memory that all walks of this claim use: a block known whole; what a call may have changed. Plain lemmas, no program in sight. -/
import Derived.WalkKit
import Derived.WalkSpells
import Derived.WalkLawsBesides
import Derived.Lib.Hide
import Derived.Deep.Draws
import Derived.Laws.Rows
import Derived.Laws.BitsAllLaws
import Derived.Laws.BitsLemmas
set_option maxRecDepth 100000
set_option maxHeartbeats 40000000
namespace Go
theorem gh {p : Prop} (h : p) : RowKit.Hid p := Lib.hid h
theorem gX0 {A : Type _} {l : List A} {i : Nat} : l.toArray[i]? = l[i]? := List.getElem?_toArray
theorem gX1 {A : Type _} {a : A} {l : List A} : (a :: l)[0]? = some a := List.getElem?_cons_zero
theorem gX2 {A : Type _} {a : A} {i : Nat} {l : List A} : (a :: l)[i + 1]? = l[i]? := List.getElem?_cons_succ
theorem gX3 {A : Type _} {l : List A} {i : Nat} {a : A} : l.toArray.setIfInBounds i a = (l.set i a).toArray := List.setIfInBounds_toArray ..
theorem gX4 {A : Type _} {a b : A} {l : List A} : (a :: l).set 0 b = b :: l := List.set_cons_zero
theorem gX5 {A : Type _} {a b : A} {l : List A} {i : Nat} : (a :: l).set (i + 1) b = a :: l.set i b := List.set_cons_succ
theorem RowKit.Hid.o {p : Prop} (h : RowKit.Hid p) : p := h.out
theorem gf {A B C : Sort _} {P : A → B → C → Prop} (a : A) (b : B) (c : C) (h : P a b c) : P a b c := h
theorem gXe {A : Sort _} (a : A) : ∃ x, x = a := ⟨a, rfl⟩
end Go
namespace Go.Proofs.YtaamihdibpioaaaGreat
open Go.RowKit
def Blk (w : World) (g : Nat) (t : TypeId) (cs : Array Value) : Prop := w.heap[g]? = some (.cells cs t (0, 0))
section
variable {w w' : World} {g : Nat} {t : TypeId} {cs : Array Value}
theorem Blk.lt (h : Blk w g t cs) : g < w.heap.size := by
 rcases Nat.lt_or_ge g w.heap.size with hlt | hge
 ·exact hlt
 ·unfold Blk at h; rw [Array.getElem?_eq_none hge] at h; cases h
theorem Blk.cell (h : Blk w g t cs) (i : Nat) : w.cell? ⟨g,i,none⟩ = cs[i]? := cell_of_row w g i cs t (0, 0) h
theorem Blk.frozen (h : Blk w g t cs) (i : Nat) : w.frozen? ⟨g, i, none⟩ = false := by
 unfold Blk at h
 simp [World.frozen?,h]
theorem Blk.new (w : World) (t : TypeId) (cs : Array Value) : Blk (w.alloc (.cells cs t)) w.heap.size t cs := heap_alloc_new w _
theorem Blk.drew (h : Blk w g t cs) : Blk w.drew g t cs := h
theorem Blk.drewN (h : Blk w g t cs) (n : Nat) : Blk (w.drewN n) g t cs := h
theorem Blk.alloc (h : Blk w g t cs) (o : Obj) : Blk (w.alloc o) g t cs := (Below.heap_alloc w o g h.lt).trans h
theorem Blk.set_ (h : Blk w g t cs) (i : Nat) (u : Value) : Blk (w.setCell ⟨g, i, none⟩ u) g t (cs.setIfInBounds i u) := by
 unfold Blk at h ⊢
 simp [World.setCell,Array.getElem?_modify,h]
theorem Blk.far (h : Blk w g t cs) {p : Addr} (hp : g ≠ p.block) (u : Value) : Blk (w.setCell p u) g t cs := (Below.heap_setCell w p u g hp).trans h
theorem Blk.below {B : Nat} (h : Blk w g t cs) (hb : Below B w w') (hg : g < B) : Blk w' g t cs := (hb.block g hg).trans h
theorem Blk.grown {row : Option Nat} (h : Blk w g t cs) (hb : w.grownBy w' row) (hg : some g ≠ row) : Blk w' g t cs := (hb.block g h.lt hg).trans h
theorem Blk.ne_ {g' : Nat} {t' : TypeId} {cs' : Array Value} (h : Blk w g t cs) (h' : Blk w g' t' cs') (hne : t ≠ t') : g ≠ g' := by
 rintro rfl; unfold Blk at h h'; rw [h] at h'; injection h' with h'; injection h' with _ ht; exact hne ht
end
abbrev Only (w w' : World) (g : Nat) : Prop := w.grownBy w' (some g)
section
variable {a w w' : World} {g : Nat}
theorem Only.refl (w : World) (g : Nat) : Only w w g := World.grownBy.refl w _
theorem Only.drewN (h : Only a w g) (n : Nat) : Only a (w.drewN n) g := ⟨h.os,h.tape,h.output,h.size,h.block⟩
theorem Only.drew (h : Only a w g) : Only a w.drew g := ⟨h.os,h.tape,h.output,h.size,h.block⟩
theorem Only.alloc (h : Only a w g) (o : Obj) : Only a (w.alloc o) g :=
 ⟨h.os,h.tape,h.output,Nat.le_trans h.size (by simp),fun i hi hne => (Below.heap_alloc w o i (Nat.lt_of_lt_of_le hi h.size)).trans (h.block i hi hne)⟩
theorem Only.set_ (h : Only a w g) {p : Addr} (hp : p.block = g \/ a.heap.size <= p.block) (u : Value) : Only a (w.setCell p u) g :=
 ⟨h.os, h.tape, h.output, by simpa [World.setCell] using h.size, fun i hi hne => (Below.heap_setCell w p u i (by
  rintro rfl
  rcases hp with hp | hp
  ·exact hne (by rw [hp])
  ·omega)).trans (h.block i hi hne)⟩
theorem Only.of_below (h : Below a.heap.size a w) (g : Nat) : Only a w g := ⟨h.os,h.tape,h.output,h.size,fun i hi _ => h.block i hi⟩
theorem Only.trans {b c : World} (h : Only a b g) (k : Only b c g) : Only a c g :=
 ⟨k.os.trans h.os,k.tape.trans h.tape,k.output.trans h.output,Nat.le_trans h.size k.size,fun i hi hne => (k.block i (Nat.lt_of_lt_of_le hi h.size) hne).trans (h.block i hi hne)⟩
theorem Only.below {B : Nat} (h : Only a w g) (hB : B <= g) (hs : B <= a.heap.size) : Below B a w := ⟨h.os,h.tape,h.output,h.size,fun i hi => h.block i (by omega) (by simp; omega)⟩
theorem Below.only {B : Nat} {c : World} (h : Below B a w) (k : Only w c g) (hB : B <= g) (hs : B <= w.heap.size) : Below B a c := h.trans (k.below hB hs)
end
theorem below_drewN {B : Nat} {a w : World} (h : Below B a w) (n : Nat) : Below B a (w.drewN n) := ⟨h.os,h.tape,h.output,h.size,h.block⟩
theorem cells_new (w : World) (l : List Value) (t : TypeId) : ∀ j u, l[j]? = some u -> (w.alloc (.cells l.toArray t)).cell? ((⟨w.heap.size, 0, none⟩ : Addr).add j) = some u := by
 intro j u h; rw [Addr.add_lit, (Blk.new w t l.toArray).cell]
 simpa using h
theorem own_ge {w : World} {base n size k : Nat} {e : TypeId} {v : Value} {xs : List Value} (h : w.ownsRow base e size v n xs) (hk : v.ownBlock = some k) : base <= k := by
 rcases h.2 with ⟨rfl,_⟩ | ⟨g,cap,cur,rfl,hb,_⟩
 ·simp [Value.ownBlock] at hk
 ·simp [Value.ownBlock] at hk; omega
theorem Below.own {B : Nat} {a w w' : World} {n size : Nat} {e : TypeId} {v : Value} {xs : List Value} (h : Below B a w) (ho : w.ownsRow B e size v n xs) (hg : w.grownBy w' v.ownBlock) (hB : B <= w.heap.size) : Below B a w' :=
 h.grown hg hB (fun _ hk => own_ge ho hk)
theorem quiet_left {P : Program} {f : FuncId} {args : Array Value} {w : World} {n : Nat} {v : Value}
  (h : Calls P f args (w.drewN n) fun e w' => e = .returned v /\ w.drewN n = w') : Calls P f args (w.drewN n) fun e w'' => e = .returned v /\ ∃ m,w'' = w.drewN m :=
 h.mono fun _ _ ⟨he,hm⟩ => ⟨he,n,hm.symm⟩
theorem ofInt_i64 (a : Nat) (ha : a < 9223372036854775808) : (BitVec.ofInt 64 (a : Int)).toNat = a := by
 rw [BitVec.ofInt_natCast,BitVec.toNat_ofNat]; exact Nat.mod_eq_of_lt (by omega)
theorem i64_or_nat (a b : Nat) (ha : a < 9223372036854775808) (hb : b < 9223372036854775808) : bits .or .i64 (a : Int) (b : Int) = ((a ||| b : Nat) : Int) := by
 have hx : a ||| b < 2 ^ 63 := Nat.or_lt_two_pow (by omega) (by omega)
 show IntKind.i64.wrap ((BitVec.ofInt 64 (a : Int) ||| BitVec.ofInt 64 (b : Int)).toNat : Int) = _
 rw [BitVec.toNat_or,ofInt_i64 a ha,ofInt_i64 b hb,IntKind.wrap_i64]
 omega
theorem i64_xor_nat (a b : Nat) (ha : a < 9223372036854775808) (hb : b < 9223372036854775808) : bits .xor .i64 (a : Int) (b : Int) = ((a ^^^ b : Nat) : Int) := by
 have hx : a ^^^ b < 2 ^ 63 := Nat.xor_lt_two_pow (by omega) (by omega)
 show IntKind.i64.wrap ((BitVec.ofInt 64 (a : Int) ^^^ BitVec.ofInt 64 (b : Int)).toNat : Int) = _
 rw [BitVec.toNat_xor,ofInt_i64 a ha,ofInt_i64 b hb,IntKind.wrap_i64]
 omega
end Go.Proofs.YtaamihdibpioaaaGreat
namespace Go.Proofs.YtaamihdibpioaaaGreat
open Go.RowKit
theorem lapp_cons {A : Type} (a : A) (l m : List A) : List.append (a :: l) m = a :: List.append l m := rfl
theorem lapp_nil {A : Type} (m : List A) : List.append [] m = m := rfl
inductive Sl where
 | no
 | odd (a : Addr)
 | at_ (b o cap : Nat)
def Sl.val : Sl -> Nat -> Value
 | .no,_ => .slice none 0 0
 | .odd a,_ => .slice (some a) 0 0
 | .at_ b o cap,n => .slice (some ⟨b,o,none⟩) n cap
def Sl.lies (w : World) (a : Sl) (c n : Nat) (row : Nat -> List Value) : Prop :=
 match a with
 | .no => n = 0
 | .odd _ => n = 0
 | .at_ b o cap => n <= cap /\ cap <= 9223372036854775807 /\ ∀ i,i < n -> ∀ j,j < c -> w.cell? ⟨b,o + (i * c + j),none⟩ = (row i)[j]? /\ b < w.heap.size
inductive Val where
 | mk (k n : Int) (f : Nat) (s : ByteArray) (na : Sl) (ns : List ByteArray) (xa : Sl) (xs : List Val)
namespace Val
def k : Val -> Int | .mk k _ _ _ _ _ _ _ => k
def n : Val -> Int | .mk _ n _ _ _ _ _ _ => n
def f : Val -> Nat | .mk _ _ f _ _ _ _ _ => f
def s : Val -> ByteArray | .mk _ _ _ s _ _ _ _ => s
def na : Val -> Sl | .mk _ _ _ _ na _ _ _ => na
def ns : Val -> List ByteArray | .mk _ _ _ _ _ ns _ _ => ns
def xa : Val -> Sl | .mk _ _ _ _ _ _ xa _ => xa
def xs : Val -> List Val | .mk _ _ _ _ _ _ _ xs => xs
def cells (v : Val) : List Value := [.int .i64 v.k, .int .i64 v.n, .float .f64 v.f, .string v.s,v.na.val v.ns.length,v.xa.val v.xs.length]
end Val
def i64r (k : Int) : Prop := -9223372036854775808 <= k /\ k <= 9223372036854775807
def strok (s : ByteArray) : Prop := s.size <= 140737488355328
mutual
def Val.In (w : World) : Val -> Prop
 | .mk k n f s na ns xa xs => (i64r k /\ i64r n /\ f < 18446744073709551616 /\ strok s /\ ns.length <= 8796093021952 /\ xs.length <= 1599289640354 /\ ∀ s, s ∈ ns -> strok s) /\
  na.lies w 1 ns.length (fun i => [.string (ns.getD i ByteArray.empty)]) /\ xa.lies w 6 xs.length (fun i => Val.cells (xs.getD i (.mk 0 0 0 ByteArray.empty .no [] .no []))) /\ Val.InAll w xs
def Val.InAll (w : World) : List Val -> Prop
 | [] => True
 | x :: xs => x.In w /\ Val.InAll w xs
end
abbrev Val.zero : Val := .mk 0 0 0 ByteArray.empty .no [] .no []
theorem Val.inAll_iff (w : World) : ∀ xs : List Val, Val.InAll w xs ↔ ∀ x, x ∈ xs -> x.In w
 | [] => by simp [Val.InAll]
 | x :: xs => by simp [Val.InAll,Val.inAll_iff w xs]
theorem Val.in_iff (w : World) (v : Val) : v.In w ↔ (i64r v.k /\ i64r v.n /\ v.f < 18446744073709551616 /\ strok v.s /\ v.ns.length <= 8796093021952 /\ v.xs.length <= 1599289640354 /\ ∀ s, s ∈ v.ns -> strok s) /\
  v.na.lies w 1 v.ns.length (fun i => [.string (v.ns.getD i ByteArray.empty)]) /\ v.xa.lies w 6 v.xs.length (fun i => (v.xs.getD i Val.zero).cells) /\ ∀ x,x ∈ v.xs -> x.In w := by
 cases v
 simp only [Val.In,Val.inAll_iff,Val.k,Val.n,Val.f,Val.s,Val.na,Val.ns,Val.xa,Val.xs]
mutual
def Val.sz : Val -> Nat
 | .mk _ _ _ _ _ _ _ xs => 1 + Val.szAll xs
def Val.szAll : List Val -> Nat
 | [] => 0
 | x :: xs => x.sz + Val.szAll xs
end
theorem Val.sz_eq (v : Val) : v.sz = 1 + Val.szAll v.xs := by cases v; simp [Val.sz,Val.xs]
theorem Val.szAll_mem {x : Val} : ∀ {xs : List Val}, x ∈ xs -> x.sz <= Val.szAll xs
 | [],h => by simp at h
 | y :: xs, h => by
  simp only [Val.szAll]
  rcases List.mem_cons.1 h with rfl | h
  ·omega
  ·have := Val.szAll_mem h; omega
theorem Val.size_mem {x v : Val} (h : x ∈ v.xs) : x.sz < v.sz := by
 have := Val.szAll_mem h; rw [Val.sz_eq v]; omega
theorem Sl.lies.carry {w w' : World} {a : Sl} {c n : Nat} {row : Nat -> List Value} (h : a.lies w c n row) (hb : ∀ b o, b < w.heap.size -> w'.cell? ⟨b, o, none⟩ = w.cell? ⟨b, o, none⟩) (hz : w.heap.size <= w'.heap.size) : a.lies w' c n row := by
 cases a with
 | no => exact h
 | odd a => exact h
 | at_ b o cap => exact ⟨h.1, h.2.1, fun i hi j hj => by
   obtain ⟨h1,h2⟩ := h.2.2 i hi j hj; exact ⟨(hb b _ h2).trans h1,by omega⟩⟩
theorem Val.in_carry {w w' : World} (hb : ∀ b o, b < w.heap.size -> w'.cell? ⟨b, o, none⟩ = w.cell? ⟨b, o, none⟩) (hz : w.heap.size <= w'.heap.size) : ∀ (d : Nat) (v : Val), v.sz <= d -> v.In w -> v.In w'
 | 0,v,hd,_ => by rw [Val.sz_eq] at hd; omega
 | d + 1, v, hd, h => by
  rw [Val.in_iff] at h ⊢; exact ⟨h.1,Sl.lies.carry h.2.1 hb hz,Sl.lies.carry h.2.2.1 hb hz,fun x hx => Val.in_carry hb hz d x (by have := Val.size_mem hx; omega) (h.2.2.2 x hx)⟩
theorem Val.In.below {w w' : World} {v : Val} (h : v.In w) (hb : Below w.heap.size w w') : v.In w' :=
 Val.in_carry (fun b o hlt => hb.cell (p := ⟨b,o,none⟩) hlt) hb.size _ v (Nat.le_refl _) h
theorem Val.In.drewN {w : World} {v : Val} (h : v.In w) (n : Nat) : v.In (w.drewN n) := Val.in_carry (w := w) (w' := w.drewN n) (fun _ _ _ => rfl) (Nat.le_refl _) _ v (Nat.le_refl _) h
def PVal (w : World) (b o : Nat) (v : Val) : Prop := (∀ j,j < 6 -> w.cell? ⟨b,o + j,none⟩ = v.cells[j]?) /\ b < w.heap.size /\ v.In w
section
variable {w w' : World} {b o : Nat} {v : Val}
theorem PVal.c0 (h : PVal w b o v) : w.cell? ⟨b,o,none⟩ = some (.int .i64 v.k) := h.1 0 (by omega)
theorem PVal.c1 (h : PVal w b o v) : w.cell? ⟨b,o + 1,none⟩ = some (.int .i64 v.n) := h.1 1 (by omega)
theorem PVal.c2 (h : PVal w b o v) : w.cell? ⟨b,o + 2,none⟩ = some (.float .f64 v.f) := h.1 2 (by omega)
theorem PVal.c3 (h : PVal w b o v) : w.cell? ⟨b,o + 3,none⟩ = some (.string v.s) := h.1 3 (by omega)
theorem PVal.c4 (h : PVal w b o v) : w.cell? ⟨b,o + 4,none⟩ = some (v.na.val v.ns.length) := h.1 4 (by omega)
theorem PVal.c5 (h : PVal w b o v) : w.cell? ⟨b,o + 5,none⟩ = some (v.xa.val v.xs.length) := h.1 5 (by omega)
theorem PVal.below (h : PVal w b o v) (hb : Below w.heap.size w w') : PVal w' b o v :=
 ⟨fun j hj => (hb.cell (p := ⟨b,o + j,none⟩) h.2.1).trans (h.1 j hj),Nat.lt_of_lt_of_le h.2.1 hb.size,h.2.2.below hb⟩
theorem PVal.drewN (h : PVal w b o v) (n : Nat) : PVal (w.drewN n) b o v := ⟨h.1,h.2.1,h.2.2.drewN n⟩
theorem PVal.new (w : World) (v : Val) (t : TypeId) (h : v.In w) : PVal (w.alloc (.cells v.cells.toArray t)) w.heap.size 0 v := by
 refine ⟨fun j hj => ?_,by simp,h.below ((Below.refl _ w).alloc (Nat.le_refl _) _)⟩
 rw [(Blk.new w t _).cell]
 simp
theorem PVal.in (h : PVal w b o v) : v.In w := h.2.2
theorem Val.In.ok (h : v.In w) : i64r v.k /\ i64r v.n /\ v.f < 18446744073709551616 /\ strok v.s /\ v.ns.length <= 8796093021952 /\ v.xs.length <= 1599289640354 /\ ∀ s,s ∈ v.ns -> strok s := ((Val.in_iff w v).1 h).1
theorem Val.In.nslice (h : v.In w) : ∃ p c, v.na.val v.ns.length = .slice p v.ns.length c := by
 have hx := ((Val.in_iff w v).1 h).2.1
 cases ha : v.na with
 | no =>
  rw [ha] at hx; have : v.ns.length = 0 := by simpa [Sl.lies] using hx
  exact ⟨none, 0,by simp [Sl.val,this]⟩
 | odd a =>
  rw [ha] at hx; have : v.ns.length = 0 := by simpa [Sl.lies] using hx
  exact ⟨some a, 0,by simp [Sl.val,this]⟩
 | at_ b o cap => exact ⟨_,_,rfl⟩
theorem Val.In.xslice (h : v.In w) : ∃ p c, v.xa.val v.xs.length = .slice p v.xs.length c := by
 have hx := ((Val.in_iff w v).1 h).2.2.1
 cases ha : v.xa with
 | no =>
  rw [ha] at hx; have : v.xs.length = 0 := by simpa [Sl.lies] using hx
  exact ⟨none, 0,by simp [Sl.val,this]⟩
 | odd a =>
  rw [ha] at hx; have : v.xs.length = 0 := by simpa [Sl.lies] using hx
  exact ⟨some a, 0,by simp [Sl.val,this]⟩
 | at_ b o cap => exact ⟨_,_,rfl⟩
inductive Items (w : World) (v : Val) : Prop where
 | none (p : Option Addr) (h1 : v.xa.val v.xs.length = .slice p 0 0) (h2 : v.xs = [])
 | some (b o cap : Nat) (h1 : v.xa.val v.xs.length = .slice (some ⟨b,o,Option.none⟩) v.xs.length cap) (h2 : v.xs.length <= cap) (h3 : cap <= 9223372036854775807) (h4 : ∀ i (h : i < v.xs.length),PVal w b (o + i * 6) v.xs[i])
theorem Val.In.items (h : v.In w) : Items w v := by
 rw [Val.in_iff] at h; obtain ⟨_,_,hx,hi⟩ := h
 cases ha : v.xa with
 | no =>
  rw [ha] at hx; exact .none Option.none (by simp [Sl.val,ha]) (by simpa [Sl.lies] using hx)
 | odd a =>
  rw [ha] at hx; exact .none (Option.some a) (by simp [Sl.val,ha]) (by simpa [Sl.lies] using hx)
 | at_ b o cap =>
  rw [ha] at hx; refine .some b o cap (by simp [Sl.val,ha]) hx.1 hx.2.1 (fun i hl => ⟨fun j hj => ?_,?_,hi _ (by simp)⟩)
  ·have := (hx.2.2 i hl j hj).1
   rw [<- Nat.add_assoc] at this; rw [this]
   simp [hl]
  ·exact (hx.2.2 i hl 0 (by omega)).2
inductive Names (w : World) (v : Val) : Prop where
 | none (p : Option Addr) (h1 : v.na.val v.ns.length = .slice p 0 0) (h2 : v.ns = [])
 | some (b o cap : Nat) (h1 : v.na.val v.ns.length = .slice (some ⟨b,o,Option.none⟩) v.ns.length cap) (h2 : v.ns.length <= cap) (h3 : cap <= 9223372036854775807) (h4 : ∀ i (h : i < v.ns.length),w.cell? ⟨b,o + i,Option.none⟩ = Option.some (.string v.ns[i]))
theorem Val.In.names (h : v.In w) : Names w v := by
 rw [Val.in_iff] at h; obtain ⟨_,hx,_,hi⟩ := h
 cases ha : v.na with
 | no =>
  rw [ha] at hx; exact .none Option.none (by simp [Sl.val,ha]) (by simpa [Sl.lies] using hx)
 | odd a =>
  rw [ha] at hx; exact .none (Option.some a) (by simp [Sl.val,ha]) (by simpa [Sl.lies] using hx)
 | at_ b o cap =>
  rw [ha] at hx; refine .some b o cap (by simp [Sl.val,ha]) hx.1 hx.2.1 (fun i hl => ?_)
  have := (hx.2.2 i hl 0 (by omega)).1
  simp at this
  rw [this]
  simp [hl]
end
end Go.Proofs.YtaamihdibpioaaaGreat
namespace Go.Proofs.YtaamihdibpioaaaGreat
def rungv (r : Nat) : Nat := if r < 4503599627370496 then r else (4503599627370496 + r % 4503599627370496) * 2 ^ (r / 4503599627370496 - 1)
theorem rungv_succ (r : Nat) : rungv r < rungv (r + 1) := by
 unfold rungv
 by_cases h1 : r + 1 < 4503599627370496
 ·rw [if_pos (by omega),if_pos h1]; omega
 ·rw [if_neg h1]
  by_cases h2 : r < 4503599627370496
  ·have e : r = 4503599627370495 := by omega
   subst e; rw [if_pos (by omega)]
   decide
  ·rw [if_neg h2]
   by_cases h3 : r % 4503599627370496 = 4503599627370495
   ·have e1 : (r + 1) % 4503599627370496 = 0 := by omega
    have e2 : (r + 1) / 4503599627370496 - 1 = (r / 4503599627370496 - 1) + 1 := by omega
    rw [h3,e1,e2,Nat.pow_succ]; have hp : 0 < 2 ^ (r / 4503599627370496 - 1) := Nat.two_pow_pos _
    generalize 2 ^ (r / 4503599627370496 - 1) = P at hp ⊢
    omega
   ·have e1 : (r + 1) % 4503599627370496 = r % 4503599627370496 + 1 := by omega
    have e2 : (r + 1) / 4503599627370496 = r / 4503599627370496 := by omega
    rw [e1,e2]; exact Nat.mul_lt_mul_of_pos_right (by omega) (Nat.two_pow_pos _)
theorem rungv_lt {a b : Nat} (h : a < b) : rungv a < rungv b := by
 induction b with
 | zero => omega
 | succ b ih =>
  by_cases e : a = b
  ·subst e; exact rungv_succ a
  ·exact Nat.lt_trans (ih (by omega)) (rungv_succ b)
theorem rungv_inj {a b : Nat} (h : rungv a = rungv b) : a = b := by
 rcases Nat.lt_trichotomy a b with h' | h' | h'
 ·have := rungv_lt h'; omega
 ·exact h'
 ·have := rungv_lt h'; omega
def fnan (x : Nat) : Bool := decide (9218868437227405312 < x % 9223372036854775808)
def fneg (x : Nat) : Bool := x / 9223372036854775808 % 2 == 1
def fsv (x : Nat) : Int := if fneg x then -(rungv (x % 9223372036854775808) : Int) else (rungv (x % 9223372036854775808) : Int)
theorem signed_eq (s : Bool) (m a c : Nat) (h : c <= a) : Ieee.signed s m (a - c) * (2 ^ c : Nat) = Ieee.signed s m a := by
 unfold Ieee.signed
 have e : (m <<< (a - c)) * 2 ^ c = m <<< a := by
  rw [Nat.shiftLeft_eq,Nat.shiftLeft_eq,Nat.mul_assoc, <- Nat.pow_add,Nat.sub_add_cancel h]
 cases s
 ·simp only [Bool.false_eq_true, if_false]
  rw [<- e]; simp
 ·simp only [if_true]
  rw [<- e,Int.neg_mul,Int.natCast_mul]
theorem compare_scale (x y : Int) (P : Nat) (hP : 0 < P) : compare x y = compare (x * (P : Int)) (y * (P : Int)) := by
 have hp : (0 : Int) < (P : Int) := by omega
 rcases Int.lt_trichotomy x y with h | h | h
 ·rw [Int.compare_eq_lt.2 h,Int.compare_eq_lt.2 (Int.mul_lt_mul_of_pos_right h hp)]
 ·subst h; simp
 ·rw [Int.compare_eq_gt.2 h,Int.compare_eq_gt.2 (Int.mul_lt_mul_of_pos_right h hp)]
theorem number_order (s t : Bool) (m n a b : Nat) : Ieee.Datum.order (.number s m (-1074 + (a : Int))) (.number t n (-1074 + (b : Int))) = some (compare (Ieee.signed s m a) (Ieee.signed t n b)) := by
 have e : min (-1074 + (a : Int)) (-1074 + (b : Int)) = -1074 + ((min a b : Nat) : Int) := by omega
 simp only [Ieee.Datum.order,e]
 rw [show ((-1074 + (a : Int)) - (-1074 + ((min a b : Nat) : Int))).toNat = a - min a b from by omega,
  show ((-1074 + (b : Int)) - (-1074 + ((min a b : Nat) : Int))).toNat = b - min a b from by omega]
 rw [compare_scale _ _ (2 ^ min a b) (Nat.two_pow_pos _),signed_eq _ _ _ _ (by omega),signed_eq _ _ _ _ (by omega)]
theorem read_nan {x : Nat} (h : fnan x = true) : ∃ s q, Ieee.double.read x = .nan s q := by
 unfold fnan at h; have h' : 9218868437227405312 < x % 9223372036854775808 := by simpa using h
 refine ⟨x / 9223372036854775808 % 2 == 1,x % 9223372036854775808 - 9218868437227405312,?_⟩; unfold Ieee.Format.read; have e1 : Ieee.double.signWeight = 9223372036854775808 := by decide
 have e2 : Ieee.double.binade = 4503599627370496 := by decide
 have e3 : Ieee.double.infRung = 9218868437227405312 := by decide
 simp only [e1,e2,e3]; rw [if_neg (by omega),if_neg (by omega),if_neg (by omega)]
theorem read_inf {x : Nat} (h : x % 9223372036854775808 = 9218868437227405312) : Ieee.double.read x = .infinity (fneg x) := by
 unfold Ieee.Format.read; have e1 : Ieee.double.signWeight = 9223372036854775808 := by decide
 have e2 : Ieee.double.binade = 4503599627370496 := by decide
 have e3 : Ieee.double.infRung = 9218868437227405312 := by decide
 simp only [e1,e2,e3]; rw [if_neg (by omega),if_neg (by omega),if_pos (by omega)]
 rfl
theorem read_fin {x : Nat} (h : x % 9223372036854775808 < 9218868437227405312) : ∃ m a, Ieee.double.read x = .number (fneg x) m (-1074 + ((a : Nat) : Int)) /\ m <<< a = rungv (x % 9223372036854775808) := by
 unfold Ieee.Format.read; have e1 : Ieee.double.signWeight = 9223372036854775808 := by decide
 have e2 : Ieee.double.binade = 4503599627370496 := by decide
 have e3 : Ieee.double.infRung = 9218868437227405312 := by decide
 have e4 : Ieee.double.leastPlace = -1074 := by decide
 simp only [e1,e2,e3,e4]; unfold rungv
 by_cases h1 : x % 9223372036854775808 < 4503599627370496
 ·rw [if_pos h1, if_pos h1]
  exact ⟨x % 9223372036854775808, 0,rfl,by simp⟩
 ·rw [if_neg h1, if_pos h, if_neg h1]
  exact ⟨_,_,rfl,by rw [Nat.shiftLeft_eq]⟩
theorem fsv_signed (x m a : Nat) (h : m <<< a = rungv (x % 9223372036854775808)) : Ieee.signed (fneg x) m a = fsv x := by
 unfold Ieee.signed fsv; rw [h]
theorem order_none {x y : Nat} (h : fnan x = true \/ fnan y = true) : Ieee.double.order x y = none := by
 unfold Ieee.Format.order
 rcases h with h | h
 ·obtain ⟨s, q, e⟩ := read_nan h
  rw [e]
  simp [Ieee.Datum.order]
 ·obtain ⟨s, q, e⟩ := read_nan h
  rw [e]
  cases Ieee.double.read x <;> simp [Ieee.Datum.order]
theorem order_some {x y : Nat} (hx : fnan x = false) (hy : fnan y = false) : Ieee.double.order x y = some (compare (fsv x) (fsv y)) := by
 unfold fnan at hx hy; have hx' : x % 9223372036854775808 <= 9218868437227405312 := by simpa using hx
 have hy' : y % 9223372036854775808 <= 9218868437227405312 := by simpa using hy
 unfold Ieee.Format.order
 by_cases h1 : x % 9223372036854775808 = 9218868437227405312
 ·rw [read_inf h1]
  by_cases h2 : y % 9223372036854775808 = 9218868437227405312
  ·rw [read_inf h2]
   simp only [Ieee.Datum.order,fsv,h1,h2]; have hp : 0 < rungv 9218868437227405312 := by have := rungv_lt (a := 0) (b := 9218868437227405312) (by omega); omega
   generalize rungv 9218868437227405312 = R at hp ⊢
   cases fneg x <;> cases fneg y <;> simp
   ·exact (Int.compare_eq_gt.2 (by omega)).symm
   ·exact (Int.compare_eq_lt.2 (by omega)).symm
  ·obtain ⟨m, a, e, hm⟩ := read_fin (x := y) (by omega)
   rw [e]; simp only [Ieee.Datum.order,fsv,h1]; have hlt := rungv_lt (a := y % 9223372036854775808) (b := 9218868437227405312) (by omega)
   generalize rungv 9218868437227405312 = R at hlt ⊢
   generalize rungv (y % 9223372036854775808) = Q at hlt ⊢
   cases fneg x <;> cases fneg y <;> simp
   ·exact (Int.compare_eq_gt.2 (by omega)).symm
   ·exact (Int.compare_eq_gt.2 (by omega)).symm
   ·exact (Int.compare_eq_lt.2 (by omega)).symm
   ·exact (Int.compare_eq_lt.2 (by omega)).symm
 ·obtain ⟨m, a, e, hm⟩ := read_fin (x := x) (by omega)
  rw [e]
  by_cases h2 : y % 9223372036854775808 = 9218868437227405312
  ·rw [read_inf h2]
   simp only [Ieee.Datum.order,fsv,h2]; have hlt := rungv_lt (a := x % 9223372036854775808) (b := 9218868437227405312) (by omega)
   generalize rungv 9218868437227405312 = R at hlt ⊢
   generalize rungv (x % 9223372036854775808) = Q at hlt ⊢
   cases fneg x <;> cases fneg y <;> simp
   ·exact (Int.compare_eq_lt.2 (by omega)).symm
   ·exact (Int.compare_eq_gt.2 (by omega)).symm
   ·exact (Int.compare_eq_lt.2 (by omega)).symm
   ·exact (Int.compare_eq_gt.2 (by omega)).symm
  ·obtain ⟨m', a', e', hm'⟩ := read_fin (x := y) (by omega)
   rw [e',number_order,fsv_signed _ _ _ hm,fsv_signed _ _ _ hm']
end Go.Proofs.YtaamihdibpioaaaGreat
namespace Go.Proofs.YtaamihdibpioaaaGreat
open Go.RowKit
def Sl.sep (S : Nat -> Prop) (n : Nat) : Sl -> Prop
 | .no => True
 | .odd _ => True
 | .at_ b _ _ => n = 0 \/ S b
mutual
def Val.Sep (S : Nat -> Prop) : Val -> Prop
 | .mk _ _ _ _ na ns xa xs => na.sep S ns.length /\ xa.sep S xs.length /\ Val.SepAll S xs
def Val.SepAll (S : Nat -> Prop) : List Val -> Prop
 | [] => True
 | x :: xs => x.Sep S /\ Val.SepAll S xs
end
theorem Val.sepAll_iff (S : Nat -> Prop) : ∀ xs : List Val, Val.SepAll S xs ↔ ∀ x, x ∈ xs -> x.Sep S
 | [] => by simp [Val.SepAll]
 | x :: xs => by simp [Val.SepAll,Val.sepAll_iff S xs]
theorem Val.sep_iff (S : Nat -> Prop) (v : Val) : v.Sep S ↔ v.na.sep S v.ns.length /\ v.xa.sep S v.xs.length /\ ∀ x, x ∈ v.xs -> x.Sep S := by
 cases v
 simp only [Val.Sep,Val.sepAll_iff,Val.na,Val.ns,Val.xa,Val.xs]
theorem Sl.sep.mono {S T : Nat -> Prop} {n : Nat} {a : Sl} (h : a.sep S n) (hst : ∀ b, S b -> T b) : a.sep T n := by
 cases a with
 | no => trivial
 | odd a => trivial
 | at_ b o c => rcases h with h | h; exact .inl h; exact .inr (hst b h)
theorem Val.sep_mono {S T : Nat -> Prop} (hst : ∀ b, S b -> T b) : ∀ (d : Nat) (v : Val), v.sz <= d -> v.Sep S -> v.Sep T
 | 0,v,hd,_ => by rw [Val.sz_eq] at hd; omega
 | d + 1, v, hd, h => by
  rw [Val.sep_iff] at h ⊢; exact ⟨h.1.mono hst,h.2.1.mono hst,fun x hx => Val.sep_mono hst d x (by have := Val.size_mem hx; omega) (h.2.2 x hx)⟩
theorem Val.Sep.mono {S T : Nat -> Prop} {v : Val} (h : v.Sep S) (hst : ∀ b,S b -> T b) : v.Sep T := Val.sep_mono hst v.sz v (Nat.le_refl _) h
theorem Sl.sep.and {S T : Nat -> Prop} {n : Nat} {a : Sl} (h : a.sep S n) (k : a.sep T n) : a.sep (fun b => S b /\ T b) n := by
 cases a with
 | no => trivial
 | odd a => trivial
 | at_ b o c => rcases h with h | h; exact .inl h; rcases k with k | k; exact .inl k; exact .inr ⟨h,k⟩
theorem Val.sep_and {S T : Nat -> Prop} : ∀ (d : Nat) (v : Val), v.sz <= d -> v.Sep S -> v.Sep T -> v.Sep (fun b => S b /\ T b)
 | 0,v,hd,_,_ => by rw [Val.sz_eq] at hd; omega
 | d + 1, v, hd, h, k => by
  rw [Val.sep_iff] at h k ⊢; exact ⟨h.1.and k.1,h.2.1.and k.2.1,fun x hx => Val.sep_and d x (by have := Val.size_mem hx; omega) (h.2.2 x hx) (k.2.2 x hx)⟩
theorem Val.Sep.and {S T : Nat -> Prop} {v : Val} (h : v.Sep S) (k : v.Sep T) : v.Sep (fun b => S b /\ T b) := Val.sep_and v.sz v (Nat.le_refl _) h k
theorem Sl.lies.sep {w : World} {a : Sl} {c n : Nat} {row : Nat -> List Value} (h : a.lies w c n row) (hc : 0 < c) : a.sep (fun b => b < w.heap.size) n := by
 cases a with
 | no => trivial
 | odd a => trivial
 | at_ b o cap =>
  rcases Nat.eq_zero_or_pos n with h0 | h0
  ·exact .inl h0
  ·exact .inr (h.2.2 0 h0 0 hc).2
theorem Val.in_sep {w : World} : ∀ (d : Nat) (v : Val), v.sz <= d -> v.In w -> v.Sep (fun b => b < w.heap.size)
 | 0,v,hd,_ => by rw [Val.sz_eq] at hd; omega
 | d + 1, v, hd, h => by
  rw [Val.in_iff] at h; rw [Val.sep_iff]; exact ⟨h.2.1.sep (by omega),h.2.2.1.sep (by omega),fun x hx => Val.in_sep d x (by have := Val.size_mem hx; omega) (h.2.2.2 x hx)⟩
theorem Val.In.sep {w : World} {v : Val} (h : v.In w) : v.Sep (fun b => b < w.heap.size) := Val.in_sep v.sz v (Nat.le_refl _) h
theorem Sl.lies.carryS {S : Nat -> Prop} {w w' : World} {a : Sl} {c n : Nat} {row : Nat -> List Value} (h : a.lies w c n row) (hs : a.sep S n)
  (hb : ∀ b o,S b -> b < w.heap.size -> w'.cell? ⟨b,o,none⟩ = w.cell? ⟨b,o,none⟩) (hz : w.heap.size <= w'.heap.size) : a.lies w' c n row := by
 cases a with
 | no => exact h
 | odd a => exact h
 | at_ b o cap => exact ⟨h.1, h.2.1, fun i hi j hj => by
   obtain ⟨h1,h2⟩ := h.2.2 i hi j hj; have hsb : S b := by rcases hs with h' | h'; omega; exact h'
   exact ⟨(hb b _ hsb h2).trans h1,by omega⟩⟩
theorem Val.in_carryS {S : Nat -> Prop} {w w' : World} (hb : ∀ b o, S b -> b < w.heap.size -> w'.cell? ⟨b, o, none⟩ = w.cell? ⟨b, o, none⟩) (hz : w.heap.size <= w'.heap.size) :
  ∀ (d : Nat) (v : Val),v.sz <= d -> v.In w -> v.Sep S -> v.In w'
 | 0,v,hd,_,_ => by rw [Val.sz_eq] at hd; omega
 | d + 1, v, hd, h, hs => by
  rw [Val.in_iff] at h ⊢; rw [Val.sep_iff] at hs; exact ⟨h.1,h.2.1.carryS hs.1 hb hz,h.2.2.1.carryS hs.2.1 hb hz,fun x hx => Val.in_carryS hb hz d x (by have := Val.size_mem hx; omega) (h.2.2.2 x hx) (hs.2.2 x hx)⟩
theorem Val.In.carryS {S : Nat -> Prop} {w w' : World} {v : Val} (h : v.In w) (hs : v.Sep S) (hb : ∀ b o, S b -> b < w.heap.size -> w'.cell? ⟨b, o, none⟩ = w.cell? ⟨b, o, none⟩) (hz : w.heap.size <= w'.heap.size) : v.In w' :=
 Val.in_carryS hb hz v.sz v (Nat.le_refl _) h hs
mutual
def Val.erase : Val -> Val
 | .mk k n f s _ ns _ xs => .mk k n f s .no ns .no (Val.eraseAll xs)
def Val.eraseAll : List Val -> List Val
 | [] => []
 | x :: xs => x.erase :: Val.eraseAll xs
end
theorem Val.eraseAll_map : ∀ xs : List Val, Val.eraseAll xs = xs.map Val.erase
 | [] => rfl
 | x :: xs => by simp [Val.eraseAll,Val.eraseAll_map xs]
theorem Val.erase_eq (v : Val) : v.erase = .mk v.k v.n v.f v.s .no v.ns .no (v.xs.map Val.erase) := by
 cases v
 simp only [Val.erase,Val.eraseAll_map,Val.k,Val.n,Val.f,Val.s,Val.ns,Val.xs]
def rowCells (us : List Val) : List Value := us.flatMap Val.cells
theorem cells_length (v : Val) : v.cells.length = 6 := rfl
theorem rowCells_get : ∀ (us : List Val) (i j : Nat) (hi : i < us.length), j < 6 -> (rowCells us)[i * 6 + j]? = (us[i]'hi).cells[j]?
 | u :: us, 0, j, _, hj => by
  simp only [rowCells,List.flatMap_cons,Nat.zero_mul,Nat.zero_add]; rw [List.getElem?_append_left (by rw [cells_length]; exact hj)]
  rfl
 | u :: us, i + 1, j, hi, hj => by
  simp only [rowCells,List.flatMap_cons]; rw [List.getElem?_append_right (by rw [cells_length]; omega)]
  have := rowCells_get us i j (by simpa using hi) hj
  rw [cells_length,show (i + 1) * 6 + j - 6 = i * 6 + j from by omega]
  simpa [rowCells] using this
theorem cells_oneCell (v : Val) : ∀ u ∈ v.cells, u.oneCell' = true := by
 intro u hu; simp only [Val.cells,List.mem_cons,List.not_mem_nil,or_false] at hu
 rcases hu with rfl | rfl | rfl | rfl | rfl | rfl
 ·rfl
 ·rfl
 ·rfl
 ·rfl
 ·cases v.na <;> rfl
 ·cases v.xa <;> rfl
theorem rowLies_of_own {w : World} {base : Nat} {e : TypeId} {v : Value} {us : List Val} (h : w.ownsRow base e 6 v us.length (rowCells us)) :
  ∃ s : Sl,v = s.val us.length /\ s.lies w 6 us.length (fun i => (us.getD i Val.zero).cells) /\ s.sep (fun b => base <= b) us.length := by
 rcases h.2 with ⟨rfl,h0⟩ | ⟨g,cap,cur,rfl,hb,hg,hnc,hcm,hcs,htake⟩
 ·exact ⟨.no,by simp [Sl.val],h0,trivial⟩
 ·refine ⟨.at_ g 0 cap, rfl, ⟨hnc, by unfold maxLen at hcm; exact hcm, fun i hi j hj => ⟨?_, ?_⟩⟩, .inr hb⟩
  ·have hget := rowCells_get us i j hi hj
   have hl : j < (us[i]'hi).cells.length := by rw [cells_length]; exact hj
   have hc := h.cells (g := g) rfl (i * 6 + j) ((us[i]'hi).cells[j]'hl) (by rw [hget,List.getElem?_eq_getElem hl])
   rw [Addr.add_lit] at hc; have e : us.getD i Val.zero = us[i]'hi := by simp [hi]
   show _ = (us.getD i Val.zero).cells[j]?
   rw [hc,e,List.getElem?_eq_getElem hl]
  ·rcases Nat.lt_or_ge g w.heap.size with h' | h'
   ·exact h'
   ·simp [Array.getElem?_eq_none h'] at hg
end Go.Proofs.YtaamihdibpioaaaGreat
