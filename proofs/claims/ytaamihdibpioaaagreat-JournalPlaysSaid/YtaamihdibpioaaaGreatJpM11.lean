/- value.Canon of any value: one that is the same but for its floats, in new memory. -/
import Derived.Test.YtaamihdibpioaaaGreatJpM9
import Derived.Test.YtaamihdibpioaaaGreatJpM10
set_option maxRecDepth 100000
set_option maxHeartbeats 40000000
namespace Go.Proofs.YtaamihdibpioaaaGreat
open Go.RowKit
theorem str_facts : (Tryz.prog.info? 9).map (fun i => (i.zero,i.size,i.bytes)) = some (some (.string ByteArray.empty), 1, 16) := by kernel_rfl
theorem lies_of_own {w : World} {base : Nat} {e : TypeId} {v : Value} {ns : List ByteArray} (h : w.ownsRow base e 1 v ns.length (ns.map Value.string)) :
  ∃ s : Sl,v = s.val ns.length /\ s.lies w 1 ns.length (fun i => [.string (ns.getD i ByteArray.empty)]) /\ s.sep (fun b => base <= b) ns.length := by
 rcases h.2 with ⟨rfl,h0⟩ | ⟨g,cap,cur,rfl,hb,hg,hnc,hcm,hcs,htake⟩
 ·exact ⟨.no,by simp [Sl.val],h0,trivial⟩
 ·refine ⟨.at_ g 0 cap, rfl, ⟨hnc, by unfold maxLen at hcm; exact hcm, fun i hi j hj => ⟨?_, ?_⟩⟩, .inr hb⟩
  ·have hc := h.cells (g := g) rfl i (.string (ns.getD i ByteArray.empty)) (by simp [hi])
   obtain rfl : j = 0 := by omega
   rw [Addr.add_lit] at hc
   simpa using hc
  ·rcases Nat.lt_or_ge g w.heap.size with h' | h'
   ·exact h'
   ·simp [Array.getElem?_eq_none h'] at hg
end Go.Proofs.YtaamihdibpioaaaGreat
namespace Go.Proofs.YtaamihdibpioaaaGreat
open Go.RowKit
mutual
def Val.canon : Val -> Val
 | .mk k n f s _ ns _ xs => .mk k n (fcan f) s .no ns .no (Val.canonAll xs)
def Val.canonAll : List Val -> List Val
 | [] => []
 | x :: xs => x.canon :: Val.canonAll xs
end
theorem run_store_flt (w : World) (a : Addr) (k : FloatKind) (f : Nat) (m : Mode) : (store a (.float k f) m).run Tryz.prog w = stored Tryz.prog w a (.float k f) m := run_store Tryz.prog w a _ m rfl
theorem Sl.lies.slice {w : World} {a : Sl} {c n : Nat} {row : Nat -> List Value} (h : a.lies w c n row) : ∃ p q, a.val n = .slice p n q := by
 cases a with
 | no => exact ⟨none, 0,by have : n = 0 := h; simp [Sl.val,this]⟩
 | odd a => exact ⟨some a, 0,by have : n = 0 := h; simp [Sl.val,this]⟩
 | at_ b o cap => exact ⟨_,_,rfl⟩
theorem val_facts : (Tryz.prog.info? 37).map (fun i => (i.zero,i.size,i.bytes)) = some (some (.agg #[.int .i64 0, .int .i64 0, .float .f64 0, .string ByteArray.empty, .slice none 0 0, .slice none 0 0]), 6, 88) := by kernel_rfl
end Go.Proofs.YtaamihdibpioaaaGreat
namespace Go.Proofs.YtaamihdibpioaaaGreat
open Go.RowKit
structure Elem (A : Type) where
 cells : A -> List Value
 size : Nat
 In : World -> A -> Prop
 Sep : (Nat -> Prop) -> A -> Prop
 pos : 0 < size
 len : ∀ a, (cells a).length = size
 one : ∀ a, ∀ u ∈ cells a,u.oneCell' = true
 carry : ∀ {S : Nat -> Prop} {w w' : World} {a : A},In w a -> Sep S a -> (∀ b o,S b -> b < w.heap.size -> w'.cell? ⟨b,o,none⟩ = w.cell? ⟨b,o,none⟩) -> w.heap.size <= w'.heap.size -> In w' a
 mono : ∀ {S T : Nat -> Prop} {a : A},Sep S a -> (∀ b,S b -> T b) -> Sep T a
 and : ∀ {S T : Nat -> Prop} {a : A},Sep S a -> Sep T a -> Sep (fun b => S b /\ T b) a
 lt : ∀ {w : World} {a : A},In w a -> Sep (fun b => b < w.heap.size) a
section
variable {A : Type} (E : Elem A)
def Elem.row (us : List A) : List Value := us.flatMap E.cells
theorem Elem.row_snoc (us : List A) (u : A) : E.row (us ++ [u]) = E.row us ++ E.cells u := by simp [Elem.row]
theorem Elem.row_len (us : List A) : (E.row us).length = us.length * E.size := by
 induction us with
 | nil => simp [Elem.row]
 | cons u us ih => simp only [Elem.row,List.flatMap_cons,List.length_append,E.len,List.length_cons] at ih ⊢; rw [ih,Nat.succ_mul]; omega
end
theorem val_cells_len (v : Val) : v.cells.length = 6 := rfl
def valE : Elem Val where
 cells := Val.cells
 size := 6
 In := fun w v => v.In w
 Sep := fun S v => v.Sep S
 pos := by decide
 len := val_cells_len
 one := cells_oneCell
 carry := fun h hs hb hz => h.carryS hs hb hz
 mono := fun h hst => h.mono hst
 and := fun h k => h.and k
 lt := fun h => h.sep
end Go.Proofs.YtaamihdibpioaaaGreat
namespace Go.Proofs.YtaamihdibpioaaaGreat
open Go.RowKit
section
variable {A : Type} (E : Elem A)
structure Rowed (S : Nat -> Prop) (B : Nat) (TE : TypeId) (w : World) (us : List A) (xv : Value) : Prop where
 items : w.ownsRow B TE E.size xv us.length (E.row us)
 each : ∀ u,u ∈ us -> E.In w u /\ E.Sep (fun b => (S b \/ B <= b) /\ some b ≠ xv.ownBlock) u
variable {E} {S : Nat -> Prop} {B : Nat} {TE : TypeId} {w w' : World} {us : List A} {xv : Value}
theorem rowed_start (w : World) : Rowed E S B TE w [] (.slice none 0 0) := ⟨⟨by simp [Elem.row], .inl ⟨rfl,rfl⟩⟩,fun u h => by simp at h⟩
theorem rowed_own_keep {e : TypeId} {c n : Nat} {v : Value} {xs : List Value} (hk : ∀ b, B <= b -> b < w.heap.size -> w'.heap[b]? = w.heap[b]?) (h : w.ownsRow B e c v n xs) : w'.ownsRow B e c v n xs := by
 obtain ⟨h1,h2⟩ := h; refine ⟨h1,?_⟩
 rcases h2 with h2 | ⟨g,cap,cur,rfl,hb,hg,hrest⟩
 ·exact .inl h2
 ·refine .inr ⟨g, cap, cur, rfl, hb, ?_, hrest⟩
  have hlt : g < w.heap.size := by
   rcases Nat.lt_or_ge g w.heap.size with h' | h'
   ·exact h'
   ·simp [Array.getElem?_eq_none h'] at hg
  rw [hk g hb hlt]; exact hg
theorem Rowed.keep (h : Rowed E S B TE w us xv) (hk : ∀ b, S b \/ B <= b -> b < w.heap.size -> w'.heap[b]? = w.heap[b]?) (hz : w.heap.size <= w'.heap.size) : Rowed E S B TE w' us xv :=
 ⟨rowed_own_keep (fun b hb hlt => hk b (.inr hb) hlt) h.items,fun u hu => ⟨E.carry (h.each u hu).1 (h.each u hu).2 (fun b o hs hlt => World.cell?_of_block (a := ⟨b,o,none⟩) (hk b hs.1 hlt)) hz, (h.each u hu).2⟩⟩
theorem Rowed.below (h : Rowed E S B TE w us xv) (hb : Below w.heap.size w w') : Rowed E S B TE w' us xv := h.keep (fun b _ hlt => hb.block b hlt) hb.size
theorem Rowed.set_ (h : Rowed E S B TE w us xv) {p : Addr} (h1 : ∀ b, S b -> b ≠ p.block) (h2 : p.block < B) (u : Value) : Rowed E S B TE (w.setCell p u) us xv := by
 exact h.keep (fun b hb _ => Below.heap_setCell w p u b (by rcases hb with hb | hb; exact h1 b hb; omega)) (by simp [World.setCell])
theorem Rowed.form (h : Rowed E S B TE w us xv) : ∃ a c, xv = .slice a us.length c := by
 rcases h.items.2 with ⟨rfl,h0⟩ | ⟨g,cap,cur,rfl,_⟩
 ·exact ⟨none, 0,by rw [h0]⟩
 ·exact ⟨_,_,rfl⟩
theorem Rowed.item {v' : Value} {x : A} {Z : Nat} (h : Rowed E S B TE w us xv) (hP : ∀ b, S b -> b < B) (hB : B <= w.heap.size) (hx : E.In w x) (hs : E.Sep (fun b => S b \/ Z <= b) x) (hZ : B <= Z) (hxz : ∀ b, xv.ownBlock = some b -> b < Z)
  (ho : w'.ownsRow B TE E.size v' (us.length + 1) (E.row us ++ E.cells x)) (hg : w.grownBy w' xv.ownBlock)
  (hor : v'.ownBlock = xv.ownBlock \/ v'.ownBlock = some w.heap.size) : Rowed E S B TE w' (us ++ [x]) v' := by
 have hxb : ∀ b,xv.ownBlock = some b -> B <= b := fun b hb => own_ge h.items hb
 refine ⟨by rw [List.length_append,Elem.row_snoc]; exact ho,fun u hu => ?_⟩
 rcases List.mem_append.1 hu with hu | hu
 ·obtain ⟨h1, h2⟩ := h.each u hu
  have h3 := E.and h2 (E.lt h1); refine ⟨E.carry h1 h2 (fun b o hs hlt => World.cell?_of_block (a := ⟨b,o,none⟩) (hg.block b hlt hs.2)) hg.size,E.mono h3 (fun b hb => ⟨hb.1.1,?_⟩)⟩
  rcases hor with h' | h'
  ·rw [h']; exact hb.1.2
  ·rw [h']; intro e; injection e with e; have := hb.2; omega
 ·obtain rfl : u = x := by simpa using hu
  have h3 := E.and hs (E.lt hx)
  have hne : ∀ b, (S b \/ Z <= b) -> some b ≠ xv.ownBlock := fun b hb e => by
   have h4 := hxz b e.symm; have h5 := hxb b e.symm
   rcases hb with hb | hb
   ·have := hP b hb; omega
   ·omega
  refine ⟨E.carry hx hs (fun b o hs' hlt => World.cell?_of_block (a := ⟨b,o,none⟩) (hg.block b hlt (hne b hs'))) hg.size,E.mono h3 (fun b hb => ⟨by rcases hb.1 with h | h; exact .inl h; exact .inr (by omega),?_⟩)⟩
  rcases hor with h' | h'
  ·rw [h']; exact hne b hb.1
  ·rw [h']; intro e; injection e with e; have := hb.2; omega
end
theorem row_reads (w : World) (l : List Value) (t : TypeId) : Reads (w.alloc (.cells l.toArray t)) (w.heap.size + 1) l.length (some ⟨w.heap.size, 0, none⟩) 1 l :=
 ⟨by simp,fun _ => ⟨_,rfl,by simp,cells_new w l t⟩⟩
theorem row_form {w : World} {base n size : Nat} {e : TypeId} {v : Value} {xs : List Value} (h : w.ownsRow base e size v n xs) : ∃ a c, v = .slice a n c := by
 rcases h.2 with ⟨rfl,h0⟩ | ⟨g,cap,cur,rfl,_⟩
 ·exact ⟨none, 0,by rw [h0]⟩
 ·exact ⟨_,_,rfl⟩
end Go.Proofs.YtaamihdibpioaaaGreat
