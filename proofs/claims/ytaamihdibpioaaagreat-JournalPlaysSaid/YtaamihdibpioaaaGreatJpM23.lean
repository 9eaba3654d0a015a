/- A row whose frozen stretch lies behind its end (what a conversion to bytes makes), and a byte that is appended to it. -/
import Derived.Test.YtaamihdibpioaaaGreatJpM8
import Derived.Test.YtaamihdibpioaaaGreatJpM22
import Derived.Lib.FrozenHead
set_option maxRecDepth 100000
set_option maxHeartbeats 40000000
namespace Go.Proofs.YtaamihdibpioaaaGreat
open Go.RowKit
def OwnT (w : World) (base : Nat) (e : TypeId) (v : Value) (n : Nat) (xs : List Value) : Prop :=
 xs.length = n /\ ∃ g cap cur fz,v = .slice (some ⟨g, 0,none⟩) n cap /\ base <= g /\ w.heap[g]? = some (.cells cur e fz) /\ (fz.2 = 0 \/ cap <= fz.1) /\ n <= cap /\ cap <= maxLen /\ cur.size = cap /\ cur.toList.take n = xs
section
variable {w : World} {base : Nat} {e : TypeId} {v : Value} {n : Nat} {xs : List Value}
theorem OwnT.kept {w' : World} {row : Option Nat} (h : OwnT w base e v n xs) (hg : w.grownBy w' row) (hne : v.ownBlock ≠ row) : OwnT w' base e v n xs := by
 obtain ⟨hl,g,cap,cur,fz,rfl,hb,hgg,rest⟩ := h; refine ⟨hl,g,cap,cur,fz,rfl,hb,?_,rest⟩; rw [hg.block g (Array.getElem?_eq_some_iff.1 hgg).1 (by simpa [Value.ownBlock] using hne)]
 exact hgg
theorem OwnT.alloc (h : OwnT w base e v n xs) (o : Obj) : OwnT (w.alloc o) base e v n xs :=
 h.kept (World.grownBy_alloc w o none) (by obtain ⟨hl,g,cap,cur,fz,rfl,_⟩ := h; simp [Value.ownBlock])
theorem OwnT.cells {g : Nat} (h : OwnT w base e v n xs) (hg : v.ownBlock = some g) : ∀ j u, xs[j]? = some u -> w.cell? ((⟨g, 0, none⟩ : Addr).add j) = some u := by
 intro j u hu; obtain ⟨hl,g',cap,cur,fz,rfl,hb,hgg,_,_,_,_,htake⟩ := h
 simp [Value.ownBlock] at hg
 subst hg; have hadd : (⟨g', 0,none⟩ : Addr).add j = ⟨g',j,none⟩ := by unfold Addr.add; split <;> simp_all
 rw [hadd,cell_of_row w g' j cur e fz hgg]; rw [<- htake,List.getElem?_take] at hu
 split at hu
 ·simpa using hu
 ·cases hu
theorem OwnT.ge (h : OwnT w base e v n xs) : ∀ k, v.ownBlock = some k -> base <= k := by
 intro k hk; obtain ⟨hl,g',cap,cur,fz,rfl,hb,_⟩ := h
 simp [Value.ownBlock] at hk
 omega
end
theorem OwnT.bytes (w : World) (base : Nat) (e : TypeId) (s : ByteArray) (hb : base <= w.heap.size) (hs : s.size <= maxLen) :
  OwnT (Lib.bytesWorld w e s) base e (.slice (some ⟨w.heap.size, 0,none⟩) s.size (grownCap w s.size 0 e)) s.size (Lib.byteCells s.data.toList) := by
 have hge := grownCap_ge w s.size 0 e; have hds : s.data.size = s.size := rfl
 have hcs : (Lib.bytesCells w e s).size = grownCap w s.size 0 e := by
  unfold Lib.bytesCells; simp only [Array.size_append,Array.size_map,Array.size_replicate]
  omega
 refine ⟨by simp [Lib.byteCells],w.heap.size,_,_,_,rfl,hb,Lib.bytesWorld_at_new w e s, .inr (by show _ <= (Lib.bytesCells w e s).size; omega),hge,grownCap_le_maxLen w s.size 0 e hs,hcs,?_⟩
 unfold Lib.bytesCells; have hl : (Array.map (fun b : UInt8 => Value.int .u8 b.toNat) s.data).toList.length = s.size := by simp
 rw [Array.toList_append, <- hl,List.take_left,Array.toList_map]
 rfl
section
variable {P : Program} (w : World)
theorem run_append_T (base : Nat) (t ty e : TypeId) (i : TypeInfo) (ht : P.underlying t = some (.slice e)) (hi : P.info? e = some i) (hz : i.zero = some (.int .u8 0))
  (hsize : i.size = 1) (hby : i.bytes = 1) (v : Value) (n : Nat) (xs : List Value) (hown : OwnT w base e v n xs)
  (a : Addr) (c : Nat) (u : Value) (hnews : w.cell? a = some u) (h1 : u.oneCell' = true)
  (h63 : n + 1 <= maxLen) (hbytes : n + 1 <= 140737488355328) (hbase : base <= w.heap.size) :
  ∃ v' w', (Builtin.append_ #[t,t] ty #[v, .slice (some a) 1 c]).run P w = .ok v' w' /\ OwnT w' base e v' (n + 1) (xs ++ [u]) /\ w.grownBy w' v.ownBlock := by
 have hc := fun g => hown.cells (g := g)
 obtain ⟨hl,g,cap,cur,fz,rfl,hbg,hg,hfz,hnc,hcm,hcs,htake⟩ := hown; have ha0 : a.add 0 = a := by unfold Addr.add; simp
 have hnews' : ∀ j u', [u][j]? = some u' -> w.cell? (a.add j) = some u' := by
  intro j u' hu
  match j,hu with
  | 0,hu => simp at hu; subst hu; rw [ha0]; exact hnews
  | j + 1,hu => simp at hu
 have hlen : (xs ++ [u]).length = n + 1 := by simp [hl]
 by_cases hroom : n + 1 <= cap
 ·have hf := run_firstCells_some (P := P) w i.size 1 a 1 c [u] (by simp [hsize]) hnews'
  rw [hsize] at hf; have hi0 : n < cur.size := by omega
  have hcell : w.cell? ⟨g,n,none⟩ = some cur[n] := by simp [World.cell?,hg,hi0]
  have hfro : w.frozen? ⟨g, n, none⟩ = false := by
   obtain ⟨lo,hi'⟩ := fz; simp only [World.frozen?,hg,Bool.and_eq_false_iff,decide_eq_false_iff_not]; simp only at hfz
   omega
  have hst : (store ⟨g, n, none⟩ u).run P w = .ok () (w.setRow g (cur.setIfInBounds n u)) := by
   rw [run_store P w _ u _ h1,hcell]
   simp [hfro,setCell_eq_setRow w g n cur e fz u hg]
  have hst2 : (storeCells ⟨g, n, none⟩ [u] 0).run P w = .ok () (w.setRow g (cur.setIfInBounds n u)) := by
   have hadd0 : (⟨g,n,none⟩ : Addr).add 0 = ⟨g,n,none⟩ := by unfold Addr.add; simp
   simp only [storeCells,Sem.run_bind,hadd0,hst,Result.andThen_ok]
   rfl
  refine ⟨.slice (some ⟨g, 0,none⟩) (n + 1) cap,w.setRow g (cur.setIfInBounds n u),?_,⟨hlen,g,cap,_,fz,rfl,hbg,setRow_heap w g cur _ e _ hg,hfz,hroom,hcm,by simp [hcs],?_⟩,⟨rfl,rfl,rfl,by simp,fun k _ hk => setRow_other w g k _ (fun e => hk (by simp [Value.ownBlock,e]))⟩⟩
  ·simp [Builtin.append_,run_underlying ht,sizeOf,typeInfo,hi,Builtin.lenOf,hroom,hf,Addr.add_lit,hsize,hst2]
  ·rw [Array.toList_setIfInBounds, <- htake]
   rw [List.take_succ_eq_append_getElem (by simp; omega),List.take_set_of_le (Nat.le_refl _)]
   simp
 ·have hr := run_append_grow (P := P) w t ty e i (.int .u8 0) ht hi hz ⟨g, 0, none⟩ n cap xs (by rw [hsize]; omega) (hc g rfl) a 1 c [u] (by simp [hsize]) hnews' (by omega) (by simp only [maxLen] at h63; omega) (by rw [hby]; exact growslice_fits (by omega) (by omega))
  have hge := grownCap_ge w (n + 1) cap e; have hcm2 : grownCap w (n + 1) cap e <= maxLen := grownCap_le_maxLen w (n + 1) cap e h63; refine ⟨_,_,hr,⟨hlen,w.heap.size,_,_, (0, 0),rfl,hbase,heap_alloc_new w.drew _, .inl rfl,hge,hcm2,?_,?_⟩,⟨rfl,rfl,rfl,by simp,fun k hk _ => Go.heap_alloc_old w.drew _ hk⟩⟩
  ·have hz1 : (Value.int IntKind.u8 0).cells.size = 1 := rfl
   simp only [Array.size_append,List.size_toArray,size_zeroCells,hz1,hl,List.length_singleton]
   omega
  ·simp only [Array.toList_append, List.append_assoc]
   rw [<- List.append_assoc, <- hlen]; exact List.take_left
theorem wpList_append_T {ops : Array Oper} {rest : List Oper} {o : Oper} {a : Act} {Q : Exit -> Act -> World -> Prop} (hgd : o.guard = none) (s x : Operand) (t : TypeId)
  (ho : o.op = .call { callee := .builtin .append,args := #[s,x],argTypes := #[t,t] })
  (base : Nat) (e : TypeId) (i : TypeInfo) (ht : P.underlying t = some (.slice e)) (hi : P.info? e = some i) (hz : i.zero = some (.int .u8 0))
  (hsize : i.size = 1) (hby : i.bytes = 1) (v : Value) (n : Nat) (xs : List Value) (hs : a.eval s = v) (hown : OwnT w base e v n xs)
  (ad : Addr) (c : Nat) (u : Value) (hx : a.eval x = .slice (some ad) 1 c) (hnews : w.cell? ad = some u) (h1 : u.oneCell' = true)
  (h63 : n + 1 <= maxLen) (hbytes : n + 1 <= 140737488355328) (hbase : base <= w.heap.size)
  (h : ∀ v' w',OwnT w' base e v' (n + 1) (xs ++ [u]) -> w.grownBy w' v.ownBlock -> wpList P ops Q rest (a.put o.dst v') w') : wpList P ops Q (o :: rest) a w := by
 refine wpList_plain hgd fun K hK => ?_
 obtain ⟨v',w',hr,h2,h3⟩ := run_append_T (P := P) w base t o.type e i ht hi hz hsize hby v n xs hown ad c u hnews h1 h63 hbytes hbase; unfold Oper.wp execOp; simp only [ho,resolve,invoke,builtin,Sem.run_bind,Sem.run_pure,Result.andThen_ok,List.map_toArray,List.map_cons,List.map_nil,hs,hx,hr]; exact hK _ _ (h v' w' h2 h3)
end
theorem conv_T {w : World} {base n : Nat} {v : Value} {l : List UInt8} (h : OwnT w base 5 v n (Lib.byteCells l)) :
  (convert (105 : Nat) (9 : Nat) v).run Tryz.prog w = .ok (.string ⟨l.toArray⟩) w := by
 have hc := fun g => h.cells (g := g)
 obtain ⟨hl,g,cap,cur,fz,rfl,_⟩ := h; have hl2 : l.length = n := by simpa [Lib.byteCells] using hl
 have e : (⟨l.toArray⟩ : ByteArray) = strOfNums (l.map fun b => (b.toNat : Int)) := by
  unfold strOfNums
  apply ByteArray.ext
  have e : ((fun n : Int => UInt8.ofNat n.toNat) ∘ fun b : UInt8 => (b.toNat : Int)) = id := by
   funext b; simp
  simp [e]
 rw [e]; refine run_convert_bytes_arg (P := Tryz.prog) w 105 5 Tryz.underlying105 Tryz.underlying5 g 0 n cap (l.map fun b => (b.toNat : Int)) (by simpa using hl2) (fun i hi => ?_) _ Tryz.underlying9
 have := hc g rfl i (.int .u8 ((l.map fun b => (b.toNat : Int)).getD i 0)) (by simp [Lib.byteCells,List.getD,show i < l.length by omega])
 rwa [Addr.add_lit] at this
end Go.Proofs.YtaamihdibpioaaaGreat
