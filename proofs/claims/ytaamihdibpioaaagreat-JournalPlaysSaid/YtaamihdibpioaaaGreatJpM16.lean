/- What bytes are as a value, or as a type: plain words, no program in sight. -/
import Derived.Test.YtaamihdibpioaaaGreatJpM11
import Derived.Test.YtaamihdibpioaaaGreatJpM15
set_option maxRecDepth 100000
set_option maxHeartbeats 40000000
namespace Go.Proofs.YtaamihdibpioaaaGreat
open Go.RowKit
def byteAt (s : ByteArray) (p : Nat) : UInt8 := s.data.toList.getD p 0
theorem byteAt_eq {s : ByteArray} {p : Nat} (h : p < s.size) : byteAt s p = s[p]'h := by
 have h' : p < s.data.toList.length := by rw [Array.length_toList]; exact h
 unfold byteAt; rw [List.getD_eq_getElem?_getD,List.getElem?_eq_getElem h']
 simp
 rfl
def beAt (s : ByteArray) (p : Nat) : Nat -> Nat
 | 0 => 0
 | k + 1 => beAt s p k * 256 + (byteAt s (p + k)).toNat
theorem beAt_lt (s : ByteArray) (p : Nat) : ∀ k, beAt s p k < 256 ^ k
 | 0 => by simp [beAt]
 | k + 1 => by
  have h := beAt_lt s p k; have h2 := (byteAt s (p + k)).toNat_lt; simp only [beAt,Nat.pow_succ]
  omega
def readF (s : ByteArray) (p : Nat) : Except Int (Nat × Nat) :=
 if p + 8 <= s.size then (if fcan (beAt s p 8) = beAt s p 8 then .ok (beAt s p 8,p + 8) else .error 5) else .error 14
def readM (s : ByteArray) (p : Nat) : Except Int (Nat × Nat) :=
 match readU s p 0 0 with
 | .error k => .error k
 | .ok (n,q) => if n <= 200 then .ok (n,q) else .error 5
section
variable {A : Type}
def rdL (s : ByteArray) (rd : Nat -> Nat -> Except Int (A × Nat × Nat)) (b : Bool) : Nat -> Nat -> Nat -> Except Int (List ByteArray × List A × Nat × Nat)
 | 0,p,m => .ok ([], [],p,m)
 | n + 1, p, m =>
  match (bif b then readS s p 30 else .ok (ByteArray.empty,p)) with
  | .error k => .error k
  | .ok (t, q) =>
   match rd q m with
   | .error k => .error k
   | .ok (v, q2, m2) =>
    match rdL s rd b n q2 m2 with
    | .error k => .error k
    | .ok (ns,vs,q3,m3) => .ok ((bif b then [t] else []) ++ ns,v :: vs,q3,m3)
def preL (ns : List ByteArray) (vs : List A) : Except Int (List ByteArray × List A × Nat × Nat) -> Except Int (List ByteArray × List A × Nat × Nat)
 | .error k => .error k
 | .ok (ms,us,q,m) => .ok (ns ++ ms,vs ++ us,q,m)
theorem preL_nil (r : Except Int (List ByteArray × List A × Nat × Nat)) : preL [] [] r = r := by
 rcases r with _ | ⟨_,_,_,_⟩ <;> rfl
theorem preL_pre (ns ns' : List ByteArray) (vs vs' : List A) (r : Except Int (List ByteArray × List A × Nat × Nat)) : preL ns vs (preL ns' vs' r) = preL (ns ++ ns') (vs ++ vs') r := by
 rcases r with _ | ⟨_,_,_,_⟩ <;> simp [preL]
section
variable {s : ByteArray} {rd : Nat -> Nat -> Except Int (A × Nat × Nat)} {b : Bool} {n p m : Nat}
theorem rdL_name_bad {k : Int} (h : readS s p 30 = .error k) : rdL s rd true (n + 1) p m = .error k := by simp [rdL,h]
theorem rdL_item_bad0 {k : Int} (h : rd p m = .error k) : rdL s rd false (n + 1) p m = .error k := by simp [rdL,h]
theorem rdL_item_bad1 {k : Int} {t : ByteArray} {q : Nat} (ht : readS s p 30 = .ok (t,q)) (h : rd q m = .error k) : rdL s rd true (n + 1) p m = .error k := by simp [rdL,ht,h]
theorem rdL_next0 {v : A} {q2 m2 : Nat} (h : rd p m = .ok (v, q2, m2)) : rdL s rd false (n + 1) p m = preL [] [v] (rdL s rd false n q2 m2) := by
 simp only [rdL,h,cond_false]
 rcases rdL s rd false n q2 m2 with _ | ⟨_,_,_,_⟩ <;> rfl
theorem rdL_next1 {t : ByteArray} {v : A} {q q2 m2 : Nat} (ht : readS s p 30 = .ok (t, q)) (h : rd q m = .ok (v, q2, m2)) : rdL s rd true (n + 1) p m = preL [t] [v] (rdL s rd true n q2 m2) := by
 simp only [rdL,ht,h,cond_true]
 rcases rdL s rd true n q2 m2 with _ | ⟨_,_,_,_⟩ <;> rfl
end
def Come (s : ByteArray) (rd : Nat -> Nat -> Except Int (A × Nat × Nat)) (b : Bool) (n p m : Nat) (ns : List ByteArray) (vs : List A) (i q m' : Nat) : Prop :=
 i <= n /\ vs.length = i /\ ns.length = (bif b then i else 0) /\ rdL s rd b n p m = preL ns vs (rdL s rd b (n - i) q m')
section
variable {s : ByteArray} {rd : Nat -> Nat -> Except Int (A × Nat × Nat)} {b : Bool} {n p m i q m' : Nat} {ns : List ByteArray} {vs : List A}
theorem come_start : Come s rd b n p m [] [] 0 p m := ⟨Nat.zero_le _,rfl,by cases b <;> rfl,by rw [preL_nil]; rfl⟩
theorem Come.name_bad (h : Come s rd true n p m ns vs i q m') (hi : i < n) {k : Int} (hk : readS s q 30 = .error k) : rdL s rd true n p m = .error k := by
 obtain ⟨_,_,_,h⟩ := h; rw [h,show n - i = (n - i - 1) + 1 from by omega,rdL_name_bad hk]
 rfl
theorem Come.item_bad0 (h : Come s rd false n p m ns vs i q m') (hi : i < n) {k : Int} (hk : rd q m' = .error k) : rdL s rd false n p m = .error k := by
 obtain ⟨_,_,_,h⟩ := h; rw [h,show n - i = (n - i - 1) + 1 from by omega,rdL_item_bad0 hk]
 rfl
theorem Come.item_bad1 (h : Come s rd true n p m ns vs i q m') (hi : i < n) {k : Int} {t : ByteArray} {q1 : Nat} (ht : readS s q 30 = .ok (t, q1)) (hk : rd q1 m' = .error k) : rdL s rd true n p m = .error k := by
 obtain ⟨_,_,_,h⟩ := h; rw [h,show n - i = (n - i - 1) + 1 from by omega,rdL_item_bad1 ht hk]
 rfl
theorem Come.next0 (h : Come s rd false n p m ns vs i q m') (hi : i < n) {v : A} {q2 m2 : Nat} (hk : rd q m' = .ok (v, q2, m2)) : Come s rd false n p m ns (vs ++ [v]) (i + 1) q2 m2 := by
 obtain ⟨_,h1,h2,h⟩ := h; refine ⟨hi,by simp [h1],h2,?_⟩
 rw [h,show n - i = (n - (i + 1)) + 1 from by omega,rdL_next0 hk,preL_pre,List.append_nil]
theorem Come.next1 (h : Come s rd true n p m ns vs i q m') (hi : i < n) {t : ByteArray} {q1 : Nat} (ht : readS s q 30 = .ok (t, q1)) {v : A} {q2 m2 : Nat} (hk : rd q1 m' = .ok (v, q2, m2)) :
  Come s rd true n p m (ns ++ [t]) (vs ++ [v]) (i + 1) q2 m2 := by
 obtain ⟨_,h1,h2,h⟩ := h; refine ⟨hi,by simp [h1],by simpa using h2,?_⟩
 rw [h,show n - i = (n - (i + 1)) + 1 from by omega,rdL_next1 ht hk,preL_pre]
theorem Come.done (h : Come s rd b n p m ns vs n q m') : rdL s rd b n p m = .ok (ns, vs, q, m') := by
 obtain ⟨_,_,_,h⟩ := h; rw [h,Nat.sub_self]
 simp [rdL,preL]
end
end
def Val.leafN (k n : Int) : Val := .mk k n 0 ByteArray.empty .no [] .no []
def Val.leafF (f : Nat) : Val := .mk 3 0 f ByteArray.empty .no [] .no []
def Val.leafS (t : ByteArray) : Val := .mk 4 0 0 t .no [] .no []
def Val.node (k : Int) (ns : List ByteArray) (vs : List Val) : Val := .mk k 0 0 ByteArray.empty .no ns .no vs
def rdV (s : ByteArray) : Nat -> Nat -> Nat -> Except Int (Val × Nat × Nat)
 | 0,_,_ => .error 5
 | d + 1, p, m =>
  if 200 < m + 1 then .error 5
  else if s.size <= p then .error 14
  else if (byteAt s p).toNat = 1 then
   (if s.size <= p + 1 then .error 14 else if (byteAt s (p + 1)).toNat <= 1 then .ok (Val.leafN 1 (byteAt s (p + 1)).toNat,p + 2,m + 1) else .error 5)
  else if (byteAt s p).toNat = 2 then
   (match readU s (p + 1) 0 0 with
   | .error k => .error k
   | .ok (n,q) => .ok (Val.leafN 2 (unzig n),q,m + 1))
  else if (byteAt s p).toNat = 3 then
   (match readF s (p + 1) with
   | .error k => .error k
   | .ok (f,q) => .ok (Val.leafF f,q,m + 1))
  else if (byteAt s p).toNat = 4 then
   (match readS s (p + 1) 200 with
   | .error k => .error k
   | .ok (t,q) => .ok (Val.leafS t,q,m + 1))
  else if (byteAt s p).toNat = 5 \/ (byteAt s p).toNat = 6 then
   (match readM s (p + 1) with
   | .error k => .error k
   | .ok (n, q) =>
    match rdL s (rdV s d) (decide ((byteAt s p).toNat = 6)) n q (m + 1) with
    | .error k => .error k
    | .ok (ns,vs,q2,m2) => .ok (Val.node (byteAt s p).toNat ns vs,q2,m2))
  else .error 5
def Ty.node (k : Int) (ns : List ByteArray) (vs : List Ty) : Ty := .mk k .no ns .no vs
def tyMany (s : ByteArray) (k p : Nat) : Except Int (Nat × Nat) :=
 if k = 5 then .ok (1,p) else if k = 6 then readM s p else if 1 <= k /\ k <= 7 then .ok (0,p) else .error 5
def rdT (s : ByteArray) : Nat -> Nat -> Nat -> Except Int (Ty × Nat × Nat)
 | 0,_,_ => .error 5
 | d + 1, p, m =>
  if 200 < m + 1 then .error 5
  else if s.size <= p then .error 14
  else match tyMany s (byteAt s p).toNat (p + 1) with
   | .error k => .error k
   | .ok (n, q) =>
    match rdL s (rdT s d) (decide ((byteAt s p).toNat = 6)) n q (m + 1) with
    | .error k => .error k
    | .ok (ns,vs,q2,m2) => .ok (Ty.node (byteAt s p).toNat ns vs,q2,m2)
theorem readS_lt {s : ByteArray} {p q : Nat} {most : Int} {t : ByteArray} (h : readS s p most = .ok (t, q)) : p < q /\ q <= s.size /\ (t.size : Int) <= most := by
 unfold readS at h
 cases hu : readU s p 0 0 with
 | error k => rw [hu] at h; cases h
 | ok nq =>
  obtain ⟨n,r⟩ := nq; obtain ⟨h1,h2,h3⟩ := readU_lt s p 0 0 (by decide) (by omega) n r hu
  rw [hu] at h; simp only at h
  split at h
  ·split at h
   ·injection h with h
    injection h with ht hq; refine ⟨by omega,by omega,?_⟩
    rw [<- ht,ByteArray.size_extract]
    omega
   ·cases h
  ·cases h
theorem readM_lt {s : ByteArray} {p n q : Nat} (h : readM s p = .ok (n, q)) : p < q /\ q <= s.size /\ n <= 200 := by
 unfold readM at h
 cases hu : readU s p 0 0 with
 | error k => rw [hu] at h; cases h
 | ok nq =>
  obtain ⟨n',r⟩ := nq; obtain ⟨h1,h2,h3⟩ := readU_lt s p 0 0 (by decide) (by omega) n' r hu
  rw [hu] at h; simp only at h
  split at h
  ·injection h with h
   injection h with ht hq
   omega
  ·cases h
theorem readF_lt {s : ByteArray} {p n q : Nat} (h : readF s p = .ok (n, q)) : p < q /\ q <= s.size /\ n < 18446744073709551616 /\ fcan n = n := by
 unfold readF at h
 split at h
 ·split at h
  ·injection h with h
   injection h with ht hq; have := beAt_lt s p 8; refine ⟨by omega,by omega,?_,?_⟩
   ·rw [<- ht]; exact this
   ·rw [<- ht]; assumption
  ·cases h
 ·cases h
theorem rdL_lt {A : Type} {s : ByteArray} {rd : Nat -> Nat -> Except Int (A × Nat × Nat)} {b : Bool} (hrd : ∀ p m v q m', p <= s.size -> m <= 200 -> rd p m = .ok (v, q, m') -> p < q /\ q <= s.size /\ m < m' /\ m' <= 200) :
  ∀ n p m ns vs q m',p <= s.size -> m <= 200 -> rdL s rd b n p m = .ok (ns,vs,q,m') -> p <= q /\ q <= s.size /\ m + n <= m' /\ m' <= 200 /\ vs.length = n /\ ns.length = (bif b then n else 0) /\ ∀ t,t ∈ ns -> t.size <= 30
 | 0, p, m, ns, vs, q, m', hp, hm, h => by
  simp only [rdL,Except.ok.injEq,Prod.mk.injEq] at h; obtain ⟨rfl,rfl,rfl,rfl⟩ := h; exact ⟨by omega,hp,by omega,hm,rfl,by cases b <;> rfl,fun t ht => by simp at ht⟩
 | n + 1, p, m, ns, vs, q, m', hp, hm, h => by
  cases b with
  | false =>
   cases h1 : rd p m with
   | error k => rw [rdL_item_bad0 h1] at h; cases h
   | ok x =>
    obtain ⟨v,q2,m2⟩ := x; obtain ⟨a1,a2,a3,a4⟩ := hrd _ _ _ _ _ hp hm h1; rw [rdL_next0 h1] at h
    cases h2 : rdL s rd false n q2 m2 with
    | error k => rw [h2] at h; cases h
    | ok y =>
     obtain ⟨ms,us,q3,m3⟩ := y; obtain ⟨b1,b2,b3,b4,b5,b6,b7⟩ := rdL_lt hrd n q2 m2 ms us q3 m3 a2 a4 h2; rw [h2] at h; simp only [preL,Except.ok.injEq,Prod.mk.injEq] at h; obtain ⟨rfl,rfl,rfl,rfl⟩ := h; exact ⟨by omega,b2,by omega,b4,by simp [b5],b6,b7⟩
  | true =>
   cases h0 : readS s p 30 with
   | error k => rw [rdL_name_bad h0] at h; cases h
   | ok tq =>
    obtain ⟨t,q1⟩ := tq; obtain ⟨c1,c2,c3⟩ := readS_lt h0
    cases h1 : rd q1 m with
    | error k => rw [rdL_item_bad1 h0 h1] at h; cases h
    | ok x =>
     obtain ⟨v,q2,m2⟩ := x; obtain ⟨a1,a2,a3,a4⟩ := hrd _ _ _ _ _ c2 hm h1; rw [rdL_next1 h0 h1] at h
     cases h2 : rdL s rd true n q2 m2 with
     | error k => rw [h2] at h; cases h
     | ok y =>
      obtain ⟨ms,us,q3,m3⟩ := y; obtain ⟨b1,b2,b3,b4,b5,b6,b7⟩ := rdL_lt hrd n q2 m2 ms us q3 m3 a2 a4 h2; rw [h2] at h; simp only [preL,Except.ok.injEq,Prod.mk.injEq] at h; obtain ⟨rfl,rfl,rfl,rfl⟩ := h; refine ⟨by omega,b2,by omega,b4,by simp [b5],by simpa using b6,fun t' ht' => ?_⟩
      rcases List.mem_cons.1 (by simpa using ht') with rfl | h'
      ·omega
      ·exact b7 _ h'
theorem rdV_lt (s : ByteArray) : ∀ d p m v q m', p <= s.size -> m <= 200 -> rdV s d p m = .ok (v, q, m') -> p < q /\ q <= s.size /\ m < m' /\ m' <= 200
 | 0,p,m,v,q,m',hp,hm,h => by simp [rdV] at h
 | d + 1, p, m, v, q, m', hp, hm, h => by
  unfold rdV at h
  split at h
  ·cases h
  split at h
  ·cases h
  split at h
  ·split at h
   ·cases h
   ·split at h
    ·simp only [Except.ok.injEq,Prod.mk.injEq] at h; omega
    ·cases h
  split at h
  ·split at h
   ·cases h
   ·next n r hu =>
    have := readU_lt s (p + 1) 0 0 (by decide) (by omega) n r hu
    simp only [Except.ok.injEq,Prod.mk.injEq] at h; omega
  split at h
  ·split at h
   ·cases h
   ·next n r hu =>
    have := readF_lt hu; simp only [Except.ok.injEq,Prod.mk.injEq] at h; omega
  split at h
  ·split at h
   ·cases h
   ·next n r hu =>
    have := readS_lt hu; simp only [Except.ok.injEq,Prod.mk.injEq] at h; omega
  split at h
  ·split at h
   ·cases h
   ·next n r hu =>
    have h1 := readM_lt hu
    split at h
    ·cases h
    ·next ns vs q2 m2 hl =>
     have h2 := rdL_lt (fun p m v q m' => rdV_lt s d p m v q m') n r (m + 1) ns vs q2 m2 (by omega) (by omega) hl
     simp only [Except.ok.injEq,Prod.mk.injEq] at h; omega
  ·cases h
end Go.Proofs.YtaamihdibpioaaaGreat
namespace Go.Proofs.YtaamihdibpioaaaGreat
open Go.RowKit
section
variable {A : Type} (E : Elem A)
structure Gath (TE : TypeId) (B : Nat) (w : World) (ns : List ByteArray) (us : List A) (sv xv : Value) : Prop where
 names : w.ownsRow B 9 1 sv ns.length (ns.map Value.string)
 items : w.ownsRow B TE E.size xv us.length (E.row us)
 apart : ∀ b,sv.ownBlock = some b -> xv.ownBlock ≠ some b
 each : ∀ u,u ∈ us -> E.In w u /\ E.Sep (fun b => B <= b /\ some b ≠ sv.ownBlock /\ some b ≠ xv.ownBlock) u
variable {E} {TE : TypeId} {B : Nat} {w w' : World} {ns : List ByteArray} {us : List A} {sv xv : Value}
theorem gath_start (w : World) : Gath E TE B w [] [] (.slice none 0 0) (.slice none 0 0) :=
 ⟨⟨rfl, .inl ⟨rfl,rfl⟩⟩,⟨by simp [Elem.row], .inl ⟨rfl,rfl⟩⟩,fun b h => by simp [Value.ownBlock] at h,fun u h => by simp at h⟩
theorem Gath.keep (h : Gath E TE B w ns us sv xv) (hk : ∀ b, B <= b -> b < w.heap.size -> w'.heap[b]? = w.heap[b]?) (hz : w.heap.size <= w'.heap.size) : Gath E TE B w' ns us sv xv := by
 have hrow : ∀ {e : TypeId} {c n : Nat} {v : Value} {xs : List Value}, w.ownsRow B e c v n xs -> w'.ownsRow B e c v n xs := fun ⟨h1, h2⟩ => by
  refine ⟨h1,?_⟩
  rcases h2 with h2 | ⟨g,cap,cur,rfl,hb,hg,hrest⟩
  ·exact .inl h2
  ·refine .inr ⟨g, cap, cur, rfl, hb, ?_, hrest⟩
   have hlt : g < w.heap.size := by
    rcases Nat.lt_or_ge g w.heap.size with h' | h'
    ·exact h'
    ·simp [Array.getElem?_eq_none h'] at hg
   rw [hk g hb hlt]; exact hg
 exact ⟨hrow h.names,hrow h.items,h.apart,fun u hu => ⟨E.carry (h.each u hu).1 (h.each u hu).2 (fun b o hs hlt => World.cell?_of_block (a := ⟨b,o,none⟩) (hk b hs.1 hlt)) hz, (h.each u hu).2⟩⟩
theorem Gath.only (h : Gath E TE B w ns us sv xv) {g : Nat} (ho : Only w w' g) (hg : g < B) : Gath E TE B w' ns us sv xv :=
 h.keep (fun b hb hlt => ho.block b hlt (by simp; omega)) ho.size
theorem Gath.below (h : Gath E TE B w ns us sv xv) (hb : Below w.heap.size w w') : Gath E TE B w' ns us sv xv :=
 h.keep (fun b _ hlt => hb.block b hlt) hb.size
theorem Gath.set_ (h : Gath E TE B w ns us sv xv) {p : Addr} (hp : p.block < B) (u : Value) : Gath E TE B (w.setCell p u) ns us sv xv :=
 h.keep (fun b hb _ => Below.heap_setCell w p u b (by omega)) (by simp [World.setCell])
theorem Gath.name {v' : Value} {t : ByteArray} (h : Gath E TE B w ns us sv xv) (hB : B <= w.heap.size) (ho : w'.ownsRow B 9 1 v' (ns.length + 1) (ns.map Value.string ++ [.string t])) (hg : w.grownBy w' sv.ownBlock)
  (hor : v'.ownBlock = sv.ownBlock \/ v'.ownBlock = some w.heap.size) : Gath E TE B w' (ns ++ [t]) us v' xv := by
 have hxb : ∀ b,xv.ownBlock = some b -> b < w.heap.size := fun b hb => (h.items.lt b hb).2
 have hap : ∀ b, v'.ownBlock = some b -> xv.ownBlock ≠ some b := fun b hb hx => by
  rcases hor with h' | h'
  ·exact h.apart b (by rw [<- h']; exact hb) hx
  ·rw [h'] at hb; injection hb with hb; have := hxb b hx; omega
 refine ⟨by rw [List.length_append,List.map_append]; exact ho,?_,hap,fun u hu => ?_⟩
 ·refine h.items.kept hg ?_
  cases hx : xv.ownBlock with
  | none => exact .inl rfl
  | some b => exact .inr (fun e => h.apart b e.symm hx)
 ·obtain ⟨h1, h2⟩ := h.each u hu
  have h3 := E.and h2 (E.lt h1); refine ⟨E.carry h1 h2 (fun b o hs hlt => World.cell?_of_block (a := ⟨b,o,none⟩) (hg.block b hlt hs.2.1)) hg.size,E.mono h3 (fun b hb => ⟨hb.1.1,?_,hb.1.2.2⟩)⟩
  rcases hor with h' | h'
  ·rw [h']; exact hb.1.2.1
  ·rw [h']; intro e; injection e with e; have := hb.2; omega
theorem Gath.item {v' : Value} {x : A} {Z : Nat} (h : Gath E TE B w ns us sv xv) (hB : B <= w.heap.size) (hx : E.In w x) (hs : E.Sep (fun b => Z <= b) x) (hZ : B <= Z) (hsz : ∀ b, sv.ownBlock = some b -> b < Z) (hxz : ∀ b, xv.ownBlock = some b -> b < Z)
  (ho : w'.ownsRow B TE E.size v' (us.length + 1) (E.row us ++ E.cells x)) (hg : w.grownBy w' xv.ownBlock)
  (hor : v'.ownBlock = xv.ownBlock \/ v'.ownBlock = some w.heap.size) : Gath E TE B w' ns (us ++ [x]) sv v' := by
 have hsb : ∀ b,sv.ownBlock = some b -> b < w.heap.size := fun b hb => (h.names.lt b hb).2
 have hap : ∀ b, sv.ownBlock = some b -> v'.ownBlock ≠ some b := fun b hb hx => by
  rcases hor with h' | h'
  ·exact h.apart b hb (by rw [<- h']; exact hx)
  ·rw [h'] at hx; injection hx with hx; have := hsb b hb; omega
 refine ⟨?_,by rw [List.length_append,Elem.row_snoc]; exact ho,hap,fun u hu => ?_⟩
 ·refine h.names.kept hg ?_
  cases hx' : sv.ownBlock with
  | none => exact .inl rfl
  | some b => exact .inr (fun e => h.apart b hx' e.symm)
 ·rcases List.mem_append.1 hu with hu | hu
  ·obtain ⟨h1, h2⟩ := h.each u hu
   have h3 := E.and h2 (E.lt h1); refine ⟨E.carry h1 h2 (fun b o hs hlt => World.cell?_of_block (a := ⟨b,o,none⟩) (hg.block b hlt hs.2.2)) hg.size,E.mono h3 (fun b hb => ⟨hb.1.1,hb.1.2.1,?_⟩)⟩
   rcases hor with h' | h'
   ·rw [h']; exact hb.1.2.2
   ·rw [h']; intro e; injection e with e; have := hb.2; omega
  ·obtain rfl : u = x := by simpa using hu
   have h3 := E.and hs (E.lt hx); refine ⟨E.carry hx hs (fun b o hs' hlt => World.cell?_of_block (a := ⟨b,o,none⟩) (hg.block b hlt (fun e => by have := hxz b e.symm; omega))) hg.size,E.mono h3 (fun b hb => ⟨by omega,fun e => ?_,?_⟩)⟩
   ·have := hsz b e.symm; omega
   ·rcases hor with h' | h'
    ·rw [h']; intro e; have := hxz b e.symm; omega
    ·rw [h']; intro e; injection e with e; have := hb.2; omega
end
end Go.Proofs.YtaamihdibpioaaaGreat
