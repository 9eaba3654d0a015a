/- Commands as plain data: their cells, the bytes that they have, how they are read. Plain lemmas. -/
import Derived.Test.YtaamihdibpioaaaGreatJkM3
import Derived.Test.YtaamihdibpioaaaGreatJkM5
import Derived.Test.YtaamihdibpioaaaGreatJkM12
import Derived.Test.YtaamihdibpioaaaGreatJkM13
import Derived.Test.YtaamihdibpioaaaGreatJkM15
import Derived.Test.YtaamihdibpioaaaGreatJkM16
import Derived.Test.YtaamihdibpioaaaGreatJkM26
import Derived.Test.YtaamihdibpioaaaGreatJkM29
import Derived.Test.YtaamihdibpioaaaGreatJkM37
namespace Go.Proofs.YtaamihdibpioaaaGreat
set_option linter.unusedVariables false
open Go.RowKit

/-- A command. -/
structure Cm where
  k : Int
  nd : Int
  il : Int
  inn : Int
  n : Int
  key : Val
  v : Val
def Cm.ints (c : Cm) : List Int := [c.k, c.nd, c.il, c.inn, c.n]
def Cm.cells (c : Cm) : List Value := [.int .i64 c.k, .int .i64 c.nd, .int .i64 c.il, .int .i64 c.inn, .int .i64 c.n] ++ (c.key.cells ++ c.v.cells)
def Cm.agg (c : Cm) : Value := .agg c.cells.toArray
def Cm.In (w : World) (c : Cm) : Prop := (∀ x, x ∈ c.ints → i64r x) ∧ c.key.In w ∧ c.v.In w
def Cm.Sep (S : Nat → Prop) (c : Cm) : Prop := c.key.Sep S ∧ c.v.Sep S
def Cm.erase (c : Cm) : Cm := ⟨c.k, c.nd, c.il, c.inn, c.n, c.key.erase, c.v.erase⟩
abbrev Cm.zero : Cm := ⟨0, 0, 0, 0, 0, Val.zero, Val.zero⟩
theorem Cm.cells_len (c : Cm) : c.cells.length = 17 := rfl
theorem Cm.oneCell (c : Cm) : ∀ u ∈ c.cells, u.oneCell' = true := by
  intro u hu
  unfold Cm.cells at hu
  rcases List.mem_append.1 hu with hu | hu
  · simp at hu
    rcases hu with rfl | rfl | rfl | rfl | rfl <;> rfl
  · rcases List.mem_append.1 hu with hu | hu
    · exact cells_oneCell _ u hu
    · exact cells_oneCell _ u hu
theorem Cm.In.below {w w' : World} {c : Cm} (h : c.In w) (hb : Below w.heap.size w w') : c.In w' := ⟨h.1, h.2.1.below hb, h.2.2.below hb⟩
def cmE : Elem Cm where
  cells := Cm.cells
  size := 17
  In := Cm.In
  Sep := Cm.Sep
  pos := by decide
  len := Cm.cells_len
  one := Cm.oneCell
  carry := fun h hs hb hz => ⟨h.1, h.2.1.carryS hs.1 hb hz, h.2.2.carryS hs.2 hb hz⟩
  mono := fun h hst => ⟨h.1.mono hst, h.2.mono hst⟩
  and := fun h k => ⟨h.1.and k.1, h.2.and k.2⟩
  lt := fun h => ⟨h.2.1.sep, h.2.2.sep⟩

/-- A record. -/
structure Rc where
  seq : Int
  label : Int
  c : Cm
def Rc.cells (r : Rc) : List Value := [.int .i64 r.seq, .int .i64 r.label] ++ r.c.cells
def Rc.agg (r : Rc) : Value := .agg r.cells.toArray
def Rc.In (w : World) (r : Rc) : Prop := i64r r.seq ∧ i64r r.label ∧ r.c.In w
def Rc.Sep (S : Nat → Prop) (r : Rc) : Prop := r.c.Sep S
def Rc.erase (r : Rc) : Rc := ⟨r.seq, r.label, r.c.erase⟩
theorem Rc.cells_len (r : Rc) : r.cells.length = 19 := rfl
def recE : Elem Rc where
  cells := Rc.cells
  size := 19
  In := Rc.In
  Sep := Rc.Sep
  pos := by decide
  len := Rc.cells_len
  one := fun r u hu => by
    unfold Rc.cells at hu
    rcases List.mem_append.1 hu with hu | hu
    · simp at hu
      rcases hu with rfl | rfl <;> rfl
    · exact Cm.oneCell _ u hu
  carry := fun h hs hb hz => ⟨h.1, h.2.1, cmE.carry h.2.2 hs hb hz⟩
  mono := fun h hst => cmE.mono h hst
  and := fun h k => cmE.and h k
  lt := fun h => cmE.lt h.2.2

/-- The bytes of small numbers. -/
def numsB (ns : List Int) : List UInt8 := ns.flatMap fun n => ub n.toNat
def numOk (n : Int) : Bool := decide (0 ≤ n) && decide (n ≤ 10000)
/-- The bytes of a value, or of none at all. -/
def someB (v : Val) : Option (List UInt8) := if v.k = 0 then (bif v.noneB then some [0] else none) else (bif v.RightB then some (1 :: v.enc) else none)
/-- The bytes of a command. -/
def Cm.enc (c : Cm) : Option (List UInt8) :=
  bif c.ints.all numOk then
    (match someB c.key with
    | none => none
    | some a => match someB c.v with
      | none => none
      | some b => some (numsB c.ints ++ a ++ b))
  else none

def rdN (s : ByteArray) (p : Nat) : Option (Nat × Nat) := match readU s p 0 0 with
  | .ok (n, q) => if n ≤ 10000 then some (n, q) else none
  | .error _ => none
def rdSome (s : ByteArray) (p : Nat) : Option (Val × Nat) :=
  if p < s.size then
    (if (byteAt s p).toNat = 0 then some (Val.zero, p + 1) else if (byteAt s p).toNat = 1 then (match readVAt s ((p + 1 : Nat) : Int) with | .ok (v, q) => some (v, q) | .error _ => none) else none)
  else none
/-- What is read as a command. -/
def rdCm (s : ByteArray) (p : Nat) : Option (Cm × Nat) := do
  let (a, p) ← rdN s p
  let (b, p) ← rdN s p
  let (c, p) ← rdN s p
  let (d, p) ← rdN s p
  let (e, p) ← rdN s p
  let (u, p) ← rdSome s p
  let (v, p) ← rdSome s p
  return (⟨a, b, c, d, e, u, v⟩, p)

theorem rdN_back {s : ByteArray} {p : Nat} {n : Int} {rest : List UInt8} (hn : numOk n = true) (h : from_ s p = ub n.toNat ++ rest) : rdN s p = some (n.toNat, p + (ub n.toNat).length) := by
  unfold numOk at hn
  simp at hn
  unfold rdN
  rw [readN_back (by omega) h]
  simp only
  rw [if_pos (by omega)]
/-- Two values of which nobody can tell a difference: both read from the same. -/
def Val.like (u v : Val) : Prop := (v.k ≠ 0 ∧ u.nf = v.nf ∧ u.Kinds) ∨ (v.k = 0 ∧ v.noneB = true ∧ u = Val.zero)
theorem noneB_erase {v : Val} (h : v.noneB = true) : v.erase = Val.zero := by
  unfold Val.noneB at h
  simp only [Bool.and_eq_true, decide_eq_true_eq] at h
  obtain ⟨⟨⟨⟨⟨h1, h2⟩, h3⟩, h4⟩, h5⟩, h6⟩ := h
  rw [Val.erase_eq, h1, h2, h3, List.eq_nil_of_length_eq_zero h5, List.eq_nil_of_length_eq_zero h6]
  have e : v.s = ByteArray.empty := by
    have h7 : v.s.toList.isEmpty = true := by rw [h4]; rfl
    have h8 := congrArg List.length h4
    refine ByteArray.ext (Array.ext' ?_)
    have h9 : v.s.toList = v.s.data.toList := Lib.toList_data v.s
    rw [h9] at h4
    simpa using h4
  rw [e]
  rfl
theorem Val.like.rsame {u v : Val} (h : u.like v) : u.rsame v = true := by
  unfold Val.rsame
  rcases h with ⟨h1, h2, h3⟩ | ⟨h1, h2, rfl⟩
  · rw [(Val.rord_nf u.sz u v (Nat.le_refl _) h3).2 h2]; rfl
  · rw [Val.rord_erase Val.zero.sz Val.zero v (Nat.le_refl _) (noneB_erase h2).symm]; rfl
theorem rdSome_back {s : ByteArray} {w : World} {v : Val} {p : Nat} {l rest : List UInt8} (hi : v.In w) (hl : someB v = some l) (h : from_ s p = l ++ rest) (hp : p ≤ s.size) : ∃ u, rdSome s p = some (u, p + l.length) ∧ u.like v := by
  unfold someB at hl
  by_cases hk : v.k = 0
  · rw [if_pos hk] at hl
    cases hN : v.noneB with
    | false => rw [hN] at hl; cases hl
    | true =>
      rw [hN] at hl
      injection hl with hl
      subst hl
      obtain ⟨h1, h2, _⟩ := from_cons h
      refine ⟨Val.zero, ?_, .inr ⟨hk, hN, rfl⟩⟩
      unfold rdSome
      rw [if_pos h1, h2, if_pos (by rfl)]
      rfl
  · rw [if_neg hk] at hl
    cases hR : v.RightB with
    | false => rw [hR] at hl; cases hl
    | true =>
      rw [hR] at hl
      injection hl with hl
      subst hl
      obtain ⟨h1, h2, h3⟩ := from_cons h
      obtain ⟨g1, g2⟩ := right_sz hR
      obtain ⟨u, h4, h5, h6⟩ := Val.back (w := w) 12 v 1 (p + 1) 0 _ (by omega) g2 hi (by omega) h3
      injection h5 with h6' h7
      refine ⟨u, ?_, .inl ⟨hk, h6', Val.kinds_of_right u.sz u 1 (Nat.le_refl _) h6⟩⟩
      unfold rdSome
      rw [if_pos h1, h2, if_neg (by decide), if_pos (by rfl)]
      have hrv : readVAt s ((p + 1 : Nat) : Int) = .ok (u, p + 1 + v.enc.length) := by
        unfold readVAt
        rw [if_pos (by omega), Int.toNat_natCast]
        unfold readV
        rw [h4]
        simp only
        rw [right_of (by omega) h6]
        rfl
      rw [hrv]
      simp only [List.length_cons]
      congr 2
      omega
/-- Two commands of which nobody can tell a difference. -/
def Cm.like (u c : Cm) : Prop := u.ints = c.ints ∧ u.key.like c.key ∧ u.v.like c.v
theorem from_app_le {s : ByteArray} {p : Nat} {a l : List UInt8} (hp : p ≤ s.size) (h : from_ s p = a ++ l) : p + a.length ≤ s.size := by
  have h1 := congrArg List.length h
  rw [from_len, List.length_append] at h1
  omega
theorem rdCm_back {s : ByteArray} {w : World} {c : Cm} {p : Nat} {l rest : List UInt8} (hi : c.In w) (hl : c.enc = some l) (h : from_ s p = l ++ rest) (hp : p ≤ s.size) : ∃ u, rdCm s p = some (u, p + l.length) ∧ u.like c := by
  unfold Cm.enc at hl
  cases hA : c.ints.all numOk with
  | false => rw [hA] at hl; cases hl
  | true =>
    rw [hA] at hl
    simp only [cond_true] at hl
    cases hk : someB c.key with
    | none => rw [hk] at hl; cases hl
    | some a =>
      rw [hk] at hl
      simp only at hl
      cases hv : someB c.v with
      | none => rw [hv] at hl; cases hl
      | some b =>
        rw [hv] at hl
        injection hl with hl
        subst hl
        simp only [Cm.ints, List.all_cons, List.all_nil, Bool.and_true, Bool.and_eq_true] at hA
        obtain ⟨n1, n2, n3, n4, n5⟩ := hA
        simp only [numsB, Cm.ints, List.flatMap_cons, List.flatMap_nil, List.append_nil, List.append_assoc] at h
        have p1 := from_app_le hp h
        have h1 := from_app h
        have p2 := from_app_le p1 h1
        have h2 := from_app h1
        have p3 := from_app_le p2 h2
        have h3 := from_app h2
        have p4 := from_app_le p3 h3
        have h4 := from_app h3
        have p5 := from_app_le p4 h4
        have h5 := from_app h4
        have p6 := from_app_le p5 h5
        have h6 := from_app h5
        obtain ⟨u1, r1, k1⟩ := rdSome_back hi.2.1 hk h5 p5
        obtain ⟨u2, r2, k2⟩ := rdSome_back hi.2.2 hv h6 p6
        refine ⟨⟨c.k.toNat, c.nd.toNat, c.il.toNat, c.inn.toNat, c.n.toNat, u1, u2⟩, ?_, ?_, k1, k2⟩
        · unfold rdCm
          rw [rdN_back n1 h]
          simp only [Option.bind_eq_bind, Option.bind_some]
          rw [rdN_back n2 h1]
          simp only [Option.bind_some]
          rw [rdN_back n3 h2]
          simp only [Option.bind_some]
          rw [rdN_back n4 h3]
          simp only [Option.bind_some]
          rw [rdN_back n5 h4]
          simp only [Option.bind_some]
          rw [r1]
          simp only [Option.bind_some]
          rw [r2]
          simp only [Option.bind_some, numsB, Cm.ints, List.flatMap_cons, List.flatMap_nil, List.append_nil, List.length_append]
          show some _ = some _
          congr 2
          omega
        · unfold numOk at n1 n2 n3 n4 n5
          simp at n1 n2 n3 n4 n5
          simp only [Cm.ints]
          rw [Int.toNat_of_nonneg n1.1, Int.toNat_of_nonneg n2.1, Int.toNat_of_nonneg n3.1, Int.toNat_of_nonneg n4.1, Int.toNat_of_nonneg n5.1]
end Go.Proofs.YtaamihdibpioaaaGreat

/- Journals as plain data: what stands in their segments, what is read of them. Plain lemmas, no program in sight. -/
namespace Go.Proofs.YtaamihdibpioaaaGreat.Jr
set_option linter.unusedVariables false
open Go.RowKit Go.Proofs.YtaamihdibpioaaaGreat.Crc

/-- A record that was written: its number, its label, its command's bytes. -/
structure He where
  seq : Nat
  label : Nat
  bytes : List UInt8
def num4 (n : Nat) : List UInt8 := [UInt8.ofNat (n / 16777216 % 256), UInt8.ofNat (n / 65536 % 256), UInt8.ofNat (n / 256 % 256), UInt8.ofNat (n % 256)]
def payB (n : Nat) (l : List UInt8) : ByteArray := ⟨(num4 n ++ l).toArray⟩
theorem payB_size (n : Nat) (l : List UInt8) : (payB n l).size = 4 + l.length := by
  rw [← size_list]
  simp [payB, num4]
  omega
def He.pay (h : He) : ByteArray := payB h.seq h.bytes
def segL (H : List He) (i : Nat) : List He := H.filter fun h => decide (h.label = i)
def segOf (H : List He) (i : Nat) : List ByteArray := (segL H i).map He.pay
def He.Ok (n : Nat) (h : He) : Prop := h.bytes.length + 4 ≤ 2000 ∧ h.label < n ∧ 1 ≤ h.seq
theorem He.Ok.pay {n : Nat} {h : He} (k : h.Ok n) : YtaamihdibpioaaaGreat.Ok h.pay := by
  unfold YtaamihdibpioaaaGreat.Ok He.pay
  rw [payB_size]
  have := k.1
  omega

/-- What stands in the segments: H, in order, and behind each one what is no frame. -/
structure Hist (n : Nat) (rows : List ByteArray) (H : List He) (r : Nat → ByteArray) : Prop where
  rows : ∀ i : Nat, i < n → rowOf rows (i : Int) = cat (segOf H i) ++ r i
  tails : ∀ i, i < n → frameAt (r i) = false
  ok : ∀ h, h ∈ H → h.Ok n
  up : H.Pairwise fun a b => a.seq < b.seq
theorem segOf_ok {n : Nat} {H : List He} (h : ∀ x, x ∈ H → x.Ok n) (i : Nat) : ∀ p, p ∈ segOf H i → YtaamihdibpioaaaGreat.Ok p := by
  intro p hp
  obtain ⟨x, hx, rfl⟩ := List.mem_map.1 hp
  exact (h x (List.mem_filter.1 hx).1).pay
theorem Hist.all {n : Nat} {rows : List ByteArray} {H : List He} {r : Nat → ByteArray} (h : Hist n rows H r) {i : Nat} (hi : i < n) : allOf (rowOf rows (i : Int)) = (segOf H i, ((cat (segOf H i)).size : Int)) := by
  rw [h.rows i hi]
  exact all_of_cat (h.tails i hi) (segOf_ok h.ok i)

/-- A journal: how many labels, the segments, the next number, whether it is torn. -/
structure Jt where
  n : Nat
  rows : List ByteArray
  next : Nat
  torn : Bool
structure Good (s : Jt) (H : List He) (r : Nat → ByteArray) : Prop where
  hist : Hist s.n s.rows H r
  dk : Dk s.n s.rows
  clean : s.torn = false → ∀ i, i < s.n → r i = ByteArray.empty
  below : ∀ h, h ∈ H → h.seq < s.next + (if s.torn = true then 1 else 0)
  pos : 1 ≤ s.next
/-- The error of a write. -/
def jE (s : Jt) (label : Int) (enc : Option (List UInt8)) : Int :=
  bif s.torn then 14 else bif isSeg s.n label then (match enc with
    | none => 5
    | some l => if 2000 < 4 + l.length then 5 else tearE s.n s.rows label (frameOf (payB s.next l)))
  else 3
def jF (s : Jt) (enc : Option (List UInt8)) : ByteArray := frameOf (payB s.next (enc.getD []))
def jWrite (s : Jt) (label : Int) (enc : Option (List UInt8)) : Jt :=
  if jE s label enc = 0 then { s with rows := tearR s.n s.rows label (jF s enc) ((jF s enc).size : Int), next := s.next + 1 } else s
def jCrash (s : Jt) (label : Int) (enc : Option (List UInt8)) (keep : Int) : Jt :=
  if jE s label enc = 0 then { s with rows := tearR s.n s.rows label (jF s enc) keep, torn := true } else s
theorem jE_zero {s : Jt} {label : Int} {enc : Option (List UInt8)} (h : jE s label enc = 0) :
    s.torn = false ∧ isSeg s.n label = true ∧ ∃ l, enc = some l ∧ l.length + 4 ≤ 2000 ∧ fits s.rows label (frameOf (payB s.next l)) = true := by
  unfold jE at h
  cases ht : s.torn with
  | true => rw [ht] at h; simp at h
  | false =>
    rw [ht] at h
    cases hs : isSeg s.n label with
    | false => rw [hs] at h; simp at h
    | true =>
      rw [hs] at h
      cases enc with
      | none => simp at h
      | some l =>
        simp only [cond_false, cond_true] at h
        by_cases hl : 2000 < 4 + l.length
        · rw [if_pos hl] at h; omega
        · rw [if_neg hl] at h
          refine ⟨rfl, rfl, l, rfl, by omega, ?_⟩
          unfold tearE at h
          rw [hs] at h
          cases hf : fits s.rows label (frameOf (payB s.next l)) with
          | true => rfl
          | false => rw [hf] at h; simp at h
theorem cat_snoc (ps : List ByteArray) (p : ByteArray) : cat (ps ++ [p]) = cat ps ++ frameOf p := by
  rw [cat_append]
  simp [cat]
theorem segL_snoc (H : List He) (x : He) (i : Nat) : segL (H ++ [x]) i = if x.label = i then segL H i ++ [x] else segL H i := by
  unfold segL
  rw [List.filter_append]
  by_cases h : x.label = i
  · rw [if_pos h]; simp [h]
  · rw [if_neg h]; simp [h]
theorem segOf_snoc (H : List He) (x : He) (i : Nat) : segOf (H ++ [x]) i = if x.label = i then segOf H i ++ [x.pay] else segOf H i := by
  unfold segOf
  rw [segL_snoc]
  split <;> simp
theorem rowOf_set {rows : List ByteArray} {k : Nat} {x : ByteArray} (hk : k < rows.length) (i : Nat) : rowOf (rows.set k x) (i : Int) = if i = k then x else rowOf rows (i : Int) := by
  unfold rowOf
  rw [Int.toNat_natCast]
  by_cases h : i = k
  · subst h
    rw [if_pos rfl]
    simp [List.getD, hk]
  · rw [if_neg h]
    simp [List.getD, List.getElem?_set, Ne.symm h]
theorem up_snoc {H : List He} {x : He} {m : Nat} (h : H.Pairwise fun a b => a.seq < b.seq) (hb : ∀ y, y ∈ H → y.seq < m) (hx : x.seq = m) : (H ++ [x]).Pairwise fun a b => a.seq < b.seq := by
  rw [List.pairwise_append]
  refine ⟨h, by simp, fun a ha b hb' => ?_⟩
  have e : b = x := by simpa using hb'
  subst e
  have := hb a ha
  omega
theorem kept_of (f : ByteArray) (keep : Int) : (kept f keep = f ∧ f.size ≤ keep.toNat) ∨ ∃ k, k < f.size ∧ kept f keep = f.extract 0 k := by
  unfold kept
  by_cases h : f.size ≤ keep.toNat
  · left
    rw [Nat.min_eq_right h]
    exact ⟨by simp, h⟩
  · right
    exact ⟨keep.toNat, by omega, by rw [Nat.min_eq_left (by omega)]⟩
theorem good_write {s : Jt} {H : List He} {r : Nat → ByteArray} {label : Int} {enc : Option (List UInt8)} (h : Good s H r) (he : jE s label enc = 0) :
    Good (jWrite s label enc) (H ++ [⟨s.next, label.toNat, enc.getD []⟩]) r := by
  obtain ⟨ht, hs, l, rfl, hl, hf⟩ := jE_zero he
  obtain ⟨k, rfl, hk, hk8, hrk, hsz⟩ := h.dk.at_ hs
  unfold jWrite
  rw [if_pos he]
  have hp : jF s (some l) = frameOf (payB s.next l) := rfl
  have hR : tearR s.n s.rows (k : Int) (jF s (some l)) ((jF s (some l)).size : Int) = s.rows.set k (rowOf s.rows (k : Int) ++ frameOf (payB s.next l)) := by
    unfold tearR
    rw [hs, hp, hf, kept_all (Int.le_refl _)]
    rfl
  have hlen : k < s.rows.length := by rw [h.dk.len]; exact hk8
  have hrc := h.clean ht
  refine ⟨⟨fun i hi => ?_, h.hist.tails, fun x hx => ?_, up_snoc h.hist.up (fun y hy => ?_) rfl⟩, h.dk.tear _ _ _, fun _ => hrc, fun x hx => ?_, by show 1 ≤ s.next + 1; omega⟩
  · show rowOf (tearR _ _ _ _ _) _ = _
    rw [hR, rowOf_set hlen, segOf_snoc]
    by_cases hik : i = k
    · subst hik
      rw [if_pos rfl, if_pos (by simp), cat_snoc, h.hist.rows i hi, hrc i hi]
      simp [He.pay]
    · rw [if_neg hik, if_neg (by simp; omega)]
      exact h.hist.rows i hi
  · rcases List.mem_append.1 hx with hx | hx
    · exact h.hist.ok x hx
    · obtain rfl : x = _ := by simpa using hx
      exact ⟨by simpa using hl, by show (k : Int).toNat < s.n; omega, h.pos⟩
  · have := h.below y hy
    rw [ht] at this
    simpa using this
  · show x.seq < s.next + 1 + (if s.torn = true then 1 else 0)
    rcases List.mem_append.1 hx with hx | hx
    · have := h.below x hx
      omega
    · obtain rfl : x = _ := by simpa using hx
      show s.next < _
      omega
theorem good_crash {s : Jt} {H : List He} {r : Nat → ByteArray} {label : Int} {enc : Option (List UInt8)} {keep : Int} (h : Good s H r) (he : jE s label enc = 0) :
    ∃ r', Good (jCrash s label enc keep) (if (jF s enc).size ≤ keep.toNat then H ++ [⟨s.next, label.toNat, enc.getD []⟩] else H) r' := by
  obtain ⟨ht, hs, l, rfl, hl, hf⟩ := jE_zero he
  obtain ⟨k, rfl, hk, hk8, hrk, hsz⟩ := h.dk.at_ hs
  unfold jCrash
  rw [if_pos he]
  have hp : jF s (some l) = frameOf (payB s.next l) := rfl
  have hok : YtaamihdibpioaaaGreat.Ok (payB s.next l) := by unfold YtaamihdibpioaaaGreat.Ok; rw [payB_size]; omega
  have hR : tearR s.n s.rows (k : Int) (jF s (some l)) keep = s.rows.set k (rowOf s.rows (k : Int) ++ kept (jF s (some l)) keep) := by
    unfold tearR
    rw [hs, hp, hf]
    rfl
  have hlen : k < s.rows.length := by rw [h.dk.len]; exact hk8
  have hrc := h.clean ht
  have hb : ∀ y, y ∈ H → y.seq < s.next := fun y hy => by
    have := h.below y hy
    rw [ht] at this
    simpa using this
  rcases kept_of (jF s (some l)) keep with ⟨hkp, hsz2⟩ | ⟨c, hc, hkp⟩
  · rw [if_pos hsz2]
    refine ⟨r, ⟨⟨fun i hi => ?_, h.hist.tails, fun x hx => ?_, up_snoc h.hist.up hb rfl⟩, h.dk.tear _ _ _, (fun hq => by cases hq), fun x hx => ?_, h.pos⟩⟩
    · show rowOf (tearR _ _ _ _ _) _ = _
      rw [hR, rowOf_set hlen, segOf_snoc, hkp]
      by_cases hik : i = k
      · subst hik
        rw [if_pos rfl, if_pos (by simp), cat_snoc, h.hist.rows i hi, hrc i hi]
        simp [He.pay, hp]
      · rw [if_neg hik, if_neg (by simp; omega)]
        exact h.hist.rows i hi
    · rcases List.mem_append.1 hx with hx | hx
      · exact h.hist.ok x hx
      · obtain rfl : x = _ := by simpa using hx
        exact ⟨by simpa using hl, by show (k : Int).toNat < s.n; omega, h.pos⟩
    · show x.seq < s.next + (if true = true then 1 else 0)
      rcases List.mem_append.1 hx with hx | hx
      · have := hb x hx
        simp
        omega
      · obtain rfl : x = _ := by simpa using hx
        show s.next < _
        simp
  · have hns : ¬ (jF s (some l)).size ≤ keep.toNat := by
      intro hh
      rw [kept, Nat.min_eq_right hh] at hkp
      have h1 := congrArg ByteArray.size hkp
      simp at h1
      omega
    rw [if_neg hns]
    refine ⟨fun i => if i = k then kept (jF s (some l)) keep else r i, ⟨⟨fun i hi => ?_, fun i hi => ?_, h.hist.ok, h.hist.up⟩, h.dk.tear _ _ _, (fun hq => by cases hq), fun x hx => ?_, h.pos⟩⟩
    · show rowOf (tearR _ _ _ _ _) _ = _
      rw [hR, rowOf_set hlen]
      by_cases hik : i = k
      · subst hik
        rw [if_pos rfl, if_pos rfl, h.hist.rows i hi, hrc i hi]
        simp
      · rw [if_neg hik, if_neg hik]
        exact h.hist.rows i hi
    · show frameAt (if i = k then _ else _) = false
      by_cases hik : i = k
      · rw [if_pos hik, hkp, hp]
        exact piece_none hok (by rw [← hp]; exact hc)
      · rw [if_neg hik]
        exact h.hist.tails i hi
    · show x.seq < s.next + (if true = true then 1 else 0)
      have := hb x hx
      simp
      omega

/-- The segments once those up to k are cut. -/
def cutAll (n : Nat) (rows : List ByteArray) : Nat → List ByteArray
  | 0 => rows
  | k + 1 => cutR n (cutAll n rows k) (k : Int) (allOf (rowOf (cutAll n rows k) (k : Int))).2
theorem cutAll_dk {n : Nat} {rows : List ByteArray} (h : Dk n rows) : ∀ k, Dk n (cutAll n rows k)
  | 0 => h
  | k + 1 => (cutAll_dk h k).cut _ _
theorem hist_cut {n : Nat} {rows : List ByteArray} {H : List He} {r : Nat → ByteArray} (hd : Dk n rows) (h : Hist n rows H r) : ∀ k, k ≤ n → Hist n (cutAll n rows k) H (fun i => if i < k then ByteArray.empty else r i)
  | 0, _ => by
    have e : (fun i => if i < 0 then ByteArray.empty else r i) = r := by funext i; simp
    rw [e]
    exact h
  | k + 1, hk => by
    have ih := hist_cut hd h k (by omega)
    have hdk := cutAll_dk hd k
    obtain ⟨R, hR⟩ : ∃ R, R = cutAll n rows k := ⟨_, rfl⟩
    rw [← hR] at ih hdk
    have hall := ih.all (show k < n by omega)
    have hrow := ih.rows k (by omega)
    rw [if_neg (by omega)] at hrow
    have hn8 := hdk.n8
    have hlen : k < R.length := by rw [hdk.len]; omega
    have hs : isSeg n (k : Int) = true := by unfold isSeg; simp; omega
    have hw : within R (k : Int) ((cat (segOf H k)).size : Int) = true := by
      unfold within
      rw [hrow]
      simp [ByteArray.size_append]
      omega
    have hc : cutAll n rows (k + 1) = R.set k (cat (segOf H k)) := by
      show cutR n (cutAll n rows k) (k : Int) (allOf (rowOf (cutAll n rows k) (k : Int))).2 = _
      rw [← hR, hall]
      unfold cutR
      rw [hs, hw]
      simp only [Bool.and_self, cond_true, Int.toNat_natCast]
      rw [hrow, take_front]
    rw [hc]
    refine ⟨fun i hi => ?_, fun i hi => ?_, ih.ok, ih.up⟩
    · rw [rowOf_set hlen]
      by_cases hik : i = k
      · subst hik
        rw [if_pos rfl, if_pos (by omega)]
        simp
      · rw [if_neg hik, ih.rows i hi]
        by_cases h1 : i < k
        · rw [if_pos h1, if_pos (by omega)]
        · rw [if_neg h1, if_neg (by omega)]
    · show frameAt (if i < k + 1 then _ else _) = false
      by_cases h1 : i < k + 1
      · rw [if_pos h1]; exact empty_none
      · rw [if_neg h1]; exact h.tails i hi
def nextOf (H : List He) : Nat := match H.getLast? with
  | none => 1
  | some h => h.seq + 1
def jRecover (s : Jt) (H : List He) : Jt := ⟨s.n, cutAll s.n s.rows s.n, nextOf H, false⟩
theorem nextOf_pos (H : List He) : 1 ≤ nextOf H := by
  unfold nextOf
  split <;> omega
theorem nextOf_above : ∀ {H : List He}, H.Pairwise (fun a b => a.seq < b.seq) → ∀ h, h ∈ H → h.seq < nextOf H := by
  intro H hp h hh
  unfold nextOf
  obtain ⟨L, x, rfl⟩ : ∃ L x, H = L ++ [x] := ⟨H.dropLast, H.getLast (List.ne_nil_of_mem hh), (List.dropLast_concat_getLast _).symm⟩
  simp only [List.getLast?_append, List.getLast?_singleton, Option.some_or]
  rw [List.pairwise_append] at hp
  rcases List.mem_append.1 hh with hh | hh
  · have := hp.2.2 h hh x (by simp)
    omega
  · obtain rfl : h = x := by simpa using hh
    omega
theorem good_recover {s : Jt} {H : List He} {r : Nat → ByteArray} (h : Good s H r) : Good (jRecover s H) H (fun _ => ByteArray.empty) := by
  have hc := hist_cut h.dk h.hist s.n (Nat.le_refl _)
  refine ⟨⟨fun i hi => ?_, fun i hi => empty_none, h.hist.ok, h.hist.up⟩, cutAll_dk h.dk _, fun _ _ _ => rfl, fun x hx => ?_, nextOf_pos H⟩
  · have := hc.rows i hi
    rw [if_pos (show i < s.n from hi)] at this
    exact this
  · show x.seq < nextOf H + (if false = true then 1 else 0)
    have := nextOf_above h.hist.up x hx
    simpa using this
/-- A journal that was just made. -/
def jNew (n : Nat) : Jt := ⟨n, noRows, 1, false⟩
theorem good_new {n : Nat} (h1 : 1 ≤ n) (h8 : n ≤ 8) : Good (jNew n) [] (fun _ => ByteArray.empty) := by
  refine ⟨⟨fun i hi => ?_, fun _ _ => empty_none, fun x hx => by simp at hx, by simp⟩, ⟨by simp [jNew, noRows], h1, h8, fun r hr => ?_⟩, fun _ _ _ => rfl, fun x hx => by simp at hx, Nat.le_refl _⟩
  · show rowOf noRows (i : Int) = _
    have hi8 : i < 8 := Nat.lt_of_lt_of_le hi h8
    have e : rowOf noRows (i : Int) = ByteArray.empty := by
      show noRows.getD (i : Int).toNat ByteArray.empty = _
      rw [Int.toNat_natCast]
      match i, hi8 with
      | 0, _ => rfl
      | 1, _ => rfl
      | 2, _ => rfl
      | 3, _ => rfl
      | 4, _ => rfl
      | 5, _ => rfl
      | 6, _ => rfl
      | 7, _ => rfl
    rw [e]
    simp [segOf, segL, cat]
  · have : r = ByteArray.empty := by
      unfold jNew noRows at hr
      simpa using (List.mem_replicate.1 hr).2
    subst this
    simp

/-- All records, segment by segment. -/
def inSegs (H : List He) : Nat → List He
  | 0 => []
  | n + 1 => inSegs H n ++ segL H n
theorem filter_two (p q r : He → Bool) (h : ∀ a, r a = (p a || q a)) (hd : ∀ a, p a = true → q a = false) : ∀ H : List He, (H.filter p ++ H.filter q).Perm (H.filter r)
  | [] => by simp
  | a :: H => by
    have ih := filter_two p q r h hd H
    cases hp : p a with
    | true =>
      have hq := hd a hp
      have hr : r a = true := by rw [h, hp]; rfl
      simp only [List.filter_cons, hp, hq, hr, if_true, Bool.false_eq_true, if_false, List.cons_append]
      exact ih.cons a
    | false =>
      cases hq : q a with
      | true =>
        have hr : r a = true := by rw [h, hq]; simp
        simp only [List.filter_cons, hp, hq, hr, if_true, Bool.false_eq_true, if_false]
        exact List.perm_middle.trans (ih.cons a)
      | false =>
        have hr : r a = false := by rw [h, hp, hq]; rfl
        simp only [List.filter_cons, hp, hq, hr, Bool.false_eq_true, if_false]
        exact ih
theorem inSegs_filter (H : List He) : ∀ n, (inSegs H n).Perm (H.filter fun h => decide (h.label < n))
  | 0 => by
    have e : (H.filter fun h => decide (h.label < 0)) = [] := List.filter_eq_nil_iff.2 (fun a _ => by simp)
    rw [e]
    exact List.Perm.refl _
  | n + 1 => by
    have ih := inSegs_filter H n
    refine (ih.append_right (segL H n)).trans ?_
    exact filter_two _ _ _ (fun a => by
      by_cases h1 : a.label < n
      · simp [h1]; omega
      · by_cases h2 : a.label = n
        · simp [h2]
        · simp [h1, h2]; omega) (fun a ha => by simp at ha ⊢; omega) H
theorem inSegs_perm {n : Nat} {H : List He} (h : ∀ x, x ∈ H → x.label < n) : (inSegs H n).Perm H := by
  have := inSegs_filter H n
  rw [List.filter_eq_self.2 (fun a ha => by simpa using h a ha)] at this
  exact this
/-- Two lists of the same things, both rising, the one strictly: they are the same. -/
theorem rising_same {A : Type} (key : A → Int) : ∀ {L M : List A}, L.Perm M → M.Pairwise (fun a b => key a < key b) → L.Pairwise (fun a b => key a ≤ key b) → L = M
  | [], M, h, _, _ => by
    have := h.length_eq
    exact (List.eq_nil_of_length_eq_zero (by simpa using this.symm)).symm
  | a :: L, [], h, _, _ => by
    have := h.length_eq
    simp at this
  | a :: L, b :: M, h, hm, hl => by
    rw [List.pairwise_cons] at hm hl
    have hab : a = b := by
      have h1 : a ∈ b :: M := h.subset (by simp)
      have h2 : b ∈ a :: L := h.symm.subset (by simp)
      rcases List.mem_cons.1 h1 with h1 | h1
      · exact h1
      · rcases List.mem_cons.1 h2 with h2 | h2
        · exact h2.symm
        · have := hm.1 a h1
          have := hl.1 b h2
          omega
    subst hab
    rw [rising_same key (List.Perm.cons_inv h) hm.2 hl.2]

/-- What a record is read as. -/
def readC (p : ByteArray) : Cm := match rdCm p (min 4 p.size) with
  | some (c, _) => c
  | none => Cm.zero
def He.rc (h : He) : Rc := ⟨h.seq, h.label, readC h.pay⟩
end Go.Proofs.YtaamihdibpioaaaGreat.Jr

/- pack's writer: must, num, whole. -/
namespace Go.Proofs.YtaamihdibpioaaaGreat.Pk
set_option linter.unusedVariables false
open Go.RowKit

def pgave (k : Int) : Ending := .panicked [{ v := .iface 25 (.int .i64 k), recovered := false }]
theorem pmust_true (b : Bool) (k : Int) (w : World) (h : b = true) : Calls Tryz.prog 95 #[.bool b, .int .i64 k] w fun e w' => e = .returned (.tuple #[]) ∧ w = w' := by
  subst h
  go_enter Tryz.func95, Tryz.ntmps95
  go_wp2
  go_end0
  exact ⟨rfl, rfl⟩
theorem pmust_false (b : Bool) (k : Int) (w : World) (h : b = false) : Calls Tryz.prog 95 #[.bool b, .int .i64 k] w fun e w' => e = pgave k ∧ w = w' := by
  subst h
  unfold pgave
  go_enter Tryz.func95, Tryz.ntmps95
  go_wp2
  exact ⟨rfl, rfl, rfl⟩

theorem WB.below {w w' : World} {B b : Nat} {l : List UInt8} (h : WB w B b l) (hb : Below w.heap.size w w') : WB w' B b l := by
  have key : ∀ p, Lib.BuilderAt 157 5 B b p (Lib.byteCells l) w → Lib.BuilderAt 157 5 B b p (Lib.byteCells l) w' := fun p h => by
    have hlt := h.lt
    obtain ⟨h1, v, h2, h3, h4⟩ := h
    exact ⟨h1, v, (hb.block b hlt).trans h2, rowed_own_keep (fun k _ hk => hb.block k hk) h3, h4⟩
  rcases h with h | h
  · exact .inl (key _ h)
  · exact .inr (key _ h)
end Go.Proofs.YtaamihdibpioaaaGreat.Pk

/- pack's writer: num, whole. -/
namespace Go.Proofs.YtaamihdibpioaaaGreat.Pk
set_option linter.unusedVariables false
open Go.RowKit

theorem KeepT.of_below {b : Nat} {w w' : World} (h : Below w.heap.size w w') : KeepT b w w' := fun g t cs h1 h2 h3 => h3.below h h3.lt
/-- What a writer's method did: it wrote, or gave up. -/
def POr (r : Option (List UInt8)) (B b : Nat) (w : World) (e : Ending) (w' : World) : Prop :=
  Below B w w' ∧ KeepT b w w' ∧ match r with
  | some l => e = .returned (.tuple #[]) ∧ WB w' B b l
  | none => e = pgave 5
theorem numsB_snoc (ns : List Int) (x : Int) : numsB (ns ++ [x]) = numsB ns ++ ub x.toNat := by simp [numsB]
theorem numsB_len : ∀ (ns : List Int), ns.all numOk = true → (numsB ns).length ≤ ns.length * 10
  | [], _ => by simp [numsB]
  | x :: ns, h => by
    simp only [List.all_cons, Bool.and_eq_true] at h
    have ih := numsB_len ns h.2
    have hx := h.1
    unfold numOk at hx
    simp at hx
    have h1 := ub_len64 (n := x.toNat) (by omega)
    simp only [numsB, List.flatMap_cons, List.length_append, List.length_cons] at ih ⊢
    omega
set_option maxHeartbeats 4000000 in
set_option maxRecDepth 100000 in
theorem num_any (B b S c : Nat) (l : List UInt8) (ns : List Int) (w : World) (h : WB w B b l) (hB : B ≤ w.heap.size) (hS : Blk w S 3 (ns.map (Value.int .i64)).toArray) (hSb : S ≠ b) (hn : ns.length ≤ 64) (hc : ns.length ≤ c) (hl : l.length ≤ 1000000) :
    Calls Tryz.prog 65 #[.pointer (some ⟨b, 0, none⟩), .slice (some ⟨S, 0, none⟩) ns.length c] w fun e w' => POr (bif ns.all numOk then some (l ++ numsB ns) else none) B b w e w' := by
  obtain ⟨n, hnn⟩ : ∃ n, n = ns.length := ⟨_, rfl⟩
  obtain ⟨R, hR⟩ : ∃ R, R = ns.all numOk := ⟨_, rfl⟩
  have hn' := hn
  rw [← hnn] at hn hc ⊢
  rw [← hR]
  have HN := Lib.hid hnn; have HR := Lib.hid hR; have HS := Lib.hid hS; have HW := Lib.hid h; have HBS := Lib.hid hB; have HSB := Lib.hid hSb; have HL := Lib.hid hl; have HN6 := Lib.hid hn'
  clear hnn hR hS h hB hSb hl hn'
  go_enter Tryz.func65, Tryz.ntmps65
  go_wp2_with fail
  go_loopw [8] (fun iv wr => ∃ i : Nat, i ≤ n ∧ iv = .int .i64 (i : Int) ∧ Hid ((ns.take i).all numOk = true) ∧ Hid (WB wr B b (l ++ numsB (ns.take i))) ∧ Hid (Below B w wr) ∧ Hid (KeepT b w wr)) (fun iv _ => n - (intOf iv).toNat)
  case atStart => exact ⟨0, by omega, rfl, Lib.hid rfl, Lib.hid (by simpa [numsB] using HW.out), Lib.hid (Below.refl _ _), Lib.hid (KeepT.refl _ _)⟩
  case round =>
    obtain ⟨i, hi, rfl, HAL, HWR, HBL, HKT⟩ := hrel
    by_cases hlt : i < n
    · have hil : i < ns.length := by rw [← HN.out]; exact hlt
      obtain ⟨x, hx⟩ : ∃ x, x = ns[i]'hil := ⟨_, rfl⟩
      have hSr := HKT.out S _ _ (by decide) HSB.out HS.out
      have c0 : wr.cell? ⟨S, i, none⟩ = some (.int .i64 x) := by
        rw [hSr.cell]
        simp [hil, hx]
      have hk0 : (0 : Int) ≤ (i : Int) := by omega
      have hk1 : (i : Int) < (n : Int) := by omega
      have htk : ns.take (i + 1) = ns.take i ++ [x] := by rw [hx, List.take_succ_eq_append_getElem hil]
      have HTK := Lib.hid htk
      have hmem : x ∈ ns := by rw [hx]; exact List.getElem_mem hil
      have HBAD : Hid (numOk x = false → R = false) := Lib.hid (fun h => by
        rw [HR.out, Bool.eq_false_iff]
        intro hall
        rw [List.all_eq_true.1 hall x hmem] at h
        cases h)
      clear hSr hx hmem htk
      by_cases h0 : 0 ≤ x
      · by_cases h1 : x ≤ 10000
        · have j0 : decide ((0 : Int) ≤ x) = true := by simpa using h0
          have j1 : decide (x ≤ (10000 : Int)) = true := by simpa using h1
          obtain ⟨m, rfl⟩ := Int.eq_ofNat_of_zero_le h0
          have hm : m < 18446744073709551616 := by omega
          have hub := ub_len64 hm
          have hlen : (l ++ numsB (ns.take i)).length + (uintS m).size ≤ 140737488355328 := by
            have h1 := numsB_len _ HAL.out
            have h2 : (ns.take i).length ≤ 64 := by rw [List.length_take]; omega
            have h3 : (uintS m).size = (ub m).length := by rw [← size_list]; simp [uintS]
            have := HL.out
            rw [List.length_append, h3]
            omega
          have hcv : IntKind.u64.wrap (m : Int) = m := by rw [IntKind.wrap_u64]; omega
          have hwr : B ≤ wr.heap.size := Nat.le_trans HBS.out HBL.out.size
          have HUI := Lib.hid (uint_any m wr.drew hm)
          have HLE := Lib.hid hlen
          have HOK : Hid (numOk (m : Int) = true) := Lib.hid (by unfold numOk; simp; omega)
          clear hlen hub
          go_wp2_with fail
          refine (pmust_true _ _ _ rfl).mono ?_
          rintro e w2 ⟨rfl, rfl⟩
          go_wp2_with fail
          go_region_law (first
            | (go_simp; go_at_call 97; refine HUI.out.mono ?_; rintro e w3 ⟨rfl, hb3⟩; have HW3 := Lib.hid (HWR.out.below ((Below.refl wr.heap.size wr).drew.trans hb3)); have HB3 := Lib.hid hb3; clear hb3)
            | (go_simp; go_at_call 96; refine (wstr_any B b _ _ _ HW3.out HLE.out (Nat.le_trans hwr HB3.out.size)).mono ?_; rintro e w4 ⟨rfl, hw4, hb4, hk4⟩; have HW4 := Lib.hid hw4; have HB4 := Lib.hid hb4; have HK4 := Lib.hid hk4; clear hw4 hb4 hk4)
            | fail)
          all_goals
            go_wp2
            go_roundw
            case rel =>
              refine ⟨i + 1, by omega, rfl, Lib.hid ?_, Lib.hid ?_, Lib.hid ?_, Lib.hid ?_⟩
              · rw [HTK.out, List.all_append, HAL.out]; simp [HOK.out]
              · rw [HTK.out, numsB_snoc, ← List.append_assoc]; exact HW4.out
              · exact HBL.out.trans (((Below.refl wr.heap.size wr).drew.trans HB3.out).mono hwr |>.trans HB4.out)
              · exact HKT.out.trans ((KeepT.of_below ((Below.refl wr.heap.size wr).drew.trans HB3.out)).trans HK4.out)
            case measure => simp [intOf]; omega
        · have j0 : decide ((0 : Int) ≤ x) = true := by simpa using h0
          have j1 : decide (x ≤ (10000 : Int)) = false := by simpa using h1
          have HRF : Hid (R = false) := Lib.hid (HBAD.out (by unfold numOk; rw [j1]; simp))
          go_wp2_with fail
          refine (pmust_false _ _ _ rfl).mono ?_
          rintro e w2 ⟨rfl, rfl⟩
          unfold pgave
          go_wp2
          rw [HRF.out]
          exact ⟨rfl, HBL.out, HKT.out, rfl⟩
      · have j0 : decide ((0 : Int) ≤ x) = false := by simpa using h0
        have HRF : Hid (R = false) := Lib.hid (HBAD.out (by unfold numOk; rw [j0]; simp))
        go_wp2_with fail
        refine (pmust_false _ _ _ rfl).mono ?_
        rintro e w2 ⟨rfl, rfl⟩
        unfold pgave
        go_wp2
        rw [HRF.out]
        exact ⟨rfl, HBL.out, HKT.out, rfl⟩
    · obtain rfl : i = n := by omega
      have HRT : Hid (R = true) := Lib.hid (by
        have h1 := HAL.out
        rw [HN.out, List.take_length] at h1
        rw [HR.out]; exact h1)
      have HWF : Hid (WB wr B b (l ++ numsB ns)) := Lib.hid (by
        have h1 := HWR.out
        rw [HN.out, List.take_length] at h1
        exact h1)
      have hk1 : ¬ ((i : Int) < (i : Int)) := by omega
      go_wp2
      go_end0
      rw [HRT.out]
      exact ⟨HBL.out, HKT.out, rfl, HWF.out⟩

set_option maxHeartbeats 1000000 in
theorem whole_ok (B b : Nat) (l : List UInt8) (s : ByteArray) (w : World) (h : WB w B b l) (hB : B ≤ w.heap.size) (hl : l.length + s.size ≤ 140737488355328) :
    Calls Tryz.prog 101 #[.pointer (some ⟨b, 0, none⟩), .string s, .int .i64 0] w fun e w' => POr (some (l ++ s.data.toList)) B b w e w' := by
  have HS := Lib.hid (wstr_any B b l s w h hl hB)
  clear h
  go_enter Tryz.func101, Tryz.ntmps101
  go_wp2_with fail
  refine (pmust_true _ _ _ rfl).mono ?_
  rintro e w2 ⟨rfl, rfl⟩
  go_wp2_with fail
  refine HS.out.mono ?_
  rintro e w4 ⟨rfl, hw4, hb4, hk4⟩
  go_wp2
  go_end0
  exact ⟨hb4, hk4, rfl, hw4⟩
set_option maxHeartbeats 1000000 in
theorem whole_bad (B b : Nat) (s : ByteArray) (w : World) :
    Calls Tryz.prog 101 #[.pointer (some ⟨b, 0, none⟩), .string s, .int .i64 5] w fun e w' => POr none B b w e w' := by
  go_enter Tryz.func101, Tryz.ntmps101
  go_wp2_with fail
  refine (pmust_false _ _ _ rfl).mono ?_
  rintro e w2 ⟨rfl, rfl⟩
  unfold pgave
  go_wp2
  exact ⟨rfl, Below.refl _ _, KeepT.refl _ _, rfl⟩
end Go.Proofs.YtaamihdibpioaaaGreat.Pk
