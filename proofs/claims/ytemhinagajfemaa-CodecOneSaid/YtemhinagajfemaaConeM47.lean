/- What was read has just the bytes that it is written with; what is written is read as it was, and cut off it is torn. Plain lemmas on bytes, no program in sight. -/
import Derived.Test.YtemhinagajfemaaConeM17
import Derived.Test.YtemhinagajfemaaConeM19
import Derived.Test.YtemhinagajfemaaConeM38
import Derived.Test.YtemhinagajfemaaConeM46
namespace Go.Proofs.Ytemhinagajfemaa
set_option linter.unusedVariables false
open Go.RowKit

/-! ### Without places a value, a type is right as it was, and has the same bytes -/
section
variable (v : Val)
theorem Val.erase_k : v.erase.k = v.k := by rw [Val.erase_eq]; rfl
theorem Val.erase_n : v.erase.n = v.n := by rw [Val.erase_eq]; rfl
theorem Val.erase_f : v.erase.f = v.f := by rw [Val.erase_eq]; rfl
theorem Val.erase_s : v.erase.s = v.s := by rw [Val.erase_eq]; rfl
theorem Val.erase_ns : v.erase.ns = v.ns := by rw [Val.erase_eq]; rfl
theorem Val.erase_xs : v.erase.xs = v.xs.map Val.erase := by rw [Val.erase_eq]; rfl
end
theorem Val.count_erase (d : Nat) : ∀ (v : Val) (n : Nat), v.sz ≤ d → v.erase.count n = v.count n := by
  induction d with
  | zero => intro v n hd; rw [Val.sz_eq] at hd; omega
  | succ d ih =>
    intro v n hd
    have key : ∀ (xs : List Val) (m : Nat), (∀ x, x ∈ xs → x.sz ≤ d) → Val.countAll (xs.map Val.erase) m = Val.countAll xs m := fun xs => by
      induction xs with
      | nil => intro m _; rfl
      | cons x xs ihx =>
        intro m hm
        simp only [List.map_cons, Val.countAll]
        rw [ih x m (hm x (by simp)), ihx _ (fun z hz => hm z (List.mem_cons_of_mem _ hz))]
    rw [Val.count_eq, Val.count_eq, Val.erase_xs]
    exact key v.xs _ (fun x hx => by have := Val.size_mem hx; omega)
theorem bareB_erase (v : Val) (n f s r : Bool) : bareB v.erase n f s r = bareB v n f s r := by
  unfold bareB
  rw [Val.erase_n, Val.erase_f, Val.erase_s, Val.erase_ns, Val.erase_xs, List.length_map]
theorem Val.rightB_erase (d : Nat) : ∀ (v : Val) (deep : Nat), v.sz ≤ d → v.erase.rightB deep = v.rightB deep := by
  induction d with
  | zero => intro v deep hd; rw [Val.sz_eq] at hd; omega
  | succ d ih =>
    intro v deep hd
    have key : ∀ (xs : List Val) (deep : Nat), (∀ x, x ∈ xs → x.sz ≤ d) → Val.rightAll (xs.map Val.erase) deep = Val.rightAll xs deep := fun xs => by
      induction xs with
      | nil => intro deep _; rfl
      | cons x xs ihx =>
        intro deep hm
        simp only [List.map_cons, Val.rightAll]
        rw [ih x deep (hm x (by simp)), ihx _ (fun z hz => hm z (List.mem_cons_of_mem _ hz))]
    rw [Val.rightB_eq, Val.rightB_eq v, Val.erase_k, Val.erase_n, Val.erase_s, Val.erase_ns, Val.erase_xs, List.length_map, key v.xs (deep + 1) (fun x hx => by have := Val.size_mem hx; omega)]
    simp only [bareB_erase]
theorem Val.RightB_erase (v : Val) : v.erase.RightB = v.RightB := by
  unfold Val.RightB
  rw [Val.count_erase v.sz v 0 (Nat.le_refl _), Val.rightB_erase v.sz v 1 (Nat.le_refl _)]
theorem Val.enc_erase (d : Nat) : ∀ (v : Val), v.sz ≤ d → v.erase.enc = v.enc := by
  induction d with
  | zero => intro v hd; rw [Val.sz_eq] at hd; omega
  | succ d ih =>
    intro v hd
    have key : ∀ (xs : List Val) (b : Bool) (ns : List ByteArray), (∀ x, x ∈ xs → x.sz ≤ d) → Val.encAll b ns (xs.map Val.erase) = Val.encAll b ns xs := fun xs => by
      induction xs with
      | nil => intro b ns _; rfl
      | cons x xs ihx =>
        intro b ns hm
        simp only [List.map_cons, Val.encAll]
        rw [ih x (hm x (by simp)), ihx _ _ (fun z hz => hm z (List.mem_cons_of_mem _ hz))]
    rw [Val.enc_eq, Val.enc_eq v, Val.erase_k, Val.erase_n, Val.erase_f, Val.erase_s, Val.erase_ns, Val.erase_xs, List.length_map, key v.xs _ _ (fun x hx => by have := Val.size_mem hx; omega)]
theorem Val.Enc_erase (v : Val) : v.erase.enc = v.enc := Val.enc_erase v.sz v (Nat.le_refl _)
section
variable (v : Ty)
theorem Ty.erase_k : v.erase.k = v.k := by rw [Ty.erase_eq]; rfl
theorem Ty.erase_ns : v.erase.ns = v.ns := by rw [Ty.erase_eq]; rfl
theorem Ty.erase_xs : v.erase.xs = v.xs.map Ty.erase := by rw [Ty.erase_eq]; rfl
end
theorem Ty.count_erase (d : Nat) : ∀ (v : Ty) (n : Nat), v.sz ≤ d → v.erase.count n = v.count n := by
  induction d with
  | zero => intro v n hd; rw [Ty.sz_eq] at hd; omega
  | succ d ih =>
    intro v n hd
    have key : ∀ (xs : List Ty) (m : Nat), (∀ x, x ∈ xs → x.sz ≤ d) → Ty.countAll (xs.map Ty.erase) m = Ty.countAll xs m := fun xs => by
      induction xs with
      | nil => intro m _; rfl
      | cons x xs ihx =>
        intro m hm
        simp only [List.map_cons, Ty.countAll]
        rw [ih x m (hm x (by simp)), ihx _ (fun z hz => hm z (List.mem_cons_of_mem _ hz))]
    rw [Ty.count_eq, Ty.count_eq, Ty.erase_xs]
    exact key v.xs _ (fun x hx => by have := Ty.size_mem hx; omega)
theorem Ty.rightB_erase (d : Nat) : ∀ (v : Ty) (deep : Nat), v.sz ≤ d → v.erase.rightB deep = v.rightB deep := by
  induction d with
  | zero => intro v deep hd; rw [Ty.sz_eq] at hd; omega
  | succ d ih =>
    intro v deep hd
    have key : ∀ (xs : List Ty) (deep : Nat), (∀ x, x ∈ xs → x.sz ≤ d) → Ty.rightAll (xs.map Ty.erase) deep = Ty.rightAll xs deep := fun xs => by
      induction xs with
      | nil => intro deep _; rfl
      | cons x xs ihx =>
        intro deep hm
        simp only [List.map_cons, Ty.rightAll]
        rw [ih x deep (hm x (by simp)), ihx _ (fun z hz => hm z (List.mem_cons_of_mem _ hz))]
    rw [Ty.rightB_eq, Ty.rightB_eq v, Ty.erase_k, Ty.erase_ns, Ty.erase_xs, List.length_map, key v.xs (deep + 1) (fun x hx => by have := Ty.size_mem hx; omega)]
theorem Ty.RightB_erase (v : Ty) : v.erase.RightB = v.RightB := by
  unfold Ty.RightB
  rw [Ty.count_erase v.sz v 0 (Nat.le_refl _), Ty.rightB_erase v.sz v 1 (Nat.le_refl _)]
theorem Ty.enc_erase (d : Nat) : ∀ (v : Ty), v.sz ≤ d → v.erase.enc = v.enc := by
  induction d with
  | zero => intro v hd; rw [Ty.sz_eq] at hd; omega
  | succ d ih =>
    intro v hd
    have key : ∀ (xs : List Ty) (b : Bool) (ns : List ByteArray), (∀ x, x ∈ xs → x.sz ≤ d) → Ty.encAll b ns (xs.map Ty.erase) = Ty.encAll b ns xs := fun xs => by
      induction xs with
      | nil => intro b ns _; rfl
      | cons x xs ihx =>
        intro b ns hm
        simp only [List.map_cons, Ty.encAll]
        rw [ih x (hm x (by simp)), ihx _ _ (fun z hz => hm z (List.mem_cons_of_mem _ hz))]
    rw [Ty.enc_eq, Ty.enc_eq v, Ty.erase_k, Ty.erase_ns, Ty.erase_xs, List.length_map, key v.xs _ _ (fun x hx => by have := Ty.size_mem hx; omega)]
theorem Ty.Enc_erase (v : Ty) : v.erase.enc = v.enc := Ty.enc_erase v.sz v (Nat.le_refl _)

/-! ### A stretch of bytes -/
def sl (s : ByteArray) (p q : Nat) : List UInt8 := (s.data.toList.drop p).take (q - p)
theorem sl_self (s : ByteArray) (p : Nat) : sl s p p = [] := by simp [sl]
theorem sl_app {s : ByteArray} {p q r : Nat} (h1 : p ≤ q) (h2 : q ≤ r) : sl s p r = sl s p q ++ sl s q r := by
  unfold sl
  rw [show r - p = (q - p) + (r - q) from by omega, List.take_add, List.drop_drop, show p + (q - p) = q from by omega]
theorem size_list (s : ByteArray) : s.data.toList.length = s.size := Array.length_toList
theorem sl_one {s : ByteArray} {p : Nat} (h : p < s.size) : sl s p (p + 1) = [byteAt s p] := by
  have h' : p < s.data.toList.length := by rw [size_list]; exact h
  unfold sl
  rw [List.drop_eq_getElem_cons h', show p + 1 - p = 1 from by omega, List.take_succ_cons, List.take_zero]
  unfold byteAt
  rw [List.getD_eq_getElem?_getD, List.getElem?_eq_getElem h']
  rfl
theorem sl_cons {s : ByteArray} {p q : Nat} (h : p < s.size) (hq : p + 1 ≤ q) : sl s p q = byteAt s p :: sl s (p + 1) q := by
  rw [sl_app (q := p + 1) (by omega) hq, sl_one h]
  rfl
theorem u8_of (c : UInt8) : UInt8.ofNat c.toNat = c := by simp
theorem u8_k {c : UInt8} {k : Nat} (h : c.toNat = k) : c = UInt8.ofNat k := by rw [← h, u8_of]

/-! ### What was read has these bytes -/
theorem readU_sl (s : ByteArray) (p i n : Nat) : ∀ m q, readU s p i n = .ok (m, q) → p < q ∧ ∃ t, m = n + t * 128 ^ i ∧ sl s p q = ub t ∧ (0 < i → t ≠ 0) := by
  intro m q hr
  by_cases hp : p < s.size
  · by_cases hb : i < 10 ∧ (i < 9 ∨ (s[p]'hp).toNat ≤ 1) ∧ (i = 0 ∨ (s[p]'hp).toNat ≠ 0)
    · by_cases hl : (s[p]'hp).toNat < 128
      · rw [readU_end hp hb hl] at hr
        injection hr with hr
        injection hr with h3 h4
        subst h4
        refine ⟨by omega, (s[p]'hp).toNat, by rw [← h3, Nat.mod_eq_of_lt hl], ?_, fun h => ?_⟩
        · rw [sl_one hp, byteAt_eq hp, ub_small hl, u8_of]
        · rcases hb.2.2 with h' | h'
          · omega
          · exact h'
      · rw [readU_on hp hb hl] at hr
        obtain ⟨hlt, t, h1, h2, h3⟩ := readU_sl s (p + 1) (i + 1) _ m q hr
        have ht := h3 (by omega)
        have hc := (s[p]'hp).toNat_lt
        refine ⟨by omega, (s[p]'hp).toNat % 128 + 128 * t, ?_, ?_, fun _ => by omega⟩
        · rw [h1, Nat.pow_succ, Nat.add_mul, Nat.add_assoc]
          congr 2
          rw [Nat.mul_comm (128 ^ i) 128, ← Nat.mul_assoc, Nat.mul_comm t 128]
        · rw [sl_cons hp (by omega), h2, ub_great (n := (s[p]'hp).toNat % 128 + 128 * t) (by omega), byteAt_eq hp, show ((s[p]'hp).toNat % 128 + 128 * t) / 128 = t from by omega]
          congr 1
          exact u8_k (by omega)
    · rw [readU_bad hp hb] at hr
      cases hr
  · rw [readU_torn hp] at hr
    cases hr
termination_by s.size - p
theorem readU_ub {s : ByteArray} {p m q : Nat} (h : readU s p 0 0 = .ok (m, q)) : sl s p q = ub m := by
  obtain ⟨_, t, h1, h2, _⟩ := readU_sl s p 0 0 m q h
  rw [h2, h1]
  simp
theorem readS_sl {s : ByteArray} {p q : Nat} {most : Int} {t : ByteArray} (h : readS s p most = .ok (t, q)) : sl s p q = strE t := by
  unfold readS at h
  cases hu : readU s p 0 0 with
  | error k => rw [hu] at h; cases h
  | ok nq =>
    obtain ⟨n, r⟩ := nq
    obtain ⟨h1, h2, h3⟩ := readU_lt s p 0 0 (by decide) (by omega) n r hu
    have hub := readU_ub hu
    rw [hu] at h
    simp only at h
    split at h
    · split at h
      · injection h with h
        injection h with ht hq
        subst ht hq
        have hs : (s.extract r (r + n)).size = n := by rw [ByteArray.size_extract]; omega
        have hd : (s.extract r (r + n)).data.toList = sl s r (r + n) := by
          rw [ByteArray.data_extract, Array.toList_extract]
          unfold sl
          rw [List.extract_eq_take_drop]
        unfold strE
        rw [hs, hd, ← hub]
        exact sl_app (by omega) (by omega)
      · cases h
    · cases h
theorem readF_sl {s : ByteArray} {p f q : Nat} (h : readF s p = .ok (f, q)) : sl s p q = fbytes (fcan f) 8 := by
  unfold readF at h
  split at h
  · next hp =>
    split at h
    · next hc =>
      injection h with h
      injection h with hf hq
      subst hf hq
      rw [hc]
      have e : sl s p (p + 8) = [byteAt s p, byteAt s (p + 1), byteAt s (p + 2), byteAt s (p + 3), byteAt s (p + 4), byteAt s (p + 5), byteAt s (p + 6), byteAt s (p + 7)] := by
        rw [sl_cons (by omega) (by omega), sl_cons (by omega) (by omega), sl_cons (by omega) (by omega), sl_cons (by omega) (by omega), sl_cons (by omega) (by omega), sl_cons (by omega) (by omega), sl_cons (by omega) (by omega), sl_cons (by omega) (by omega), sl_self]
      have b0 := (byteAt s p).toNat_lt; have b1 := (byteAt s (p + 1)).toNat_lt; have b2 := (byteAt s (p + 2)).toNat_lt; have b3 := (byteAt s (p + 3)).toNat_lt
      have b4 := (byteAt s (p + 4)).toNat_lt; have b5 := (byteAt s (p + 5)).toNat_lt; have b6 := (byteAt s (p + 6)).toNat_lt; have b7 := (byteAt s (p + 7)).toNat_lt
      rw [e]
      simp only [fbytes, List.range_succ, List.range_zero, List.nil_append, List.map_append, List.map_cons, List.map_nil, List.cons_append, fbyte, beAt, Nat.add_zero, Nat.zero_mul, Nat.zero_add]
      congr 1
      · exact u8_k (by omega)
      congr 1
      · exact u8_k (by omega)
      congr 1
      · exact u8_k (by omega)
      congr 1
      · exact u8_k (by omega)
      congr 1
      · exact u8_k (by omega)
      congr 1
      · exact u8_k (by omega)
      congr 1
      · exact u8_k (by omega)
      congr 1
      · exact u8_k (by omega)
    · cases h
  · cases h
theorem zig_unzig (n : Nat) : zig (unzig n) = n := by
  unfold zig unzig
  split <;> split <;> omega
theorem unzig_zig (n : Int) : unzig (zig n) = n := by
  unfold zig unzig
  split <;> split <;> omega
section
variable {A : Type}
def encL (enc : A → List UInt8) : Bool → List ByteArray → List A → List UInt8
  | _, _, [] => []
  | b, ns, x :: xs => (bif b then strE (ns.headD ByteArray.empty) else []) ++ (enc x ++ encL enc b ns.tail xs)
theorem rdL_sl {s : ByteArray} {rd : Nat → Nat → Except Int (A × Nat × Nat)} {enc : A → List UInt8} {b : Bool}
    (hrd : ∀ p m v q m', p ≤ s.size → m ≤ 200 → rd p m = .ok (v, q, m') → (p < q ∧ q ≤ s.size ∧ m < m' ∧ m' ≤ 200) ∧ sl s p q = enc v) :
    ∀ n p m ns vs q m', p ≤ s.size → m ≤ 200 → rdL s rd b n p m = .ok (ns, vs, q, m') → sl s p q = encL enc b ns vs
  | 0, p, m, ns, vs, q, m', hp, hm, h => by
    simp only [rdL, Except.ok.injEq, Prod.mk.injEq] at h
    obtain ⟨rfl, rfl, rfl, rfl⟩ := h
    exact sl_self s p
  | n + 1, p, m, ns, vs, q, m', hp, hm, h => by
    cases b with
    | false =>
      cases h1 : rd p m with
      | error k => rw [rdL_item_bad0 h1] at h; cases h
      | ok x =>
        obtain ⟨v, q2, m2⟩ := x
        obtain ⟨⟨a1, a2, a3, a4⟩, a5⟩ := hrd _ _ _ _ _ hp hm h1
        rw [rdL_next0 h1] at h
        cases h2 : rdL s rd false n q2 m2 with
        | error k => rw [h2] at h; cases h
        | ok y =>
          obtain ⟨ms, us, q3, m3⟩ := y
          have hl := rdL_lt (fun p m v q m' hp hm h => (hrd p m v q m' hp hm h).1) n q2 m2 ms us q3 m3 a2 a4 h2
          have hi := rdL_sl hrd n q2 m2 ms us q3 m3 a2 a4 h2
          rw [h2] at h
          simp only [preL, Except.ok.injEq, Prod.mk.injEq] at h
          obtain ⟨rfl, rfl, rfl, rfl⟩ := h
          have hms : ms = [] := List.eq_nil_of_length_eq_zero (by simpa using hl.2.2.2.2.2.1)
          subst hms
          rw [sl_app (q := q2) (by omega) (by omega), a5, hi]
          rfl
    | true =>
      cases h0 : readS s p 30 with
      | error k => rw [rdL_name_bad h0] at h; cases h
      | ok tq =>
        obtain ⟨t, q1⟩ := tq
        obtain ⟨c1, c2, c3⟩ := readS_lt h0
        cases h1 : rd q1 m with
        | error k => rw [rdL_item_bad1 h0 h1] at h; cases h
        | ok x =>
          obtain ⟨v, q2, m2⟩ := x
          obtain ⟨⟨a1, a2, a3, a4⟩, a5⟩ := hrd _ _ _ _ _ c2 hm h1
          rw [rdL_next1 h0 h1] at h
          cases h2 : rdL s rd true n q2 m2 with
          | error k => rw [h2] at h; cases h
          | ok y =>
            obtain ⟨ms, us, q3, m3⟩ := y
            have hl := rdL_lt (fun p m v q m' hp hm h => (hrd p m v q m' hp hm h).1) n q2 m2 ms us q3 m3 a2 a4 h2
            have hi := rdL_sl hrd n q2 m2 ms us q3 m3 a2 a4 h2
            rw [h2] at h
            simp only [preL, Except.ok.injEq, Prod.mk.injEq] at h
            obtain ⟨rfl, rfl, rfl, rfl⟩ := h
            rw [sl_app (q := q1) (by omega) (by omega), sl_app (p := q1) (q := q2) (by omega) (by omega), readS_sl h0, a5, hi]
            rfl
end
theorem encL_val : ∀ (b : Bool) (ns : List ByteArray) (xs : List Val), Val.encAll b ns xs = encL Val.enc b ns xs
  | _, _, [] => by simp [Val.encAll, encL]
  | b, ns, x :: xs => by simp only [Val.encAll, encL]; rw [encL_val b ns.tail xs]
theorem encL_ty : ∀ (b : Bool) (ns : List ByteArray) (xs : List Ty), Ty.encAll b ns xs = encL Ty.enc b ns xs
  | _, _, [] => by simp [Ty.encAll, encL]
  | b, ns, x :: xs => by simp only [Ty.encAll, encL]; rw [encL_ty b ns.tail xs]
theorem leafN_enc1 (c : UInt8) : (Val.leafN 1 c.toNat).enc = [1, c] := by
  rw [Val.enc_eq]
  show UInt8.ofNat (1 : Int).toNat :: (if (1 : Int) = 1 then [UInt8.ofNat ((c.toNat : Int)).toNat] else _) = _
  rw [if_pos rfl, Int.toNat_natCast, u8_of]
  rfl
theorem leafN_enc2 (n : Int) : (Val.leafN 2 n).enc = 2 :: ub (zig n) := by
  rw [Val.enc_eq]
  rfl
theorem leafF_enc (f : Nat) : (Val.leafF f).enc = 3 :: fbytes (fcan f) 8 := by
  rw [Val.enc_eq]
  rfl
theorem leafS_enc (t : ByteArray) : (Val.leafS t).enc = 4 :: strE t := by
  rw [Val.enc_eq]
  rfl
theorem node_enc (k : Nat) (ns : List ByteArray) (vs : List Val) (hk : k = 5 ∨ k = 6) : (Val.node k ns vs).enc = UInt8.ofNat k :: (ub vs.length ++ encL Val.enc (decide (k = 6)) ns vs) := by
  rw [Val.enc_eq, ← encL_val]
  rcases hk with rfl | rfl <;> rfl
theorem tnode_enc (k : Nat) (ns : List ByteArray) (vs : List Ty) : (Ty.node k ns vs).enc = UInt8.ofNat k :: ((if k = 6 then ub vs.length else []) ++ encL Ty.enc (decide (k = 6)) ns vs) := by
  rw [Ty.enc_eq, ← encL_ty]
  show UInt8.ofNat (k : Int).toNat :: ((if (k : Int) = 6 then ub vs.length else []) ++ Ty.encAll (decide ((k : Int) = 6)) ns vs) = _
  rw [Int.toNat_natCast]
  by_cases h : k = 6
  · subst h; rfl
  · rw [if_neg (by omega), if_neg h, decide_eq_false (by omega), decide_eq_false h]
theorem readM_ok {s : ByteArray} {p n q : Nat} (h : readM s p = .ok (n, q)) : readU s p 0 0 = .ok (n, q) := by
  unfold readM at h
  cases hu : readU s p 0 0 with
  | error k => rw [hu] at h; cases h
  | ok x =>
    obtain ⟨n', q'⟩ := x
    rw [hu] at h
    simp only at h
    split at h
    · exact h
    · cases h
theorem rdV_sl (s : ByteArray) : ∀ d p m v q m', p ≤ s.size → m ≤ 200 → rdV s d p m = .ok (v, q, m') → sl s p q = v.enc
  | 0, p, m, v, q, m', hp, hm, h => by simp [rdV] at h
  | d + 1, p, m, v, q, m', hp, hm, h => by
    have hlt := rdV_lt s (d + 1) p m v q m' hp hm h
    unfold rdV at h
    split at h
    · cases h
    split at h
    · cases h
    rw [sl_cons (by omega) (by omega)]
    split at h
    · next hk =>
      rw [u8_k hk]
      split at h
      · cases h
      · split at h
        · simp only [Except.ok.injEq, Prod.mk.injEq] at h
          obtain ⟨rfl, rfl, _⟩ := h
          rw [leafN_enc1, sl_one (by omega)]
          rfl
        · cases h
    split at h
    · next hk =>
      rw [u8_k hk]
      split at h
      · cases h
      · next n r hu =>
        simp only [Except.ok.injEq, Prod.mk.injEq] at h
        obtain ⟨rfl, rfl, _⟩ := h
        rw [leafN_enc2, zig_unzig, readU_ub hu]
        rfl
    split at h
    · next hk =>
      rw [u8_k hk]
      split at h
      · cases h
      · next n r hu =>
        simp only [Except.ok.injEq, Prod.mk.injEq] at h
        obtain ⟨rfl, rfl, _⟩ := h
        rw [leafF_enc, readF_sl hu]
        rfl
    split at h
    · next hk =>
      rw [u8_k hk]
      split at h
      · cases h
      · next n r hu =>
        simp only [Except.ok.injEq, Prod.mk.injEq] at h
        obtain ⟨rfl, rfl, _⟩ := h
        rw [leafS_enc, readS_sl hu]
        rfl
    split at h
    · next hk =>
      split at h
      · cases h
      · next n r hu =>
        have h1 := readM_lt hu
        split at h
        · cases h
        · next ns vs q2 m2 hl =>
          have h2 := rdL_lt (fun p m v q m' => rdV_lt s d p m v q m') n r (m + 1) ns vs q2 m2 (by omega) (by omega) hl
          have h3 := rdL_sl (enc := Val.enc) (fun p m v q m' hp hm h => ⟨rdV_lt s d p m v q m' hp hm h, rdV_sl s d p m v q m' hp hm h⟩) n r (m + 1) ns vs q2 m2 (by omega) (by omega) hl
          simp only [Except.ok.injEq, Prod.mk.injEq] at h
          obtain ⟨rfl, rfl, _⟩ := h
          rw [node_enc _ _ _ hk, h2.2.2.2.2.1, sl_app (q := r) (by omega) (by omega), readU_ub (readM_ok hu), h3, u8_of]
    · cases h
theorem rdT_sl (s : ByteArray) : ∀ d p m v q m', p ≤ s.size → m ≤ 200 → rdT s d p m = .ok (v, q, m') → sl s p q = v.enc
  | 0, p, m, v, q, m', hp, hm, h => by simp [rdT] at h
  | d + 1, p, m, v, q, m', hp, hm, h => by
    have hlt := rdT_lt s (d + 1) p m v q m' hp hm h
    unfold rdT at h
    split at h
    · cases h
    split at h
    · cases h
    rw [sl_cons (by omega) (by omega)]
    split at h
    · cases h
    · next n r hu =>
      have h1 := tyMany_lt (by omega) hu
      split at h
      · cases h
      · next ns vs q2 m2 hl =>
        have h2 := rdL_lt (fun p m v q m' => rdT_lt s d p m v q m') n r (m + 1) ns vs q2 m2 (by omega) (by omega) hl
        have h3 := rdL_sl (enc := Ty.enc) (fun p m v q m' hp hm h => ⟨rdT_lt s d p m v q m' hp hm h, rdT_sl s d p m v q m' hp hm h⟩) n r (m + 1) ns vs q2 m2 (by omega) (by omega) hl
        simp only [Except.ok.injEq, Prod.mk.injEq] at h
        obtain ⟨rfl, rfl, _⟩ := h
        rw [tnode_enc, u8_of, ← h3]
        congr 1
        unfold tyMany at hu
        by_cases hk : (byteAt s p).toNat = 6
        · rw [if_pos hk]
          rw [if_neg (by omega), if_pos hk] at hu
          rw [h2.2.2.2.2.1, ← readU_ub (readM_ok hu), ← sl_app (by omega) (by omega)]
        · rw [if_neg hk]
          rw [if_neg hk] at hu
          split at hu
          · simp only [Except.ok.injEq, Prod.mk.injEq] at hu; rw [← hu.2]; rfl
          split at hu
          · simp only [Except.ok.injEq, Prod.mk.injEq] at hu; rw [← hu.2]; rfl
          · cases hu
end Go.Proofs.Ytemhinagajfemaa
