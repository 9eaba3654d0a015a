/- A frame of which one byte behind its length is another is none: the plain law. No program in sight. -/
import Derived.Test.YtiemfdglejenpaaFrameNext
import Derived.Test.YtiemfdglejenpaaFrameRefNext
namespace Go.Proofs.Ytiemfdglejenpaa
open Go.Proofs.Ytiemfdglejenpaa.Crc
set_option linter.unusedVariables false

namespace Crc
theorem st_inj {a b : Nat} (ha : a < 4294967296) (hb : b < 4294967296) (h : st a = st b) : a = b := by
  have top : ∀ x, x < 2147483648 → (x ^^^ P).testBit 31 = true := fun x hx => by
    rw [Nat.testBit_xor, Nat.testBit_lt_two_pow (x := x) (i := 31) (by omega), Bool.false_xor]; decide
  have low : ∀ x, x < 2147483648 → x.testBit 31 = false := fun x hx => Nat.testBit_lt_two_pow (by omega)
  unfold st at h
  split at h <;> split at h
  · have h2 := congrArg (· ^^^ P) h
    simp only [Nat.xor_assoc, Nat.xor_self, Nat.xor_zero] at h2
    omega
  · have h1 := top (a / 2) (by omega)
    rw [h, low _ (by omega)] at h1
    cases h1
  · have h1 := top (b / 2) (by omega)
    rw [← h, low _ (by omega)] at h1
    cases h1
  · omega
theorem st4_inj {a b : Nat} (ha : a < 4294967296) (hb : b < 4294967296) (h : st4 a = st4 b) : a = b :=
  st_inj ha hb (st_inj (st_lt ha) (st_lt hb) (st_inj (st_lt (st_lt ha)) (st_lt (st_lt hb)) (st_inj (st_lt (st_lt (st_lt ha))) (st_lt (st_lt (st_lt hb))) h)))
theorem xor_lt {a b : Nat} (ha : a < 4294967296) (hb : b < 256) : a ^^^ b < 4294967296 := Nat.xor_lt_two_pow (n := 32) (by omega) (by omega)
theorem xor_cancel_right {a b c : Nat} (h : a ^^^ c = b ^^^ c) : a = b := by
  have h2 := congrArg (· ^^^ c) h
  simpa only [Nat.xor_assoc, Nat.xor_self, Nat.xor_zero] using h2
theorem byte_inj_c {a b x : Nat} (ha : a < 4294967296) (hb : b < 4294967296) (hx : x < 256) (h : byte a x = byte b x) : a = b :=
  xor_cancel_right (st4_inj (xor_lt ha hx) (xor_lt hb hx) (st4_inj (st4_lt (xor_lt ha hx)) (st4_lt (xor_lt hb hx)) h))
theorem byte_inj_x {c x y : Nat} (hc : c < 4294967296) (hx : x < 256) (hy : y < 256) (h : byte c x = byte c y) : x = y := by
  have h2 := st4_inj (xor_lt hc hx) (xor_lt hc hy) (st4_inj (st4_lt (xor_lt hc hx)) (st4_lt (xor_lt hc hy)) h)
  rw [Nat.xor_comm c x, Nat.xor_comm c y] at h2
  exact xor_cancel_right h2
theorem fold_inj (l : List UInt8) : ∀ a b, a < 4294967296 → b < 4294967296 → l.foldl (fun c b => byte c b.toNat) a = l.foldl (fun c b => byte c b.toNat) b → a = b := by
  induction l with
  | nil => intro a b _ _ h; exact h
  | cons x l ih =>
    intro a b ha hb h
    exact byte_inj_c ha hb x.toNat_lt (ih _ _ (byte_lt ha x.toNat_lt) (byte_lt hb x.toNat_lt) h)
/-- One byte turned: another sum. -/
theorem sum_turned {l : List UInt8} {j : Nat} {b : UInt8} (hj : j < l.length) (hne : b ≠ l[j]) : sum (l.set j b) ≠ sum l := by
  intro h
  have hr : run (l.set j b) = run l := by
    have h1 := run_lt (l.set j b)
    have h2 := run_lt l
    unfold sum at h
    omega
  have e1 : l.set j b = l.take j ++ b :: l.drop (j + 1) := List.set_eq_take_append_cons_drop.trans (if_pos hj)
  have e2 : l = l.take j ++ l[j] :: l.drop (j + 1) := by
    rw [← List.drop_eq_getElem_cons hj, List.take_append_drop]
  have e3 : run l = run (l.take j ++ l[j] :: l.drop (j + 1)) := congrArg run e2
  rw [e1, e3] at hr
  unfold run at hr
  rw [List.foldl_append, List.foldl_append, List.foldl_cons, List.foldl_cons] at hr
  have hc := fold_lt (l.take j) 4294967295 (by omega)
  have := fold_inj _ _ _ (byte_lt hc b.toNat_lt) (byte_lt hc (l[j]).toNat_lt) hr
  have := byte_inj_x hc b.toNat_lt (l[j]).toNat_lt this
  exact hne (UInt8.toNat.inj this)
end Crc

theorem tailOf_inj {c d : Nat} (hc : c < 4294967296) (hd : d < 4294967296) (h : tailOf c = tailOf d) : c = d := by
  have e := congrArg (fun b : ByteArray => b.data.toList.map UInt8.toNat) h
  simp only [tail_list, List.map_cons, List.map_nil, UInt8.toNat_ofNat', List.cons.injEq] at e
  obtain ⟨e0, e1, e2, e3, _⟩ := e
  omega

theorem frame_lenAt {p : ByteArray} (h2 : p.size ≤ 2000) : (frameOf p).size = p.size + 6 := by
  unfold frameOf headOf tailOf
  simp only [ByteArray.size_append, strOfNums_size]
  simp
  omega

theorem frameOf_list (p : ByteArray) : (frameOf p).data.toList = ((headOf p).data.toList ++ p.data.toList) ++ (tailOf (sum ((headOf p).data.toList ++ p.data.toList))).data.toList := by
  simp [frameOf]

/-- THE PLAIN LAW. -/
theorem turned_none {p F : ByteArray} {j : Nat} {b : UInt8} (h1 : 1 ≤ p.size) (h2 : p.size ≤ 2000) (hj2 : 2 ≤ j) (hj : j < p.size + 6) (hne : b ≠ (frameOf p).data.toList.getD j 0) (hF : F.data.toList = (frameOf p).data.toList.set j b) :
    frameAt F = false := by
  have hfs := frame_lenAt h2
  have hfl : (frameOf p).data.toList.length = p.size + 6 := by rw [← hfs]; simp
  have hFs : F.size = p.size + 6 := by
    have := congrArg List.length hF
    simp at this
    rw [this, ← hfs]
  have hhl : (headOf p).data.toList = [UInt8.ofNat (p.size / 256), UInt8.ofNat (p.size % 256)] := by
    unfold headOf; rw [strOfNums_data]; rfl
  have hlen : lenAt F = p.size := by
    unfold lenAt
    rw [hF, List.getD_eq_getElem?_getD, List.getD_eq_getElem?_getD, List.getElem?_set_ne (by omega), List.getElem?_set_ne (by omega), frameOf_list, hhl]
    simp
    omega
  unfold frameAt tailOk
  rw [hlen, decide_eq_true ⟨by omega, by omega, by omega, by omega⟩, Bool.true_and]
  refine decide_eq_false fun he => ?_
  have he' := congrArg (fun b : ByteArray => b.data.toList) he
  simp only [Lib.extract_data, hF, List.drop_zero, Nat.sub_zero] at he'
  rw [show p.size + 6 - (p.size + 2) = 4 by omega, frameOf_list] at he'
  obtain ⟨X, hX⟩ : ∃ X, X = (headOf p).data.toList ++ p.data.toList := ⟨_, rfl⟩
  have hXl : X.length = p.size + 2 := by rw [hX, hhl, List.length_append]; simp [Nat.add_comm]
  have hTl : (tailOf (sum X)).data.toList.length = 4 := by rw [tail_list]; rfl
  rw [← hX] at he'
  rw [frameOf_list, ← hX] at hne
  by_cases hjx : j < X.length
  · rw [List.set_append_left _ _ hjx] at he'
    have e1 : (X.set j b ++ (tailOf (sum X)).data.toList).drop (p.size + 2) = (tailOf (sum X)).data.toList := by
      rw [List.drop_append_of_le_length (by simp; omega), List.drop_eq_nil_of_le (by simp; omega), List.nil_append]
    have e2 : (X.set j b ++ (tailOf (sum X)).data.toList).take (p.size + 2) = X.set j b := by
      rw [List.take_append_of_le_length (by simp; omega), List.take_of_length_le (by simp; omega)]
    rw [e1, e2, List.take_of_length_le (by omega)] at he'
    have := tailOf_inj (sum_lt _) (sum_lt _) (WideShapes.bytes_inj he')
    refine Crc.sum_turned hjx ?_ this.symm
    rw [List.getD_eq_getElem?_getD, List.getElem?_append_left hjx, List.getElem?_eq_getElem hjx] at hne
    exact hne
  · rw [List.set_append_right _ _ (by omega)] at he'
    have e1 : (X ++ (tailOf (sum X)).data.toList.set (j - X.length) b).drop (p.size + 2) = (tailOf (sum X)).data.toList.set (j - X.length) b := by
      rw [← hXl, List.drop_left]
    have e2 : (X ++ (tailOf (sum X)).data.toList.set (j - X.length) b).take (p.size + 2) = X := by
      rw [← hXl, List.take_left]
    rw [e1, e2, List.take_of_length_le (by rw [List.length_set, hTl]; omega)] at he'
    have e3 := congrArg (fun l => l[j - X.length]?) he'
    simp only [List.getElem?_set_self (show j - X.length < (tailOf (sum X)).data.toList.length by rw [hTl]; omega)] at e3
    rw [List.getD_eq_getElem?_getD, List.getElem?_append_right (by omega), ← e3] at hne
    exact hne rfl
end Go.Proofs.Ytiemfdglejenpaa
