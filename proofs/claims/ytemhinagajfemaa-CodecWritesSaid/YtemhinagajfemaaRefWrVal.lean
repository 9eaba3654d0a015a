/- The reference's writer of values (printed by wip/gen_refwrval.py). -/
import Derived.Test.YtemhinagajfemaaRowT
import Derived.Test.YtemhinagajfemaaCodecEnc
import Derived.Test.YtemhinagajfemaaRefRows
import Derived.Test.YtemhinagajfemaaRef03
import Derived.Test.YtemhinagajfemaaRefOrd
namespace Go.Proofs.Ytemhinagajfemaa
set_option linter.unusedVariables false
open Go.RowKit

theorem conv1 (W : World) (g : Nat) (a : Int) (c : Nat) (hg : g = W.heap.size) : (convert 85 9 (.slice (some ⟨g, 0, none⟩) 1 c)).run Try.prog (W.alloc (.cells #[.int .u8 a] 5)) = .ok (.string ⟨[UInt8.ofNat a.toNat].toArray⟩) (W.alloc (.cells #[.int .u8 a] 5)) :=
  run_convert_bytes_arg (P := Try.prog) _ 85 5 Try.underlying85 Try.underlying5 g 0 1 c [a] rfl (fun i hi => by
    subst hg
    have hb := Blk.new W 5 #[.int .u8 a]
    rw [hb.cell]
    match i, hi with
    | 0, _ => rfl) _ Try.underlying9
/-- Bytes as a string. -/
def strB (l : List UInt8) : ByteArray := ⟨l.toArray⟩
theorem strB_size (l : List UInt8) : (strB l).size = l.length := by show l.toArray.size = _; exact List.size_toArray ..
theorem strB_append (a b : List UInt8) : strB a ++ strB b = strB (a ++ b) := by
  apply ByteArray.ext
  simp [strB, ByteArray.data_append]

set_option maxHeartbeats 8000000 in
set_option maxRecDepth 100000 in
theorem rwv_bool (v : Val) (deep : Nat) (w : World) (hv : v.In w) (hr : v.rightB deep = true) (hlen : v.enc.length + 20 ≤ 140737488355328) (hk : v.k = 1) :
    Calls Try.prog 36 #[v.agg] w fun e w' => Told (strB v.enc) w.heap.size w e w' := by
  obtain ⟨W, hW⟩ : ∃ W, W = w.alloc (.cells v.cells.toArray 46) := ⟨_, rfl⟩
  have hbW : Below w.heap.size w W := by rw [hW]; exact (Below.refl _ _).alloc (Nat.le_refl _) _
  have hpv : Blk W w.heap.size 46 v.cells.toArray := by rw [hW]; exact Blk.new w 46 _
  have henc := Val.enc_eq v
  have hlt := hpv.lt
  have hok := hv.ok
  rw [hk] at henc
  have hn : v.n = 0 ∨ v.n = 1 := by
    rw [Val.rightB_eq] at hr
    by_cases h12 : 12 < deep
    · rw [if_pos h12] at hr; cases hr
    · rw [if_neg h12, if_pos hk, Bool.and_eq_true, beq_iff_eq] at hr
      omega
  obtain ⟨p4, q4, e4⟩ := hv.nslice
  obtain ⟨p5, q5, e5⟩ := hv.xslice
  unfold Val.cells at hW hpv
  unfold Val.agg
  rw [hk, e4, e5] at hW hpv ⊢
  have a0 := hpv.cell 0; have a1 := hpv.cell 1; have a2 := hpv.cell 2; have a3 := hpv.cell 3; have a4 := hpv.cell 4; have a5 := hpv.cell 5
  simp only [List.getElem?_toArray, List.getElem?_cons_zero, List.getElem?_cons_succ] at a0 a1 a2 a3 a4 a5
  have hzW : W.heap.size = w.heap.size + 1 := by rw [hW]; simp
  have HW := Lib.hid hW; have HB := Lib.hid hbW; have HPV := Lib.hid hpv
  have hc1 := conv1 W (w.heap.size + 1) 1 1 (by rw [hzW])
  simp only [show UInt8.ofNat (Int.toNat 1) = 1 from rfl] at hc1
  change _ = Result.ok (Value.string (strB [1])) _ at hc1
  have hs1 := strB_size [1]
  clear hr hW hbW hpv e4 e5 hv hok
  rcases hn with hn | hn
  · have HE : Hid (strB [1] ++ strB [0] = strB v.enc) := Lib.hid (by rw [henc, hn, strB_append]; rfl)
    rw [hn] at HW a1 ⊢
    have hc2 := conv1 (W.alloc (.cells #[.int .u8 1] 5)) (w.heap.size + 1 + 1) 0 1 (by simp [hzW])
    simp only [show UInt8.ofNat (Int.toNat 0) = 0 from rfl] at hc2
    change _ = Result.ok (Value.string (strB [0])) _ at hc2
    have hs0 := strB_size [0]
    clear henc hn hlen
    go_enter Try.func36, Try.ntmps36
    go_wp2_with fail
    rw [← HW.out, hc1]
    go_wp2_with fail
    go_ret
    exact ⟨by rw [HE.out]; rfl, (HB.out.alloc HB.out.size _).alloc (by simp; omega) _⟩
  · have HE : Hid (strB [1] ++ strB [1] = strB v.enc) := Lib.hid (by rw [henc, hn, strB_append]; rfl)
    rw [hn] at HW a1 ⊢
    have hc2 := conv1 (W.alloc (.cells #[.int .u8 1] 5)) (w.heap.size + 1 + 1) 1 1 (by simp [hzW])
    simp only [show UInt8.ofNat (Int.toNat 1) = 1 from rfl] at hc2
    change _ = Result.ok (Value.string (strB [1])) _ at hc2
    have hs0 := strB_size [1]
    clear henc hn hlen
    go_enter Try.func36, Try.ntmps36
    go_wp2_with fail
    rw [← HW.out, hc1]
    go_wp2_with fail
    go_ret
    exact ⟨by rw [HE.out]; rfl, (HB.out.alloc HB.out.size _).alloc (by simp; omega) _⟩

set_option maxHeartbeats 8000000 in
set_option maxRecDepth 100000 in
theorem rwv_int (v : Val) (deep : Nat) (w : World) (hv : v.In w) (hr : v.rightB deep = true) (hlen : v.enc.length + 20 ≤ 140737488355328) (hk : v.k = 2) :
    Calls Try.prog 36 #[v.agg] w fun e w' => Told (strB v.enc) w.heap.size w e w' := by
  obtain ⟨W, hW⟩ : ∃ W, W = w.alloc (.cells v.cells.toArray 46) := ⟨_, rfl⟩
  have hbW : Below w.heap.size w W := by rw [hW]; exact (Below.refl _ _).alloc (Nat.le_refl _) _
  have hpv : Blk W w.heap.size 46 v.cells.toArray := by rw [hW]; exact Blk.new w 46 _
  have henc := Val.enc_eq v
  have hlt := hpv.lt
  have hok := hv.ok
  rw [hk] at henc
  obtain ⟨p4, q4, e4⟩ := hv.nslice
  obtain ⟨p5, q5, e5⟩ := hv.xslice
  unfold Val.cells at hW hpv
  unfold Val.agg
  rw [hk, e4, e5] at hW hpv ⊢
  have a0 := hpv.cell 0; have a1 := hpv.cell 1; have a2 := hpv.cell 2; have a3 := hpv.cell 3; have a4 := hpv.cell 4; have a5 := hpv.cell 5
  simp only [List.getElem?_toArray, List.getElem?_cons_zero, List.getElem?_cons_succ] at a0 a1 a2 a3 a4 a5
  have hzW : W.heap.size = w.heap.size + 1 := by rw [hW]; simp
  have HW := Lib.hid hW; have HB := Lib.hid hbW; have HPV := Lib.hid hpv
  have hc1 := conv1 W (w.heap.size + 1) 2 1 (by rw [hzW])
  simp only [show UInt8.ofNat (Int.toNat 2) = 2 from rfl] at hc1
  change _ = Result.ok (Value.string (strB [2])) _ at hc1
  have hs1 := strB_size [2]
  have HE : Hid (strB [2] ++ intS v.n = strB v.enc) := Lib.hid (by rw [henc]; show strB [2] ++ strB (ub (zig v.n)) = _; rw [strB_append]; rfl)
  have hul := ub_len64 (zig_lt hok.2.1.1 hok.2.1.2)
  have hs2 : (intS v.n).size ≤ 10 := by show (ub (zig v.n)).toArray.size ≤ 10; rw [List.size_toArray]; exact hul
  have HC := Lib.hid (fun W => wint5_any v.n W hok.2.1.1 hok.2.1.2)
  clear hr hW hbW hpv e4 e5 hv hok henc hlen hul
  go_enter Try.func36, Try.ntmps36
  go_wp2_with fail
  rw [← HW.out, hc1]
  go_wp2_with fail
  refine (HC.out _).mono ?_
  rintro e w2 ⟨rfl, hb⟩
  have HB2 := Lib.hid ((HB.out.alloc HB.out.size (.cells #[.int .u8 2] 5)).trans (hb.mono (by simp; omega)))
  clear hb
  go_wp2
  go_ret
  exact ⟨by rw [HE.out]; rfl, HB2.out⟩

set_option maxHeartbeats 8000000 in
set_option maxRecDepth 100000 in
theorem rwv_str (v : Val) (deep : Nat) (w : World) (hv : v.In w) (hr : v.rightB deep = true) (hlen : v.enc.length + 20 ≤ 140737488355328) (hk : v.k = 4) :
    Calls Try.prog 36 #[v.agg] w fun e w' => Told (strB v.enc) w.heap.size w e w' := by
  obtain ⟨W, hW⟩ : ∃ W, W = w.alloc (.cells v.cells.toArray 46) := ⟨_, rfl⟩
  have hbW : Below w.heap.size w W := by rw [hW]; exact (Below.refl _ _).alloc (Nat.le_refl _) _
  have hpv : Blk W w.heap.size 46 v.cells.toArray := by rw [hW]; exact Blk.new w 46 _
  have henc := Val.enc_eq v
  have hlt := hpv.lt
  have hok := hv.ok
  rw [hk] at henc
  obtain ⟨p4, q4, e4⟩ := hv.nslice
  obtain ⟨p5, q5, e5⟩ := hv.xslice
  unfold Val.cells at hW hpv
  unfold Val.agg
  rw [hk, e4, e5] at hW hpv ⊢
  have a0 := hpv.cell 0; have a1 := hpv.cell 1; have a2 := hpv.cell 2; have a3 := hpv.cell 3; have a4 := hpv.cell 4; have a5 := hpv.cell 5
  simp only [List.getElem?_toArray, List.getElem?_cons_zero, List.getElem?_cons_succ] at a0 a1 a2 a3 a4 a5
  have hzW : W.heap.size = w.heap.size + 1 := by rw [hW]; simp
  have HW := Lib.hid hW; have HB := Lib.hid hbW; have HPV := Lib.hid hpv
  have hc1 := conv1 W (w.heap.size + 1) 4 1 (by rw [hzW])
  simp only [show UInt8.ofNat (Int.toNat 4) = 4 from rfl] at hc1
  change _ = Result.ok (Value.string (strB [4])) _ at hc1
  have hs1 := strB_size [4]
  have HE : Hid (strB [4] ++ strS v.s = strB v.enc) := Lib.hid (by rw [henc]; show strB [4] ++ strB (strE v.s) = _; rw [strB_append]; rfl)
  have hl2 : (strE v.s).length + 20 ≤ 140737488355328 := by
    rw [henc] at hlen
    have e : (UInt8.ofNat (Int.toNat 4) :: (if (4 : Int) = 1 then [UInt8.ofNat v.n.toNat] else if (4 : Int) = 2 then ub (zig v.n) else if (4 : Int) = 3 then fbytes (fcan v.f) 8 else if (4 : Int) = 4 then strE v.s else ub v.xs.length ++ Val.encAll (decide ((4 : Int) = 6)) v.ns v.xs)).length = (strE v.s).length + 1 := rfl
    omega
  have hs2 : (strS v.s).size + 20 ≤ 140737488355328 := by show (strE v.s).toArray.size + 20 ≤ _; rw [List.size_toArray]; exact hl2
  have hsz : v.s.size + 10 ≤ 140737488355328 := by
    have h6 : v.s.data.toList.length = v.s.size := Array.length_toList
    simp only [strE, List.length_append] at hl2
    omega
  have HC := Lib.hid (fun W => wstr5_any v.s W hsz)
  clear hr hW hbW hpv e4 e5 hv hok henc hlen hl2
  go_enter Try.func36, Try.ntmps36
  go_wp2_with fail
  rw [← HW.out, hc1]
  go_wp2_with fail
  refine (HC.out _).mono ?_
  rintro e w2 ⟨rfl, hb⟩
  have HB2 := Lib.hid ((HB.out.alloc HB.out.size (.cells #[.int .u8 4] 5)).trans (hb.mono (by simp; omega)))
  clear hb
  go_wp2
  go_ret
  exact ⟨by rw [HE.out]; rfl, HB2.out⟩

set_option maxHeartbeats 8000000 in
set_option maxRecDepth 100000 in
theorem rwv_float (v : Val) (deep : Nat) (w : World) (hv : v.In w) (hr : v.rightB deep = true) (hlen : v.enc.length + 20 ≤ 140737488355328) (hk : v.k = 3) :
    Calls Try.prog 36 #[v.agg] w fun e w' => Told (strB v.enc) w.heap.size w e w' := by
  obtain ⟨W, hW⟩ : ∃ W, W = w.alloc (.cells v.cells.toArray 46) := ⟨_, rfl⟩
  have hbW : Below w.heap.size w W := by rw [hW]; exact (Below.refl _ _).alloc (Nat.le_refl _) _
  have hpv : Blk W w.heap.size 46 v.cells.toArray := by rw [hW]; exact Blk.new w 46 _
  have henc := Val.enc_eq v
  have hlt := hpv.lt
  have hok := hv.ok
  rw [hk] at henc
  obtain ⟨p4, q4, e4⟩ := hv.nslice
  obtain ⟨p5, q5, e5⟩ := hv.xslice
  unfold Val.cells at hW hpv
  unfold Val.agg
  rw [hk, e4, e5] at hW hpv ⊢
  have a0 := hpv.cell 0; have a1 := hpv.cell 1; have a2 := hpv.cell 2; have a3 := hpv.cell 3; have a4 := hpv.cell 4; have a5 := hpv.cell 5
  simp only [List.getElem?_toArray, List.getElem?_cons_zero, List.getElem?_cons_succ] at a0 a1 a2 a3 a4 a5
  have hzW : W.heap.size = w.heap.size + 1 := by rw [hW]; simp
  have HW := Lib.hid hW; have HB := Lib.hid hbW; have HPV := Lib.hid hpv
  have hc1 := conv1 W (w.heap.size + 1) 3 1 (by rw [hzW])
  simp only [show UInt8.ofNat (Int.toNat 3) = 3 from rfl] at hc1
  change _ = Result.ok (Value.string (strB [3])) _ at hc1
  have hs1 := strB_size [3]
  obtain ⟨i0, hi0, hz0, hz1, hz2⟩ := info_parts byte_info
  have HE : Hid (strB ([3] ++ fbytes (fcan v.f) 8) = strB v.enc) := Lib.hid (by rw [henc]; rfl)
  have hfl := fcan_lt hok.2.2.1
  have HCN := Lib.hid (fun W : World => rcanon_any v.f W)
  obtain ⟨f, hf⟩ : ∃ f, f = fcan v.f := ⟨_, rfl⟩
  rw [← hf] at hfl HE
  simp only [← hf] at HCN
  have hbits := bits_run f
  have hcv := fun W : World => Lib.run_convert_string_bytes (P := Try.prog) W 9 85 5 (strB [3]) Try.underlying9 Try.underlying85 Try.underlying5
  have HOT := Lib.hid (fun (W : World) (h : w.heap.size ≤ W.heap.size) => OwnT.bytes W w.heap.size 5 (strB [3]) h (by rw [strB_size]; unfold maxLen; simp))
  clear hr hW hbW hpv e4 e5 hv hok henc hlen hf
  go_enter Try.func36, Try.ntmps36
  go_wp2_with fail
  rw [← HW.out, hc1]
  go_wp2_with (go_at_call 75; refine (HCN.out _).mono ?_; rintro e w' ⟨rfl, rfl⟩)
  have ho := HOT.out (W.alloc (.cells #[.int .u8 3] 5)) (by simp [hzW]; omega)
  rw [hs1] at ho
  rw [show (W.alloc (.cells #[.int .u8 3] 5)).heap.size = w.heap.size + 1 + 1 from by simp [hzW]] at ho
  have hb3 := below_bytes' (HB.out.alloc HB.out.size (.cells #[.int .u8 3] 5)) (by simp [hzW]; omega) 5 (strB [3])
  have HO := Lib.hid ho; have HB3 := Lib.hid hb3
  clear ho hb3 hcv HOT HCN hbits a0 a1 a2 a3 a4 a5 hc1
  go_loopw [5, 6] (fun ov sv wr => ∃ k : Nat, k ≤ 8 ∧ sv = .int .i64 (56 - 8 * (k : Int)) ∧ Hid (OwnT wr w.heap.size 5 ov (1 + k) (Lib.byteCells ([3] ++ fbytes f k))) ∧ Hid (Below w.heap.size w wr)) (fun _ sv _ => (intOf sv + 8).toNat)
  case atStart => exact ⟨0, by omega, rfl, HO, HB3⟩
  case round =>
    obtain ⟨k, hk, rfl, HOW, HBL⟩ := hrel
    have hbz := HBL.out.size
    clear HO HB3
    by_cases hlt8 : k < 8
    · have hge : decide ((0 : Int) ≤ 56 - 8 * (k : Int)) = true := by simp; omega
      have hng : decide ((56 - 8 * (k : Int)) < 0) = false := by simp; omega
      go_wp2_with (at_builtin; refine wpList_append_T _ rfl (.tmp 43) (.tmp 48) 85 rfl w.heap.size 5 i0 Try.underlying85 hi0 hz0 hz1 hz2 _ (1 + k) (Lib.byteCells ([3] ++ fbytes f k)) rfl (HOW.out.alloc _) ⟨wr.heap.size, 0, none⟩ 1 _ rfl ((Blk.new wr _ _).cell 0) (by rfl) (by unfold maxLen; omega) (by omega) (by simp; omega) ?_)
      intro v' w' hown' hg'
      have hba := HBL.out.alloc hbz (.cells #[.int .u8 ((f : Int) / 2 ^ (56 - 8 * k) % 256)] 5)
      have hb' := Lib.hid (hba.grown hg' hba.size (fun k hk => HOW.out.ge k hk))
      have ho2 : OwnT w' w.heap.size 5 v' (1 + (k + 1)) (Lib.byteCells ([3] ++ fbytes f (k + 1))) := by
        have e : Lib.byteCells ([3] ++ fbytes f (k + 1)) = Lib.byteCells ([3] ++ fbytes f k) ++ [Value.int .u8 ((f : Int) / 2 ^ (56 - 8 * k) % 256)] := by
          rw [fbytes_succ, ← List.append_assoc, Lib.byteCells_append _ [fbyte f k], fbyte_nat]; rfl
        rw [e]
        exact hown'
      have HO2 := Lib.hid ho2
      clear hba hg' hown' ho2 HOW HBL
      go_wp2
      go_roundw
      case rel => exact ⟨k + 1, by omega, by go_num, HO2, hb'⟩
      case measure => simp [intOf]; omega
    · have hge : decide ((0 : Int) ≤ 56 - 8 * (k : Int)) = false := by simp; omega
      have h8 : k = 8 := by omega
      subst h8
      have hcv2 := conv_T HOW.out
      change _ = Result.ok (Value.string (strB ([3] ++ fbytes f 8))) _ at hcv2
      go_wp2_with fail
      go_ret
      exact ⟨by rw [← HE.out]; rfl, HBL.out⟩

set_option maxHeartbeats 8000000 in
set_option maxRecDepth 100000 in
theorem rwv_list (v : Val) (deep : Nat) (w : World) (hv : v.In w) (hr : v.rightB deep = true) (hlen : v.enc.length + 20 ≤ 140737488355328) (hk : v.k = 5)
    (hih : ∀ (x : Val) (w : World), x ∈ v.xs → x.In w → x.rightB (deep + 1) = true → x.enc.length + 20 ≤ 140737488355328 → Calls Try.prog 36 #[x.agg] w fun e w' => Told (strB x.enc) w.heap.size w e w') :
    Calls Try.prog 36 #[v.agg] w fun e w' => Told (strB v.enc) w.heap.size w e w' := by
  obtain ⟨W, hW⟩ : ∃ W, W = w.alloc (.cells v.cells.toArray 46) := ⟨_, rfl⟩
  have hbW : Below w.heap.size w W := by rw [hW]; exact (Below.refl _ _).alloc (Nat.le_refl _) _
  have hpv : Blk W w.heap.size 46 v.cells.toArray := by rw [hW]; exact Blk.new w 46 _
  have henc := Val.enc_eq v
  have hlt := hpv.lt
  have hok := hv.ok
  rw [hk] at henc
  have HIH := Lib.hid hih
  obtain ⟨p4, q4, e4, n4⟩ := names_in (NamesAt.of (hv.below hbW))
  obtain ⟨p5, q5, e5, x5⟩ := items_at (hv.below hbW)
  have hrr : (∀ x, x ∈ v.xs → x.rightB (deep + 1) = true) := by
    rw [Val.rightB_eq] at hr
    by_cases h12 : 12 < deep
    · rw [if_pos h12] at hr; cases hr
    rw [if_neg h12, hk] at hr
    simp only [show ¬ ((5 : Int) = 1) from by omega, show ¬ ((5 : Int) = 2) from by omega, show ¬ ((5 : Int) = 3) from by omega, show ¬ ((5 : Int) = 4) from by omega, if_false, if_true] at hr
    rw [Bool.and_eq_true] at hr
    exact fun x hx => rightAll_mem hr.2 x hx
  unfold Val.cells at hW hpv
  unfold Val.agg
  rw [hk, e4, e5] at hW hpv ⊢
  have a0 := hpv.cell 0; have a1 := hpv.cell 1; have a2 := hpv.cell 2; have a3 := hpv.cell 3; have a4 := hpv.cell 4; have a5 := hpv.cell 5
  simp only [List.getElem?_toArray, List.getElem?_cons_zero, List.getElem?_cons_succ] at a0 a1 a2 a3 a4 a5
  have hzW : W.heap.size = w.heap.size + 1 := by rw [hW]; simp
  have HW := Lib.hid hW; have HB := Lib.hid hbW; have HPV := Lib.hid hpv
  have hc1 := conv1 W (w.heap.size + 1) 5 1 (by rw [hzW])
  simp only [show UInt8.ofNat (Int.toNat 5) = 5 from rfl] at hc1
  change _ = Result.ok (Value.string (strB [5])) _ at hc1
  have hs1 := strB_size [5]
  obtain ⟨T, hT⟩ : ∃ T, T = v.enc := ⟨_, rfl⟩
  have hTe : T = [5] ++ ub v.xs.length ++ Val.encAll false v.ns v.xs := by rw [hT, henc]; rfl
  obtain ⟨L, hL⟩ : ∃ L, L = v.xs.length := ⟨_, rfl⟩
  have hxl := hok.2.2.2.2.2.1
  rw [← hT] at hlen ⊢
  rw [← hL] at hxl hTe HW a5 ⊢
  try rw [← hL] at a4
  have hul := ub_len64 (n := L) (by omega)
  have hs2 : (uintS L).size ≤ 10 := by show (ub L).toArray.size ≤ 10; rw [List.size_toArray]; exact hul
  have hwr : IntKind.u64.wrap (L : Int) = L := by rw [IntKind.wrap_u64]; omega
  have HC := Lib.hid (fun W => wuint5_any L W (by omega))
  have HT := Lib.hid hTe; have HRR := Lib.hid hrr; have HX5 := Lib.hid x5; have HN4 := Lib.hid n4; have HL := Lib.hid hL; have HLEN := Lib.hid hlen
  clear hr hW hbW hpv e4 e5 hv hok henc hlen hul hih hrr x5 n4 hL hT hTe
  go_enter Try.func36, Try.ntmps36
  go_wp2_with fail
  rw [← HW.out, hc1]
  go_wp2_with fail
  refine (HC.out _).mono ?_
  rintro e w2 ⟨rfl, hb⟩
  have HB2 := Lib.hid (((Below.refl W.heap.size W).alloc (Nat.le_refl _) (.cells #[.int .u8 5] 5)).trans (hb.mono (by simp)))
  have hj : strB [5] ++ uintS L = strB ([5] ++ ub L) := strB_append _ (ub L)
  obtain ⟨m0, hm0⟩ : ∃ m0, m0 = [5] ++ ub L := ⟨_, rfl⟩
  rw [← hm0] at hj
  have HM0 := Lib.hid hm0
  have HJ := Lib.hid hj
  clear hb HC hj hm0
  go_wp2_with fail
  rw [HJ.out]
  go_loopw [3, 7] (fun sv iv wr => ∃ (i : Nat) (m : List UInt8), sv = .string (strB m) ∧ iv = .int .i64 (i : Int) ∧ i ≤ L ∧ Hid (m ++ Val.encAll false (v.ns.drop i) (v.xs.drop i) = T) ∧ Hid (Below W.heap.size W wr)) (fun _ iv _ => L - (intOf iv).toNat)
  case atStart => exact ⟨0, _, rfl, rfl, by omega, Lib.hid (by rw [HT.out, HM0.out]; rfl), HB2⟩
  case round =>
    obtain ⟨i, m, rfl, rfl, hi, HR, HBR⟩ := hrel
    clear a0 a1 a2 a3 a4 a5 HB2 HT
    have q := HPV.out.below HBR.out HPV.out.lt
    have a0 := q.cell 0; have a4 := q.cell 4; have a5 := q.cell 5
    simp only [List.getElem?_toArray, List.getElem?_cons_zero, List.getElem?_cons_succ] at a0 a4 a5
    rw [← HL.out] at a5
    try rw [← HL.out] at a4
    by_cases hlt2 : i < L
    · have hil : i < v.xs.length := by rw [← HL.out]; exact hlt2
      obtain ⟨xb, xo, rfl, hpx, hlc⟩ := HX5.out i hil
      rw [← HL.out] at hlc
      have hst := encAll_step (b := false) (ns := v.ns) hil
      obtain ⟨x, hxx⟩ : ∃ x, x = v.xs[i]'hil := ⟨_, rfl⟩
      have hxm : x ∈ v.xs := by rw [hxx]; exact List.getElem_mem hil
      have hR := HR.out
      rw [hst] at hR
      rw [← hxx] at hR hpx
      simp only [cond_false, cond_true, List.nil_append] at hR
      have hk0 : (0 : Int) ≤ (i : Int) := by omega
      have hk1 : (i : Int) < (L : Int) := by omega
      have hpx := hpx.below HBR.out
      have x0 := hpx.c0; have x1 := hpx.c1; have x2 := hpx.c2; have x3 := hpx.c3; have x4 := hpx.c4; have x5 := hpx.c5
      obtain ⟨s4, z4, g4⟩ := hpx.in.nslice
      obtain ⟨s5, z5, g5⟩ := hpx.in.xslice
      rw [g4] at x4
      rw [g5] at x5
      have hll := HLEN.out
      rw [← hR] at hll
      simp only [List.length_append] at hll
      have HC2 := Lib.hid (HIH.out x wr hxm hpx.in (HRR.out x hxm) (by omega))
      unfold Val.agg at HC2
      rw [g4, g5] at HC2
      have HR2 := Lib.hid hR
      have hm1 : (strB m).size + 20 ≤ 140737488355328 := by rw [strB_size]; omega
      have hm2 : (strB x.enc).size + 20 ≤ 140737488355328 := by rw [strB_size]; omega
      have hm3 : (strB m).size + (strB x.enc).size + 20 ≤ 140737488355328 := by rw [strB_size, strB_size]; omega
      have HJ2 := Lib.hid (strB_append m x.enc)
      clear q hst hR hpx g4 g5 hll hxx hil HR
      go_wp2_with fail
      refine HC2.out.mono ?_
      rintro e w3 ⟨rfl, hb⟩
      have HB3 := Lib.hid (HBR.out.trans (hb.mono HBR.out.size))
      clear hb HC2 a0 a4 a5 x0 x1 x2 x3 x4 x5
      go_wp2_with fail
      go_roundw
      case rel => exact ⟨i + 1, _, by rw [HJ2.out], by go_num, by omega, Lib.hid (by rw [← HR2.out, List.append_assoc]), HB3⟩
      case measure => simp [intOf]; omega
    · have t1 : decide ((i : Int) < (L : Int)) = false := by simp; omega
      have t1' : decide (i < L) = false := by simp; omega
      have hmT : m = T := by
        have hR := HR.out
        rw [show v.xs.drop i = [] from List.drop_eq_nil_of_le (by rw [← HL.out]; omega)] at hR
        simpa [Val.encAll] using hR
      subst hmT
      clear q HR hlt2 hi
      go_wp2_with fail
      go_ret
      exact ⟨rfl, HB.out.trans (HBR.out.mono HB.out.size)⟩

set_option maxHeartbeats 8000000 in
set_option maxRecDepth 100000 in
theorem rwv_rec (v : Val) (deep : Nat) (w : World) (hv : v.In w) (hr : v.rightB deep = true) (hlen : v.enc.length + 20 ≤ 140737488355328) (hk : v.k = 6)
    (hih : ∀ (x : Val) (w : World), x ∈ v.xs → x.In w → x.rightB (deep + 1) = true → x.enc.length + 20 ≤ 140737488355328 → Calls Try.prog 36 #[x.agg] w fun e w' => Told (strB x.enc) w.heap.size w e w') :
    Calls Try.prog 36 #[v.agg] w fun e w' => Told (strB v.enc) w.heap.size w e w' := by
  obtain ⟨W, hW⟩ : ∃ W, W = w.alloc (.cells v.cells.toArray 46) := ⟨_, rfl⟩
  have hbW : Below w.heap.size w W := by rw [hW]; exact (Below.refl _ _).alloc (Nat.le_refl _) _
  have hpv : Blk W w.heap.size 46 v.cells.toArray := by rw [hW]; exact Blk.new w 46 _
  have henc := Val.enc_eq v
  have hlt := hpv.lt
  have hok := hv.ok
  rw [hk] at henc
  have HIH := Lib.hid hih
  obtain ⟨p4, q4, e4, n4⟩ := names_in (NamesAt.of (hv.below hbW))
  obtain ⟨p5, q5, e5, x5⟩ := items_at (hv.below hbW)
  have hrr : (∀ x, x ∈ v.xs → x.rightB (deep + 1) = true) ∧ v.ns.length = v.xs.length := by
    rw [Val.rightB_eq] at hr
    by_cases h12 : 12 < deep
    · rw [if_pos h12] at hr; cases hr
    rw [if_neg h12, hk] at hr
    simp only [show ¬ ((6 : Int) = 1) from by omega, show ¬ ((6 : Int) = 2) from by omega, show ¬ ((6 : Int) = 3) from by omega, show ¬ ((6 : Int) = 4) from by omega, show ¬ ((6 : Int) = 5) from by omega, if_false, if_true] at hr
    rw [Bool.and_eq_true, Bool.and_eq_true, Bool.and_eq_true] at hr
    exact ⟨fun x hx => rightAll_mem hr.2 x hx, by simpa using hr.1.1.1⟩
  have e4 : v.na.val v.ns.length = .slice p4 v.xs.length q4 := by rw [e4, hrr.2]
  unfold Val.cells at hW hpv
  unfold Val.agg
  rw [hk, e4, e5] at hW hpv ⊢
  have a0 := hpv.cell 0; have a1 := hpv.cell 1; have a2 := hpv.cell 2; have a3 := hpv.cell 3; have a4 := hpv.cell 4; have a5 := hpv.cell 5
  simp only [List.getElem?_toArray, List.getElem?_cons_zero, List.getElem?_cons_succ] at a0 a1 a2 a3 a4 a5
  have hzW : W.heap.size = w.heap.size + 1 := by rw [hW]; simp
  have HW := Lib.hid hW; have HB := Lib.hid hbW; have HPV := Lib.hid hpv
  have hc1 := conv1 W (w.heap.size + 1) 6 1 (by rw [hzW])
  simp only [show UInt8.ofNat (Int.toNat 6) = 6 from rfl] at hc1
  change _ = Result.ok (Value.string (strB [6])) _ at hc1
  have hs1 := strB_size [6]
  obtain ⟨T, hT⟩ : ∃ T, T = v.enc := ⟨_, rfl⟩
  have hTe : T = [6] ++ ub v.xs.length ++ Val.encAll true v.ns v.xs := by rw [hT, henc]; rfl
  obtain ⟨L, hL⟩ : ∃ L, L = v.xs.length := ⟨_, rfl⟩
  have hxl := hok.2.2.2.2.2.1
  rw [← hT] at hlen ⊢
  rw [← hL] at hxl hTe HW a5 ⊢
  try rw [← hL] at a4
  have hul := ub_len64 (n := L) (by omega)
  have hs2 : (uintS L).size ≤ 10 := by show (ub L).toArray.size ≤ 10; rw [List.size_toArray]; exact hul
  have hwr : IntKind.u64.wrap (L : Int) = L := by rw [IntKind.wrap_u64]; omega
  have HC := Lib.hid (fun W => wuint5_any L W (by omega))
  have HT := Lib.hid hTe; have HRR := Lib.hid hrr; have HX5 := Lib.hid x5; have HN4 := Lib.hid n4; have HL := Lib.hid hL; have HLEN := Lib.hid hlen
  clear hr hW hbW hpv e4 e5 hv hok henc hlen hul hih hrr x5 n4 hL hT hTe
  go_enter Try.func36, Try.ntmps36
  go_wp2_with fail
  rw [← HW.out, hc1]
  go_wp2_with fail
  refine (HC.out _).mono ?_
  rintro e w2 ⟨rfl, hb⟩
  have HB2 := Lib.hid (((Below.refl W.heap.size W).alloc (Nat.le_refl _) (.cells #[.int .u8 6] 5)).trans (hb.mono (by simp)))
  have hj : strB [6] ++ uintS L = strB ([6] ++ ub L) := strB_append _ (ub L)
  obtain ⟨m0, hm0⟩ : ∃ m0, m0 = [6] ++ ub L := ⟨_, rfl⟩
  rw [← hm0] at hj
  have HM0 := Lib.hid hm0
  have HJ := Lib.hid hj
  clear hb HC hj hm0
  go_wp2_with fail
  rw [HJ.out]
  go_loopw [3, 7] (fun sv iv wr => ∃ (i : Nat) (m : List UInt8), sv = .string (strB m) ∧ iv = .int .i64 (i : Int) ∧ i ≤ L ∧ Hid (m ++ Val.encAll true (v.ns.drop i) (v.xs.drop i) = T) ∧ Hid (Below W.heap.size W wr)) (fun _ iv _ => L - (intOf iv).toNat)
  case atStart => exact ⟨0, _, rfl, rfl, by omega, Lib.hid (by rw [HT.out, HM0.out]; rfl), HB2⟩
  case round =>
    obtain ⟨i, m, rfl, rfl, hi, HR, HBR⟩ := hrel
    clear a0 a1 a2 a3 a4 a5 HB2 HT
    have q := HPV.out.below HBR.out HPV.out.lt
    have a0 := q.cell 0; have a4 := q.cell 4; have a5 := q.cell 5
    simp only [List.getElem?_toArray, List.getElem?_cons_zero, List.getElem?_cons_succ] at a0 a4 a5
    rw [← HL.out] at a5
    try rw [← HL.out] at a4
    by_cases hlt2 : i < L
    · have hil : i < v.xs.length := by rw [← HL.out]; exact hlt2
      obtain ⟨xb, xo, rfl, hpx, hlc⟩ := HX5.out i hil
      rw [← HL.out] at hlc
      have hst := encAll_step (b := true) (ns := v.ns) hil
      obtain ⟨x, hxx⟩ : ∃ x, x = v.xs[i]'hil := ⟨_, rfl⟩
      have hxm : x ∈ v.xs := by rw [hxx]; exact List.getElem_mem hil
      have hR := HR.out
      rw [hst] at hR
      rw [← hxx] at hR hpx
      simp only [cond_false, cond_true, List.nil_append] at hR
      have hk0 : (0 : Int) ≤ (i : Int) := by omega
      have hk1 : (i : Int) < (L : Int) := by omega
      have hpx := hpx.below HBR.out
      have x0 := hpx.c0; have x1 := hpx.c1; have x2 := hpx.c2; have x3 := hpx.c3; have x4 := hpx.c4; have x5 := hpx.c5
      obtain ⟨s4, z4, g4⟩ := hpx.in.nslice
      obtain ⟨s5, z5, g5⟩ := hpx.in.xslice
      rw [g4] at x4
      rw [g5] at x5
      have hll := HLEN.out
      rw [← hR] at hll
      simp only [List.length_append] at hll
      have hns := HRR.out.2
      obtain ⟨nb, no, rfl, hnb, hnc, hncl⟩ := HN4.out i (by rw [hns]; exact hil)
      have hnl : v.ns.length = L := by rw [hns, ← HL.out]
      obtain ⟨s, hs⟩ : ∃ s, s = v.ns.getD i ByteArray.empty := ⟨_, rfl⟩
      rw [← hs] at hnc hR hll
      rw [hnl] at hncl
      have hnw : wr.cell? ⟨nb, no + i, none⟩ = some (.string s) := (HBR.out.cell (p := ⟨nb, no + i, none⟩) hnb).trans hnc
      have hssz : s.size + 10 ≤ 140737488355328 := by
        have h6 : s.data.toList.length = s.size := Array.length_toList
        simp only [strE, List.length_append] at hll
        omega
      have HCS := Lib.hid (wstr5_any s wr hssz)
      have HC2 := Lib.hid (fun (w' : World) (hb : Below wr.heap.size wr w') => HIH.out x w' hxm (hpx.in.below hb) (HRR.out.1 x hxm) (by omega))
      unfold Val.agg at HC2
      rw [g4, g5] at HC2
      have HPX := Lib.hid hpx
      have HR2 := Lib.hid hR
      have hm1 : (strB m).size + 20 ≤ 140737488355328 := by rw [strB_size]; omega
      have hm2 : (strB x.enc).size + 20 ≤ 140737488355328 := by rw [strB_size]; omega
      have hes : strS s = strB (strE s) := rfl
      have hm4 : (strS s).size + (strB m).size + 20 ≤ 140737488355328 := by rw [hes, strB_size, strB_size]; omega
      have hm3 : (strB (m ++ strE s)).size + (strB x.enc).size + 20 ≤ 140737488355328 := by rw [strB_size, strB_size, List.length_append]; omega
      have HJ1 := Lib.hid (show strB m ++ strS s = strB (m ++ strE s) from strB_append m (strE s))
      have HJ2 := Lib.hid (strB_append (m ++ strE s) x.enc)
      have HG4 := Lib.hid g4; have HG5 := Lib.hid g5; have HQ := Lib.hid q
      clear q hst hR hpx g4 g5 hll hxx hil HR hs hns hnl hnc hes x0 x1 x2 x3 x4 x5
      go_wp2_with fail
      refine HCS.out.mono ?_
      rintro e w3 ⟨rfl, hb⟩
      have HC3 := Lib.hid (HC2.out w3 hb)
      have hpx := HPX.out.below hb
      have hq := HQ.out.below hb HQ.out.lt
      have HB3 := Lib.hid (HBR.out.trans (hb.mono HBR.out.size))
      have a5 := hq.cell 5
      simp only [List.getElem?_toArray, List.getElem?_cons_zero, List.getElem?_cons_succ] at a5
      rw [← HL.out] at a5
      have x0 := hpx.c0; have x1 := hpx.c1; have x2 := hpx.c2; have x3 := hpx.c3; have x4 := hpx.c4; have x5 := hpx.c5
      rw [HG4.out] at x4
      rw [HG5.out] at x5
      clear hb HC2 HCS a0 a4 hnw hpx hq HPX
      go_wp2_with (rw [HJ1.out])
      refine HC3.out.mono ?_
      rintro e w4 ⟨rfl, hb⟩
      have HB4 := Lib.hid (HB3.out.trans (hb.mono HB3.out.size))
      clear hb HC3 a5 x0 x1 x2 x3 x4 x5
      go_wp2_with fail
      go_roundw
      case rel => exact ⟨i + 1, _, by rw [HJ2.out], by go_num, by omega, Lib.hid (by rw [← HR2.out]; simp only [List.append_assoc]), HB4⟩
      case measure => simp [intOf]; omega
    · have t1 : decide ((i : Int) < (L : Int)) = false := by simp; omega
      have t1' : decide (i < L) = false := by simp; omega
      have hmT : m = T := by
        have hR := HR.out
        rw [show v.xs.drop i = [] from List.drop_eq_nil_of_le (by rw [← HL.out]; omega)] at hR
        simpa [Val.encAll] using hR
      subst hmT
      clear q HR hlt2 hi
      go_wp2_with fail
      go_ret
      exact ⟨rfl, HB.out.trans (HBR.out.mono HB.out.size)⟩

theorem rwvalue_any (d : Nat) : ∀ (v : Val) (deep : Nat) (w : World), v.sz ≤ d → v.In w → v.rightB deep = true → v.enc.length + 20 ≤ 140737488355328 →
    Calls Try.prog 36 #[v.agg] w fun e w' => Told (strB v.enc) w.heap.size w e w' := by
  induction d with
  | zero => intro v deep w hd; rw [Val.sz_eq] at hd; omega
  | succ d ih =>
    intro v deep w hd hv hr hlen
    have hkk := ((Val.kinds_iff v).1 (Val.kinds_of_right v.sz v deep (Nat.le_refl _) hr)).1
    have hih : ∀ (x : Val) (w : World), x ∈ v.xs → x.In w → x.rightB (deep + 1) = true → x.enc.length + 20 ≤ 140737488355328 → Calls Try.prog 36 #[x.agg] w fun e w' => Told (strB x.enc) w.heap.size w e w' :=
      fun x w hx => ih x (deep + 1) w (by have := Val.size_mem hx; omega)
    rcases (by omega : v.k = 1 ∨ v.k = 2 ∨ v.k = 3 ∨ v.k = 4 ∨ v.k = 5 ∨ v.k = 6) with hk | hk | hk | hk | hk | hk
    · exact rwv_bool v deep w hv hr hlen hk
    · exact rwv_int v deep w hv hr hlen hk
    · exact rwv_float v deep w hv hr hlen hk
    · exact rwv_str v deep w hv hr hlen hk
    · exact rwv_list v deep w hv hr hlen hk hih
    · exact rwv_rec v deep w hv hr hlen hk hih
end Go.Proofs.Ytemhinagajfemaa
