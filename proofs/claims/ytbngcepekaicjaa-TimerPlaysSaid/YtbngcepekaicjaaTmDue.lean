/- The first second; those whose second has come. -/
import Derived.Test.YtbngcepekaicjaaTmDrop
import Derived.LoopTactic
namespace Go.Proofs.Ytbngcepekaicjaa
set_option linter.unusedVariables false
open Go.RowKit

theorem KeptF.grownR {w w' w'' : World} {g B : Nat} {F row : Option Nat} (h : KeptF w w' g F) (k : w'.grownBy w'' row) (hr : ∀ k, row = some k → w.heap.size ≤ k) : KeptF w w'' g F :=
  ⟨k.os.trans h.os, k.tape.trans h.tape, k.output.trans h.output, Nat.le_trans h.size k.size, fun i hi h1 h2 => (k.block i (Nat.lt_of_lt_of_le hi h.size) (fun e => by have := hr i e.symm; omega)).trans (h.block i hi h1 h2)⟩
theorem int_facts : (Try.prog.info? 3).map (fun i => (i.zero, i.size, i.bytes)) = some (some (.int .i64 0), 1, 8) := by kernel_rfl
theorem own_own_ne {w : World} {b1 b2 s1 s2 n1 n2 : Nat} {e1 e2 : TypeId} {v1 v2 : Value} {x1 x2 : List Value} (h1 : w.ownsRow b1 e1 s1 v1 n1 x1) (h2 : w.ownsRow b2 e2 s2 v2 n2 x2) (hne : e1 ≠ e2) : ∀ k, v1.ownBlock = some k → some k ≠ v2.ownBlock := by
  rcases h2.2 with ⟨rfl, _⟩ | ⟨b, cap, cur, rfl, _, hb, _⟩
  · intro k _ e; cases e
  · intro k hk e
    injection e with e
    simp only [] at e
    subst e
    exact own_ne h1 (show Blk w _ e2 cur from hb) hne hk.symm
/-- A row of another type is as it was. -/
theorem own_keptF {w w' : World} {g base size n : Nat} {F : Option Nat} {e : TypeId} {v : Value} {xs : List Value} {L : List Wt} (h : w.ownsRow base e size v n xs) (hW : Wheel w g F L) (k : KeptF w w' g F) (h1 : e ≠ 54) (h2 : e ≠ 57) : w'.ownsRow base e size v n xs := by
  obtain ⟨v0, l0, hw, rfl, _⟩ := hW
  refine ⟨h.1, ?_⟩
  rcases h.2 with h0 | ⟨b, cap, cur, rfl, hb, hg, hr⟩
  · exact .inl h0
  · refine .inr ⟨b, cap, cur, rfl, hb, (k.block b ?_ ?_ ?_).trans hg, hr⟩
    · rcases Nat.lt_or_ge b w.heap.size with h' | h'
      · exact h'
      · rw [Array.getElem?_eq_none h'] at hg; cases hg
    · exact fun e' => Blk.ne_ (show Blk w b e cur from hg) hw.1 h1 e'
    · exact own_own_ne h hw.2 h2 b rfl
/-- The wheel behind an append to a row of another type. -/
theorem Wheel.grow {w w' : World} {g base size n : Nat} {F : Option Nat} {e : TypeId} {v : Value} {xs : List Value} {L : List Wt} (hW : Wheel w g F L) (h : w.ownsRow base e size v n xs) (k : w.grownBy w' v.ownBlock) (h1 : e ≠ 54) (h2 : e ≠ 57) : Wheel w' g F L := by
  have hW' := hW
  obtain ⟨v0, l0, hw, rfl, _⟩ := hW
  refine hW'.keep fun i hi hc => k.block i hi ?_
  rcases hc with rfl | hc
  · exact own_ne h hw.1 h1
  · exact own_own_ne hw.2 h (fun e' => h2 e'.symm) i hc.symm

def NextOut (L : List Wt) (w : World) (e : Ending) (w' : World) : Prop := e = .returned (.tuple #[.int .i64 (match L with | [] => 0 | x :: _ => x.2), .bool (!L.isEmpty)]) ∧ w = w'
theorem next_nil (w : World) : Calls Try.prog 20 #[.pointer none] w fun e w' => NextOut [] w e w' := by
  have hnp : ∀ (W : World), (binOp .eql 25 (.pointer none) (.pointer none)).run Try.prog W = .ok (.bool true) W := fun _ => rfl
  go_enter Try.func20, Try.ntmps20
  go_wp2
  go_ret2
  exact ⟨rfl, rfl⟩
theorem next_any (g : Nat) (F : Option Nat) (L : List Wt) (w : World) (h : Wheel w g F L) : Calls Try.prog 20 #[.pointer (some ⟨g, 0, none⟩)] w fun e w' => NextOut L w e w' := by
  have hnp : ∀ (W : World) (a : Addr), (binOp .eql 25 (.pointer (some a)) (.pointer none)).run Try.prog W = .ok (.bool false) W := fun _ _ => rfl
  obtain ⟨v, l, hw, rfl, hh, hp, hok⟩ := h
  obtain ⟨A, cap, e, hr, hcap⟩ := hw.lie
  have cg := hw.1.cell 0
  simp only [List.getElem?_toArray, List.getElem?_cons_zero, e] at cg
  cases L with
  | nil =>
    have hl : l = [] := hp.eq_nil
    subst hl
    simp only [List.length_nil] at cg
    clear hw hr hp hok e hh
    go_enter Try.func20, Try.ntmps20
    go_wp2
    go_ret2
    exact ⟨rfl, rfl⟩
  | cons x L =>
    have hl0 : 0 < l.length := by rw [hp.length_eq]; simp
    obtain ⟨b, rfl, _, c0, c1⟩ := hr 0 hl0
    rw [root_first hh hp hok.sorted] at c0 c1
    simp only [Nat.zero_mul, Nat.zero_add] at c0 c1
    obtain ⟨n, hn⟩ : ∃ n, n = l.length := ⟨_, rfl⟩
    rw [← hn] at cg hl0
    have hn0 : (0 : Int) < (n : Int) := by omega
    have hne : ((n : Int) == 0) = false := by simp; omega
    clear hw hr hp hok e hh hn
    go_enter Try.func20, Try.ntmps20
    go_wp2
    go_ret2
    exact ⟨rfl, rfl⟩

/-- How many wait, read off memory. -/
def whLen (w : World) (g : Nat) : Nat := match w.cell? ⟨g, 0, none⟩ with | some (.slice _ n _) => n | _ => 0
theorem whLen_of {w : World} {g : Nat} {F : Option Nat} {L : List Wt} (h : Wheel w g F L) : whLen w g = L.length := by
  obtain ⟨v, l, hw, rfl, hh, hp, hok⟩ := h
  obtain ⟨A, cap, e, _⟩ := hw.lie
  have cg := hw.1.cell 0
  simp only [List.getElem?_toArray, List.getElem?_cons_zero, e] at cg
  unfold whLen
  rw [cg, ← hp.length_eq]
/-- A list of numbers in new memory. -/
def IntsAt (w : World) (B : Nat) (sv : Value) (O : List Int) : Prop := w.ownsRow B 3 1 sv O.length (O.map (Value.int .i64))
theorem IntsAt.form {w : World} {B : Nat} {sv : Value} {O : List Int} (h : IntsAt w B sv O) : ∃ A cap, sv = .slice A O.length cap := by
  rcases h.2 with ⟨rfl, h0⟩ | ⟨b, cap, cur, rfl, _⟩
  · exact ⟨none, 0, by rw [h0]⟩
  · exact ⟨_, _, rfl⟩
def DueRel (g : Nat) (F : Option Nat) (L : List Wt) (now : Int) (w : World) (sv : Value) (wr : World) : Prop :=
  ∃ P M F', L = P ++ M ∧ (∀ x, x ∈ P → x.2 ≤ now) ∧ Wheel wr g F' M ∧ KeptF w wr g F ∧ NewF w F F' ∧ IntsAt wr w.heap.size sv (P.map (·.1))
def DueOut (g : Nat) (F : Option Nat) (L : List Wt) (now : Int) (w : World) (e : Ending) (w' : World) : Prop := ∃ sv, e = .returned sv ∧ IntsAt w' w.heap.size sv (dueO L now) ∧ TurnedTo g F (dueL L now) w w'
theorem due_split {P M : List Wt} {now : Int} (h : ∀ x, x ∈ P → x.2 ≤ now) (hm : M = [] ∨ ∃ x M', M = x :: M' ∧ now < x.2) : dueO (P ++ M) now = P.map (·.1) ∧ dueL (P ++ M) now = M := by
  have h1 : (P ++ M).takeWhile (fun x => decide (x.2 ≤ now)) = P ∧ (P ++ M).dropWhile (fun x => decide (x.2 ≤ now)) = M := by
    induction P with
    | nil =>
      rcases hm with rfl | ⟨x, M', rfl, hx⟩
      · exact ⟨rfl, rfl⟩
      · have hd : decide (x.2 ≤ now) = false := by simp; omega
        simp [List.takeWhile_cons, List.dropWhile_cons, hd]
    | cons y P ih =>
      have hd : decide (y.2 ≤ now) = true := by simpa using h y (by simp)
      have := ih (fun x hx => h x (by simp [hx]))
      simp [List.takeWhile_cons, List.dropWhile_cons, hd, this]
  unfold dueO dueL
  rw [h1.1, h1.2]
  exact ⟨rfl, rfl⟩
theorem due_nil (now : Int) (w : World) : Calls Try.prog 11 #[.pointer none, .int .i64 now] w fun e w' => e = .returned (.slice none 0 0) ∧ w = w' := by
  have hnp : ∀ (W : World), (binOp .neq 25 (.pointer none) (.pointer none)).run Try.prog W = .ok (.bool false) W := fun _ => rfl
  go_enter Try.func11, Try.ntmps11
  go_wp2
  go_loop [4] (fun sv => sv = .slice none 0 0) (fun _ => 0)
  case atStart => rfl
  case round =>
    obtain rfl := hrel
    go_wp2
    go_ret
    exact ⟨rfl, rfl⟩
set_option maxHeartbeats 2000000 in
set_option maxRecDepth 100000 in
theorem due_any (g : Nat) (F : Option Nat) (L : List Wt) (now : Int) (w : World) (h : Wheel w g F L) : Calls Try.prog 11 #[.pointer (some ⟨g, 0, none⟩), .int .i64 now] w fun e w' => DueOut g F L now w e w' := by
  have hnp : ∀ (W : World) (a : Addr), (binOp .neq 25 (.pointer (some a)) (.pointer none)).run Try.prog W = .ok (.bool true) W := fun _ _ => rfl
  obtain ⟨i0, hi, hz0, hz1, hz2⟩ := info_parts int_facts
  have HW := Lib.hid h
  have HI := Lib.hid hi; have HZ0 := Lib.hid hz0; have HZ1 := Lib.hid hz1; have HZ2 := Lib.hid hz2
  have hLlen : L.length ≤ 200 := h.ok.len
  clear h hi hz0 hz1 hz2
  go_enter Try.func11, Try.ntmps11
  go_wp2
  go_loopw [4] (fun sv wr => DueRel g F L now w sv wr) (fun _ wr => whLen wr g)
  case atStart => exact ⟨[], L, F, rfl, fun x hx => by simp at hx, HW.out, .refl _ _ _, .inl rfl, World.ownsRow_nil _ _ _ _⟩
  case round =>
    obtain ⟨P, M, F', hL, hP, hwr, hk, hnf, hown⟩ := hrel
    obtain ⟨O, hO⟩ : ∃ O, O = P.map (·.1) := ⟨_, rfl⟩
    rw [← hO] at hown
    obtain ⟨A, cp, rfl⟩ := hown.form
    have HO := Lib.hid hO
    have hwr' := hwr
    obtain ⟨v, l, hw, rfl, hh, hp, hok⟩ := hwr'
    obtain ⟨A', cap', e', hr, hcap⟩ := hw.lie
    have cg := hw.1.cell 0
    simp only [List.getElem?_toArray, List.getElem?_cons_zero, e'] at cg
    have hPM : P.length + M.length ≤ 200 := by rw [hL, List.length_append] at hLlen; exact hLlen
    have hll := hp.length_eq
    obtain ⟨n, hn⟩ : ∃ n, n = l.length := ⟨_, rfl⟩
    rw [← hn] at cg
    have hn200 : (n : Int) ≤ 200 := by omega
    obtain ⟨pl, hpl⟩ : ∃ pl, pl = O.length := ⟨_, rfl⟩
    rw [← hpl]
    have HPL := Lib.hid hpl
    have hpl2 : pl = P.length := by rw [hpl, hO, List.length_map]
    have hpl200 : (pl : Int) + M.length ≤ 200 := by omega
    have HOWN := Lib.hid hown
    have HROW : Hid (wr.ownsRow w.heap.size 3 1 (.slice A pl cp) pl (O.map (Value.int .i64))) := Lib.hid (by rw [hpl]; exact hown)
    rw [← hpl] at HOWN
    clear hpl hown hO hpl2
    cases M with
    | nil =>
      have hn0 : n = 0 := by rw [hn, hll]; rfl
      subst hn0
      have hds := due_split hP (.inl rfl)
      have HX := Lib.hid (And.intro hwr (And.intro hk (And.intro hnf (And.intro hL hds))))
      clear hwr hk hnf hL hds hP hw hh hp hok e' hr hcap hn hll hLlen
      go_wp2
      go_ret
      obtain ⟨x1, x2, x3, x4, x5, x6⟩ := HX.out
      exact ⟨_, rfl, by rw [x4, x5, ← HO.out]; exact HOWN.out, _, by rw [x4, x6]; exact x1, x2, x3⟩
    | cons x M =>
      have hl0 : 0 < l.length := by rw [hll]; simp
      obtain ⟨b, rfl, hbl, c0, c1⟩ := hr 0 hl0
      rw [root_first hh hp hok.sorted] at c0 c1
      simp only [Nat.zero_mul, Nat.zero_add] at c0 c1
      have hn0 : (0 : Int) < (n : Int) := by omega
      have hnat : 0 < n := by omega
      by_cases hx : x.2 ≤ now
      · have hrest := root_rest hh hp hok.sorted
        obtain ⟨b2, cap2, r, e2, _, hb2, hc2, hlen2, hm2⟩ := hw.row hl0
        have hAe := e'.symm.trans e2
        injection hAe with hA1 hA2 hA3
        injection hA1 with hA1
        injection hA1 with hA1
        subst hA1 hA3
        rw [e'] at hnf hwr
        have hok' : OkW M := hok.sub (List.sublist_cons_self x M)
        have hgw := hw.1
        rw [e'] at hgw hw
        have HX := Lib.hid (And.intro hwr (And.intro hk (And.intro hnf (And.intro hL (And.intro hP (And.intro hx hrest))))))
        have HY := Lib.hid (And.intro hgw (And.intro hb2 (And.intro hc2 (And.intro hlen2 (And.intro hm2 (And.intro hl0 (And.intro hok' (And.intro hn hw))))))))
        have hl300 : l.length ≤ 300 := by omega
        clear hwr hk hnf hL hP hw hh hp hok e' hr hcap hn hll hLlen hrest e2 hb2 hc2 hlen2 hm2 hgw hl0 hok'
        have hplL : pl + 1 ≤ 201 := by omega
        go_wp2_with (at_builtin; refine wpList_append_own _ rfl (.tmp 26) (.tmp 34) 22 rfl w.heap.size 3 i0 (.int .i64 0) 1 8 Try.underlying22 HI.out HZ0.out HZ1.out HZ2.out rfl (by decide) _ pl _ rfl (HROW.out.alloc _) ⟨wr.heap.size, 0, none⟩ 1 1 [.int .i64 x.1] rfl rfl (cell_one_new _ _ _) ?c1 ?c2 ?c3 ?c4 ?_)
        case c1 => rfl
        case c2 => unfold maxLen; omega
        case c3 => omega
        case c4 => have := HX.out.2.1.size; simp; omega
        intro sv2 w2 hown2 hgrow hnil
        have HOWN2 := Lib.hid hown2
        have HWR2 := Lib.hid (Wheel.grow (HX.out.1.below ((Below.refl wr.heap.size wr).alloc (Nat.le_refl _) (.cells #[.int .i64 x.1] 3))) (HROW.out.alloc _) hgrow (by decide) (by decide))
        have hg2 := (HY.out.1.alloc (.cells #[.int .i64 x.1] 3)).grown hgrow (own_ne (HROW.out.alloc _) (HY.out.1.alloc (.cells #[.int .i64 x.1] 3)) (by decide))
        have hb2 : HBk w2 b l r := (Blk.alloc HY.out.2.1 (.cells #[.int .i64 x.1] 3)).grown hgrow (own_ne (HROW.out.alloc _) (Blk.alloc HY.out.2.1 (.cells #[.int .i64 x.1] 3)) (by decide))
        have HK2 := Lib.hid (KeptF.grownR (B := 0) (HX.out.2.1.grown ((Only.of_below ((Below.refl wr.heap.size wr).alloc (Nat.le_refl _) (.cells #[.int .i64 x.1] 3)) g)) (.inr (.inl rfl))) hgrow (fun k hv => own_ge HROW.out hv))
        have ht := take_any g b cap' 0 l r w2 hg2 hb2 HY.out.2.2.2.2.2.1 hl300 HY.out.2.2.1
        have HT := Lib.hid ht
        clear hown2 hgrow hnil hg2 hb2 ht cg c0 c1
        go_wp2_with fail
        refine HT.out.mono ?_
        rintro e w3 ⟨rfl, hg3, ⟨r', hb3, hr'⟩, hk3⟩
        have hT := taken_wheel hg3 hb3 hr' hk3 HY.out.2.2.2.2.2.1 HY.out.2.2.1 HY.out.2.2.2.1 HY.out.2.2.2.2.1 HX.out.2.2.2.2.2.2 HY.out.2.2.2.2.2.2.1
        have HOWN3 := Lib.hid (own_keptF HOWN2.out HWR2.out (hk3.f rfl) (by decide) (by decide))
        have HLEN := Lib.hid (whLen_of HX.out.1)
        have hRel : DueRel g F L now w sv2 w3 := by
          obtain ⟨F'', hW3, hK3, hN3⟩ := hT
          refine ⟨P ++ [x], M, F'', ?_, ?_, hW3, HK2.out.trans hK3 HX.out.2.2.1, HX.out.2.2.1.trans hN3 HK2.out.size, ?_⟩
          · rw [HX.out.2.2.2.1]; simp
          · intro y hy
            rcases List.mem_append.1 hy with h | h
            · exact HX.out.2.2.2.2.1 y h
            · simp at h; subst h; exact HX.out.2.2.2.2.2.1
          · have := HOWN3.out
            unfold IntsAt
            rw [List.map_append, ← HO.out]
            simpa [HPL.out] using this
        have HR := Lib.hid hRel
        have HLEN3 := Lib.hid (by obtain ⟨F'', hW3, _⟩ := hT; exact whLen_of hW3)
        clear hT hg3 hb3 hr' hk3 HT hRel
        go_wp2
        go_roundw
        case rel => exact HR.out
        case measure => rw [HLEN.out, HLEN3.out]; simp
      · have hxx : now < x.2 := by omega
        have hds := due_split hP (.inr ⟨x, M, rfl, hxx⟩)
        have HX := Lib.hid (And.intro hwr (And.intro hk (And.intro hnf (And.intro hL hds))))
        clear hwr hk hnf hL hds hP hw hh hp hok e' hr hcap hn hll hLlen hl0
        go_wp2
        go_ret
        obtain ⟨x1, x2, x3, x4, x5, x6⟩ := HX.out
        exact ⟨_, rfl, by rw [x4, x5, ← HO.out]; exact HOWN.out, _, by rw [x4, x6]; exact x1, x2, x3⟩
end Go.Proofs.Ytbngcepekaicjaa
