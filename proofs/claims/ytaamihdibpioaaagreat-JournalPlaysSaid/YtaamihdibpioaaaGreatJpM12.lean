/- The methods of a strings.Builder that is the one field of a struct in a block of its own: what each does. -/
import Derived.Test.YtaamihdibpioaaaGreatJpM1
import Derived.Test.YtaamihdibpioaaaGreatProg
import Derived.Below
import Derived.Lib.Strings
import Derived.Lib.Slices
import Derived.Lib.Walk
import Derived.Lib.Builder
import Derived.Lib.AppendStr
import Derived.Lib.UnsafeStr
import Derived.Laws.Externs
import Derived.Laws.IdiomCopy
import Derived.RegionTactic
import Derived.OwnWalk
set_option maxRecDepth 100000
set_option maxHeartbeats 40000000
namespace Go.Proofs.YtaamihdibpioaaaGreat
open Go.RowKit
def WB (w : World) (B b : Nat) (l : List UInt8) : Prop := Lib.IsBuilder 188 5 B b (Lib.byteCells l) w
theorem builder_size : (Tryz.prog.info? 155).map (·.size) = some 2 := by kernel_rfl
theorem builder_lies : liesAt Tryz.prog Tryz.prog.depth 188 (2 / Tryz.prog.cellsOf 188) 0 155 1 = true := by kernel_rfl
theorem byte_facts : (Tryz.prog.info? 5).map (fun i => (i.zero,i.size,i.bytes)) = some (some (.int .u8 0), 1, 1) := by kernel_rfl
theorem check_used (b : Nat) (w : World) (h0 : w.cell? ⟨b, 0, none⟩ = some (.pointer (some ⟨b, 0, none⟩))) :
  Calls Tryz.prog 117 #[.pointer (some ⟨b, 0,none⟩)] w fun e w' => e = .returned (.tuple #[]) /\ w' = w := by
 obtain ⟨j,hj,_⟩ := Option.map_eq_some_iff.1 builder_size
 go_enter Tryz.func117,Tryz.ntmps117
 go_wp2
 rw [Lib.run_neq_ptr_same w _ Tryz.underlying153 hj]
 go_wp2
 go_end0
 exact ⟨rfl,rfl⟩
theorem check_fresh (b : Nat) (w : World) (h0 : w.cell? ⟨b, 0, none⟩ = some (.pointer none)) (hsh : w.shape? b = some (188, 2)) (hfz : w.frozen? ⟨b, 0, none⟩ = false) :
  Calls Tryz.prog 117 #[.pointer (some ⟨b, 0,none⟩)] w fun e w' => e = .returned (.tuple #[]) /\ w' = w.setCell ⟨b, 0,none⟩ (.pointer (some ⟨b, 0,none⟩)) := by
 obtain ⟨j,hj,hjs⟩ := Option.map_eq_some_iff.1 builder_size
 go_enter Tryz.func117,Tryz.ntmps117
 go_wp2
 rw [Lib.run_to_unsafe w ⟨b, 0,none⟩ Tryz.underlying153 Tryz.underlying208 hj (by rw [hjs]; decide) hsh (Nat.zero_lt_succ 1)]
 simp only [Result.andThen]; rw [Oper.upon_value]
 go_wp2
 rw [run_callFunc_extern Tryz.func135 (by kernel_rfl) (by kernel_rfl) (by kernel_rfl) (e := Extern.AbiNoEscape.same) (by kernel_rfl)]
 rw [Lib.run_noEscape]; simp only [Result.andThen]; rw [Oper.upon_value]
 go_wp2
 rw [Lib.run_from_unsafe w ⟨b, 0,none⟩ Tryz.underlying208 Tryz.underlying153 hj hsh builder_lies]; simp only [Result.andThen]; rw [Oper.upon_value]
 go_wp2
 go_end0
 exact ⟨rfl,rfl⟩
theorem check_any (B b : Nat) (bs : List Value) (w : World) (h : Lib.IsBuilder 188 5 B b bs w) :
  Calls Tryz.prog 117 #[.pointer (some ⟨b, 0,none⟩)] w fun e w' => e = .returned (.tuple #[]) /\ (Lib.BuilderAt 188 5 B b (.pointer (some ⟨b, 0,none⟩)) bs w' /\ Below B w w') := by
 rcases h with h | h
 ·refine (check_fresh b w h.cell0 h.shape h.frozen0).mono ?_
  rintro e w' ⟨rfl,rfl⟩; exact ⟨rfl,h.used _, (Below.refl B w).setCell (p := ⟨b, 0,none⟩) h.1 _⟩
 ·refine (check_used b w h.cell0).mono ?_
  rintro e w' ⟨rfl,rfl⟩; exact ⟨rfl,h,Below.refl B _⟩
theorem bcells_len (l : List UInt8) : (Lib.byteCells l).length = l.length := Lib.byteCells_length l
theorem bcells_app (l m : List UInt8) : Lib.byteCells (l ++ m) = Lib.byteCells l ++ Lib.byteCells m := by simp [Lib.byteCells]
def Wrote (B b : Nat) (l : List UInt8) (w : World) (w' : World) : Prop := WB w' B b l /\ Below B w w'
def ByteWrote (B b : Nat) (l : List UInt8) (w : World) (e : Ending) (w' : World) : Prop := e = .returned .nilIface /\ Wrote B b l w w'
def StrWrote (B b n : Nat) (l : List UInt8) (w : World) (e : Ending) (w' : World) : Prop := e = .returned (.tuple #[.int .i64 n, .nilIface]) /\ Wrote B b l w w'
def Told (s : ByteArray) (B : Nat) (w : World) (e : Ending) (w' : World) : Prop := e = .returned (.string s) /\ Below B w w'
theorem wbyte_any (B b : Nat) (l : List UInt8) (c : UInt8) (w : World) (h : WB w B b l) (hlen : l.length + 1 <= 140737488355328) (hBw : B <= w.heap.size) :
  Calls Tryz.prog 100 #[.pointer (some ⟨b, 0,none⟩), .int .u8 c.toNat] w fun e w' => ByteWrote B b (l ++ [c]) w e w' := by
 obtain ⟨i0,hi,hz0,hz1,hz2⟩ := info_parts byte_facts; have hcl := bcells_len l; have hH := gh h; clear h
 go_enter Tryz.func100,Tryz.ntmps100
 go_wp2_with (go_at_call 117; refine (check_any B b _ _ hH.o).mono ?_)
 rintro e w1 ⟨rfl,h1,hb1⟩; obtain ⟨hB,v,hbk,hown,hne⟩ := h1; have c0 : w1.cell? ⟨b, 0,none⟩ = some (.pointer (some ⟨b, 0,none⟩)) := by rw [Lib.cell_of_heap hbk]; rfl
 have c1 : w1.cell? ⟨b, 1,none⟩ = some v := by rw [Lib.cell_of_heap hbk]; rfl
 go_wp2_with (at_builtin; refine wpList_append_own _ rfl _ _ 105 rfl B 5 i0 (.int .u8 0) 1 1 Tryz.underlying105 hi hz0 hz1 hz2 rfl (by decide) _ _ _ rfl (hown.alloc _) ⟨w1.heap.size, 0,none⟩ 1 1 [.int .u8 c.toNat] rfl rfl ?c1 ?c2 ?c3 ?c4 ?c5 ?_)
 case c1 => exact cells_new w1 _ _
 case c2 => intro u hu; simp at hu; subst hu; rfl
 case c3 => rw [hcl]; unfold maxLen; omega
 case c4 => rw [hcl]; omega
 case c5 => have := hb1.size; simp; omega
 intro v' w2 hown' hgrow _
 have hlt : b < w1.heap.size := by
  rcases Nat.lt_or_ge b w1.heap.size with h' | h'
  ·exact h'
  ·simp [Array.getElem?_eq_none h'] at hbk
 have hb2 : w2.heap[b]? = some (.cells #[.pointer (some ⟨b, 0, none⟩), v] 188 (0, 0)) := by
  rw [hgrow.block b (by simp; omega) (fun e => hne e.symm),Lib.alloc_old w1 _ b hlt]
  exact hbk
 have d0 : w2.cell? ⟨b, 0,none⟩ = some (.pointer (some ⟨b, 0,none⟩)) := by rw [Lib.cell_of_heap hb2]; rfl
 have d1 : w2.cell? ⟨b, 1,none⟩ = some v := by rw [Lib.cell_of_heap hb2]; rfl
 have f1 : w2.frozen? ⟨b, 1,none⟩ = false := Lib.frozen_of_heap hb2 1
 obtain ⟨g, cap, rfl⟩ : ∃ g cap, v' = .slice (some ⟨g, 0, none⟩) (l.length + 1) cap := by
  rcases hown'.2 with ⟨_,h0⟩ | ⟨g,cap,cur,hv,_⟩
  ·omega
  ·exact ⟨g,cap,hv⟩
 go_wp2
 go_ret
 have hput := Lib.BuilderAt.put (T := 188) (e := 5) hB hb2 (bs' := Lib.byteCells (l ++ [c])) (by rw [bcells_app]; simpa [Lib.byteCells,hcl] using hown') (by decide)
 exact ⟨rfl, .inr hput, ((hb1.alloc (by have := hb1.size; omega) _).grown hgrow (by have := hb1.size; simp; omega) (fun k hk => (hown.lt k hk).1)).setCell (p := ⟨b, 1,none⟩) hB _⟩
theorem wstr_any (B b : Nat) (l : List UInt8) (s : ByteArray) (w : World) (h : WB w B b l) (hlen : l.length + s.size <= 140737488355328) (hBw : B <= w.heap.size) :
  Calls Tryz.prog 96 #[.pointer (some ⟨b, 0,none⟩), .string s] w fun e w' => StrWrote B b s.size (l ++ s.data.toList) w e w' := by
 obtain ⟨i0,hi,hz0,hz1,hz2⟩ := info_parts byte_facts; have hcl := bcells_len l; have hH := gh h; clear h
 go_enter Tryz.func96,Tryz.ntmps96
 go_wp2_with (go_at_call 117; refine (check_any B b _ _ hH.o).mono ?_)
 rintro e w1 ⟨rfl,h1,hb1⟩; obtain ⟨hB,v,hbk,hown,hne⟩ := h1; have c0 : w1.cell? ⟨b, 0,none⟩ = some (.pointer (some ⟨b, 0,none⟩)) := by rw [Lib.cell_of_heap hbk]; rfl
 have c1 : w1.cell? ⟨b, 1,none⟩ = some v := by rw [Lib.cell_of_heap hbk]; rfl
 go_wp2_with (at_builtin; refine Lib.wpList_append_own_string _ rfl _ _ 105 9 rfl B 5 i0 Tryz.underlying105 Tryz.underlying9 hi hz0 hz1 hz2 _ _ _ rfl hown s rfl ?c3 ?c4 ?c5 ?_)
 case c3 => rw [hcl]; unfold maxLen; omega
 case c4 => rw [hcl]; omega
 case c5 => have := hb1.size; omega
 intro v' w2 hown' hgrow _
 have hlt : b < w1.heap.size := by
  rcases Nat.lt_or_ge b w1.heap.size with h' | h'
  ·exact h'
  ·simp [Array.getElem?_eq_none h'] at hbk
 have hb2 : w2.heap[b]? = some (.cells #[.pointer (some ⟨b, 0, none⟩), v] 188 (0, 0)) := by
  rw [hgrow.block b hlt (fun e => hne e.symm)]
  exact hbk
 have d0 : w2.cell? ⟨b, 0,none⟩ = some (.pointer (some ⟨b, 0,none⟩)) := by rw [Lib.cell_of_heap hb2]; rfl
 have d1 : w2.cell? ⟨b, 1,none⟩ = some v := by rw [Lib.cell_of_heap hb2]; rfl
 have f1 : w2.frozen? ⟨b, 1,none⟩ = false := Lib.frozen_of_heap hb2 1
 obtain ⟨ao, n', cap, rfl⟩ : ∃ ao n' cap, v' = .slice ao n' cap := by
  rcases hown'.2 with ⟨hv,_⟩ | ⟨g,cap,cur,hv,_⟩
  ·exact ⟨_,_,_,hv⟩
  ·exact ⟨_,_,_,hv⟩
 go_wp2
 go_ret2
 have hsc : Lib.strCells s = Lib.byteCells s.data.toList := rfl; have hput := Lib.BuilderAt.put (T := 188) (e := 5) hB hb2 (bs' := Lib.byteCells (l ++ s.data.toList)) (by rw [bcells_app, <- hsc]; simpa [Lib.strCells_length,hcl] using hown') (by decide)
 exact ⟨rfl, .inr hput, (hb1.grown hgrow (by have := hb1.size; omega) (fun k hk => (hown.lt k hk).1)).setCell (p := ⟨b, 1,none⟩) hB _⟩
section
variable (B b : Nat) (w : World)
theorem sd_nil (W : World) : (Builtin.unsafeSliceData_ #[105] 186 #[.slice none 0 0]).run Tryz.prog W = .ok (.pointer none) W := rfl
theorem string_some (l : List UInt8) (h : WB w B b l) (h0 : l ≠ []) : Calls Tryz.prog 94 #[.pointer (some ⟨b, 0, none⟩)] w fun e w' => Told ⟨l.toArray⟩ B w e w' := by
 obtain ⟨p, hB, v, hbk, hown, hne⟩ : ∃ p, Lib.BuilderAt 188 5 B b p (Lib.byteCells l) w := by
  rcases h with h | h
  ·exact ⟨_,h⟩
  ·exact ⟨_,h⟩
 have hl0 : l.length ≠ 0 := by simpa using h0
 rw [Lib.byteCells_length] at hown
 obtain ⟨g, cap, cur, rfl, hbg, hg, hnc, hcm, hcs, htake⟩ : ∃ g cap cur, v = .slice (some ⟨g, 0, none⟩) l.length cap /\ B <= g /\ w.heap[g]? = some (.cells cur 5 (0, 0)) /\ l.length <= cap /\ cap <= maxLen /\ cur.size = cap * 1 /\ cur.toList.take (l.length * 1) = Lib.byteCells l := by
  rcases hown.2 with ⟨_,hz⟩ | ⟨g,cap,cur,hv,r⟩
  ·exact absurd hz hl0
  ·exact ⟨g,cap,cur,hv,r⟩
 have c1 : w.drew.cell? ⟨b, 1, none⟩ = some (.slice (some ⟨g, 0, none⟩) l.length cap) := by
  have : w.drew.heap[b]? = some (.cells #[p, .slice (some ⟨g, 0,none⟩) l.length cap] 188 (0, 0)) := hbk; rw [Lib.cell_of_heap this]; rfl
 have hSD : (Builtin.unsafeSliceData_ #[105] 186 #[.slice (some ⟨g, 0, none⟩) l.length cap]).run Tryz.prog w.drew = .ok (.pointer (some ⟨g, 0, none⟩)) w.drew :=
  Lib.run_unsafeSliceData_row _ _ _ _ _ _ (by omega)
 have hUS : (Builtin.unsafeString_ #[186, 3] 9 #[.pointer (some ⟨g, 0, none⟩), .int .i64 l.length]).run Tryz.prog w.drew = .ok (.string ⟨l.toArray⟩) (w.drew.freeze ⟨g, 0, none⟩ l.length) := by
  refine Lib.run_unsafeString_row w.drew 186 3 9 5 Tryz.underlying186 (by kernel_rfl) g cur.size (by have hg' : w.drew.heap[g]? = some (.cells cur 5 (0, 0)) := hg; simp [World.shape?,hg']) l h0 (by omega) (by unfold maxLen at hcm; omega) ?_
  intro j x hx; have := hown.cells (g := g) rfl j (.int .u8 x.toNat) (by simp [Lib.byteCells,hx])
  exact this
 clear htake hcs hl0 h0 hown hbk hg h
 go_enter Tryz.func94,Tryz.ntmps94
 go_wp2
 go_region
 all_goals (go_wp2; go_ret; exact ⟨rfl,Lib.below_freeze (Below.drew (Below.refl B w)) (p := ⟨g, 0,none⟩) hbg _⟩)
theorem string_nil (p : Value) (hbk : w.heap[b]? = some (.cells #[p, .slice none 0 0] 188 (0, 0))) : Calls Tryz.prog 94 #[.pointer (some ⟨b, 0, none⟩)] w fun e w' => Told ⟨#[]⟩ B w e w' := by
 have hUS := fun W q => Lib.run_unsafeString_none (P := Tryz.prog) W 186 3 9 q
 have c1 : w.drew.cell? ⟨b, 1, none⟩ = some (.slice none 0 0) := by
  have : w.drew.heap[b]? = some (.cells #[p, .slice none 0 0] 188 (0, 0)) := hbk; rw [Lib.cell_of_heap this]; rfl
 have hSD := sd_nil w.drew
 go_enter Tryz.func94,Tryz.ntmps94
 go_wp2
 go_region
 all_goals (go_wp2; go_ret; exact ⟨rfl,Below.drew (Below.refl B w)⟩)
end
end Go.Proofs.YtaamihdibpioaaaGreat
namespace Go.Proofs.YtaamihdibpioaaaGreat.Pk
open Go.RowKit
def WB (w : World) (B b : Nat) (l : List UInt8) : Prop := Lib.IsBuilder 157 5 B b (Lib.byteCells l) w
def KeepT (b : Nat) (w w' : World) : Prop := ∀ (g : Nat) (t : TypeId) (cs : Array Value),t ≠ 5 -> g ≠ b -> Blk w g t cs -> Blk w' g t cs
theorem KeepT.refl (b : Nat) (w : World) : KeepT b w w := fun _ _ _ _ _ h => h
theorem KeepT.trans {b : Nat} {w w' w'' : World} (h : KeepT b w w') (k : KeepT b w' w'') : KeepT b w w'' := fun g t cs h1 h2 h3 => k g t cs h1 h2 (h g t cs h1 h2 h3)
theorem KeepT.setCell {b o : Nat} {w w' : World} (h : KeepT b w w') (u : Value) : KeepT b w (w'.setCell ⟨b,o,none⟩ u) := fun g t cs h1 h2 h3 => (h g t cs h1 h2 h3).far (p := ⟨b,o,none⟩) h2 u
theorem KeepT.alloc {b : Nat} {w w' : World} (h : KeepT b w w') (o : Obj) : KeepT b w (w'.alloc o) := fun g t cs h1 h2 h3 => (h g t cs h1 h2 h3).alloc o
theorem KeepT.grown {b B n : Nat} {v : Value} {xs : List Value} {w w' w'' : World} (h : KeepT b w w') (hown : w'.ownsRow B 5 1 v n xs) (hg : w'.grownBy w'' v.ownBlock) : KeepT b w w'' := fun g t cs h1 h2 h3 => by
 refine (h g t cs h1 h2 h3).grown hg (fun e => ?_)
 have hk := h g t cs h1 h2 h3
 rcases hown.2 with ⟨rfl,_⟩ | ⟨g',cap,cur,rfl,_,hg',_⟩
 ·cases e
 ·have e' : g = g' := Option.some.inj e
  subst e'; have h4 := hk.symm.trans hg'; injection h4 with h4; injection h4 with _ h5; exact h1 h5
theorem builder_size : (Tryz.prog.info? 155).map (·.size) = some 2 := by kernel_rfl
theorem builder_lies : liesAt Tryz.prog Tryz.prog.depth 157 (2 / Tryz.prog.cellsOf 157) 0 155 1 = true := by kernel_rfl
theorem byte_facts : (Tryz.prog.info? 5).map (fun i => (i.zero,i.size,i.bytes)) = some (some (.int .u8 0), 1, 1) := by kernel_rfl
theorem check_used (b : Nat) (w : World) (h0 : w.cell? ⟨b, 0, none⟩ = some (.pointer (some ⟨b, 0, none⟩))) :
  Calls Tryz.prog 117 #[.pointer (some ⟨b, 0,none⟩)] w fun e w' => e = .returned (.tuple #[]) /\ w' = w := by
 obtain ⟨j,hj,_⟩ := Option.map_eq_some_iff.1 builder_size
 go_enter Tryz.func117,Tryz.ntmps117
 go_wp2
 rw [Lib.run_neq_ptr_same w _ Tryz.underlying153 hj]
 go_wp2
 go_end0
 exact ⟨rfl,rfl⟩
theorem check_fresh (b : Nat) (w : World) (h0 : w.cell? ⟨b, 0, none⟩ = some (.pointer none)) (hsh : w.shape? b = some (157, 2)) (hfz : w.frozen? ⟨b, 0, none⟩ = false) :
  Calls Tryz.prog 117 #[.pointer (some ⟨b, 0,none⟩)] w fun e w' => e = .returned (.tuple #[]) /\ w' = w.setCell ⟨b, 0,none⟩ (.pointer (some ⟨b, 0,none⟩)) := by
 obtain ⟨j,hj,hjs⟩ := Option.map_eq_some_iff.1 builder_size
 go_enter Tryz.func117,Tryz.ntmps117
 go_wp2
 rw [Lib.run_to_unsafe w ⟨b, 0,none⟩ Tryz.underlying153 Tryz.underlying208 hj (by rw [hjs]; decide) hsh (Nat.zero_lt_succ 1)]
 simp only [Result.andThen]; rw [Oper.upon_value]
 go_wp2
 rw [run_callFunc_extern Tryz.func135 (by kernel_rfl) (by kernel_rfl) (by kernel_rfl) (e := Extern.AbiNoEscape.same) (by kernel_rfl)]
 rw [Lib.run_noEscape]; simp only [Result.andThen]; rw [Oper.upon_value]
 go_wp2
 rw [Lib.run_from_unsafe w ⟨b, 0,none⟩ Tryz.underlying208 Tryz.underlying153 hj hsh builder_lies]; simp only [Result.andThen]; rw [Oper.upon_value]
 go_wp2
 go_end0
 exact ⟨rfl,rfl⟩
theorem check_any (B b : Nat) (bs : List Value) (w : World) (h : Lib.IsBuilder 157 5 B b bs w) :
  Calls Tryz.prog 117 #[.pointer (some ⟨b, 0,none⟩)] w fun e w' => e = .returned (.tuple #[]) /\ (Lib.BuilderAt 157 5 B b (.pointer (some ⟨b, 0,none⟩)) bs w' /\ Below B w w' /\ KeepT b w w') := by
 rcases h with h | h
 ·refine (check_fresh b w h.cell0 h.shape h.frozen0).mono ?_
  rintro e w' ⟨rfl,rfl⟩; exact ⟨rfl,h.used _, (Below.refl B w).setCell (p := ⟨b, 0,none⟩) h.1 _, (KeepT.refl b w).setCell _⟩
 ·refine (check_used b w h.cell0).mono ?_
  rintro e w' ⟨rfl,rfl⟩; exact ⟨rfl,h,Below.refl B _,KeepT.refl b _⟩
theorem bcells_len (l : List UInt8) : (Lib.byteCells l).length = l.length := Lib.byteCells_length l
theorem bcells_app (l m : List UInt8) : Lib.byteCells (l ++ m) = Lib.byteCells l ++ Lib.byteCells m := by simp [Lib.byteCells]
def Wrote (B b : Nat) (l : List UInt8) (w : World) (w' : World) : Prop := WB w' B b l /\ Below B w w' /\ KeepT b w w'
def ByteWrote (B b : Nat) (l : List UInt8) (w : World) (e : Ending) (w' : World) : Prop := e = .returned .nilIface /\ Wrote B b l w w'
def StrWrote (B b n : Nat) (l : List UInt8) (w : World) (e : Ending) (w' : World) : Prop := e = .returned (.tuple #[.int .i64 n, .nilIface]) /\ Wrote B b l w w'
def Told (s : ByteArray) (B : Nat) (w : World) (e : Ending) (w' : World) : Prop := e = .returned (.string s) /\ Below B w w'
theorem wbyte_any (B b : Nat) (l : List UInt8) (c : UInt8) (w : World) (h : WB w B b l) (hlen : l.length + 1 <= 140737488355328) (hBw : B <= w.heap.size) :
  Calls Tryz.prog 100 #[.pointer (some ⟨b, 0,none⟩), .int .u8 c.toNat] w fun e w' => ByteWrote B b (l ++ [c]) w e w' := by
 obtain ⟨i0,hi,hz0,hz1,hz2⟩ := info_parts byte_facts; have hcl := bcells_len l; have hH := gh h; clear h
 go_enter Tryz.func100,Tryz.ntmps100
 go_wp2_with (go_at_call 117; refine (check_any B b _ _ hH.o).mono ?_)
 rintro e w1 ⟨rfl,h1,hb1,hk1⟩; obtain ⟨hB,v,hbk,hown,hne⟩ := h1; have c0 : w1.cell? ⟨b, 0,none⟩ = some (.pointer (some ⟨b, 0,none⟩)) := by rw [Lib.cell_of_heap hbk]; rfl
 have c1 : w1.cell? ⟨b, 1,none⟩ = some v := by rw [Lib.cell_of_heap hbk]; rfl
 go_wp2_with (at_builtin; refine wpList_append_own _ rfl _ _ 105 rfl B 5 i0 (.int .u8 0) 1 1 Tryz.underlying105 hi hz0 hz1 hz2 rfl (by decide) _ _ _ rfl (hown.alloc _) ⟨w1.heap.size, 0,none⟩ 1 1 [.int .u8 c.toNat] rfl rfl ?c1 ?c2 ?c3 ?c4 ?c5 ?_)
 case c1 => exact cells_new w1 _ _
 case c2 => intro u hu; simp at hu; subst hu; rfl
 case c3 => rw [hcl]; unfold maxLen; omega
 case c4 => rw [hcl]; omega
 case c5 => have := hb1.size; simp; omega
 intro v' w2 hown' hgrow _
 have hlt : b < w1.heap.size := by
  rcases Nat.lt_or_ge b w1.heap.size with h' | h'
  ·exact h'
  ·simp [Array.getElem?_eq_none h'] at hbk
 have hb2 : w2.heap[b]? = some (.cells #[.pointer (some ⟨b, 0, none⟩), v] 157 (0, 0)) := by
  rw [hgrow.block b (by simp; omega) (fun e => hne e.symm),Lib.alloc_old w1 _ b hlt]
  exact hbk
 have d0 : w2.cell? ⟨b, 0,none⟩ = some (.pointer (some ⟨b, 0,none⟩)) := by rw [Lib.cell_of_heap hb2]; rfl
 have d1 : w2.cell? ⟨b, 1,none⟩ = some v := by rw [Lib.cell_of_heap hb2]; rfl
 have f1 : w2.frozen? ⟨b, 1,none⟩ = false := Lib.frozen_of_heap hb2 1
 obtain ⟨g, cap, rfl⟩ : ∃ g cap, v' = .slice (some ⟨g, 0, none⟩) (l.length + 1) cap := by
  rcases hown'.2 with ⟨_,h0⟩ | ⟨g,cap,cur,hv,_⟩
  ·omega
  ·exact ⟨g,cap,hv⟩
 go_wp2
 go_ret
 have hput := Lib.BuilderAt.put (T := 157) (e := 5) hB hb2 (bs' := Lib.byteCells (l ++ [c])) (by rw [bcells_app]; simpa [Lib.byteCells,hcl] using hown') (by decide)
 exact ⟨rfl, .inr hput, ((hb1.alloc (by have := hb1.size; omega) _).grown hgrow (by have := hb1.size; simp; omega) (fun k hk => (hown.lt k hk).1)).setCell (p := ⟨b, 1,none⟩) hB _, ((hk1.alloc _).grown (hown.alloc _) hgrow).setCell _⟩
theorem wstr_any (B b : Nat) (l : List UInt8) (s : ByteArray) (w : World) (h : WB w B b l) (hlen : l.length + s.size <= 140737488355328) (hBw : B <= w.heap.size) :
  Calls Tryz.prog 96 #[.pointer (some ⟨b, 0,none⟩), .string s] w fun e w' => StrWrote B b s.size (l ++ s.data.toList) w e w' := by
 obtain ⟨i0,hi,hz0,hz1,hz2⟩ := info_parts byte_facts; have hcl := bcells_len l; have hH := gh h; clear h
 go_enter Tryz.func96,Tryz.ntmps96
 go_wp2_with (go_at_call 117; refine (check_any B b _ _ hH.o).mono ?_)
 rintro e w1 ⟨rfl,h1,hb1,hk1⟩; obtain ⟨hB,v,hbk,hown,hne⟩ := h1; have c0 : w1.cell? ⟨b, 0,none⟩ = some (.pointer (some ⟨b, 0,none⟩)) := by rw [Lib.cell_of_heap hbk]; rfl
 have c1 : w1.cell? ⟨b, 1,none⟩ = some v := by rw [Lib.cell_of_heap hbk]; rfl
 go_wp2_with (at_builtin; refine Lib.wpList_append_own_string _ rfl _ _ 105 9 rfl B 5 i0 Tryz.underlying105 Tryz.underlying9 hi hz0 hz1 hz2 _ _ _ rfl hown s rfl ?c3 ?c4 ?c5 ?_)
 case c3 => rw [hcl]; unfold maxLen; omega
 case c4 => rw [hcl]; omega
 case c5 => have := hb1.size; omega
 intro v' w2 hown' hgrow _
 have hlt : b < w1.heap.size := by
  rcases Nat.lt_or_ge b w1.heap.size with h' | h'
  ·exact h'
  ·simp [Array.getElem?_eq_none h'] at hbk
 have hb2 : w2.heap[b]? = some (.cells #[.pointer (some ⟨b, 0, none⟩), v] 157 (0, 0)) := by
  rw [hgrow.block b hlt (fun e => hne e.symm)]
  exact hbk
 have d0 : w2.cell? ⟨b, 0,none⟩ = some (.pointer (some ⟨b, 0,none⟩)) := by rw [Lib.cell_of_heap hb2]; rfl
 have d1 : w2.cell? ⟨b, 1,none⟩ = some v := by rw [Lib.cell_of_heap hb2]; rfl
 have f1 : w2.frozen? ⟨b, 1,none⟩ = false := Lib.frozen_of_heap hb2 1
 obtain ⟨ao, n', cap, rfl⟩ : ∃ ao n' cap, v' = .slice ao n' cap := by
  rcases hown'.2 with ⟨hv,_⟩ | ⟨g,cap,cur,hv,_⟩
  ·exact ⟨_,_,_,hv⟩
  ·exact ⟨_,_,_,hv⟩
 go_wp2
 go_ret2
 have hsc : Lib.strCells s = Lib.byteCells s.data.toList := rfl; have hput := Lib.BuilderAt.put (T := 157) (e := 5) hB hb2 (bs' := Lib.byteCells (l ++ s.data.toList)) (by rw [bcells_app, <- hsc]; simpa [Lib.strCells_length,hcl] using hown') (by decide)
 exact ⟨rfl, .inr hput, (hb1.grown hgrow (by have := hb1.size; omega) (fun k hk => (hown.lt k hk).1)).setCell (p := ⟨b, 1,none⟩) hB _, (hk1.grown hown hgrow).setCell _⟩
section
variable (B b : Nat) (w : World)
theorem sd_nil (W : World) : (Builtin.unsafeSliceData_ #[105] 186 #[.slice none 0 0]).run Tryz.prog W = .ok (.pointer none) W := rfl
theorem string_some (l : List UInt8) (h : WB w B b l) (h0 : l ≠ []) : Calls Tryz.prog 94 #[.pointer (some ⟨b, 0, none⟩)] w fun e w' => Told ⟨l.toArray⟩ B w e w' := by
 obtain ⟨p, hB, v, hbk, hown, hne⟩ : ∃ p, Lib.BuilderAt 157 5 B b p (Lib.byteCells l) w := by
  rcases h with h | h
  ·exact ⟨_,h⟩
  ·exact ⟨_,h⟩
 have hl0 : l.length ≠ 0 := by simpa using h0
 rw [Lib.byteCells_length] at hown
 obtain ⟨g, cap, cur, rfl, hbg, hg, hnc, hcm, hcs, htake⟩ : ∃ g cap cur, v = .slice (some ⟨g, 0, none⟩) l.length cap /\ B <= g /\ w.heap[g]? = some (.cells cur 5 (0, 0)) /\ l.length <= cap /\ cap <= maxLen /\ cur.size = cap * 1 /\ cur.toList.take (l.length * 1) = Lib.byteCells l := by
  rcases hown.2 with ⟨_,hz⟩ | ⟨g,cap,cur,hv,r⟩
  ·exact absurd hz hl0
  ·exact ⟨g,cap,cur,hv,r⟩
 have c1 : w.drew.cell? ⟨b, 1, none⟩ = some (.slice (some ⟨g, 0, none⟩) l.length cap) := by
  have : w.drew.heap[b]? = some (.cells #[p, .slice (some ⟨g, 0,none⟩) l.length cap] 157 (0, 0)) := hbk; rw [Lib.cell_of_heap this]; rfl
 have hSD : (Builtin.unsafeSliceData_ #[105] 186 #[.slice (some ⟨g, 0, none⟩) l.length cap]).run Tryz.prog w.drew = .ok (.pointer (some ⟨g, 0, none⟩)) w.drew :=
  Lib.run_unsafeSliceData_row _ _ _ _ _ _ (by omega)
 have hUS : (Builtin.unsafeString_ #[186, 3] 9 #[.pointer (some ⟨g, 0, none⟩), .int .i64 l.length]).run Tryz.prog w.drew = .ok (.string ⟨l.toArray⟩) (w.drew.freeze ⟨g, 0, none⟩ l.length) := by
  refine Lib.run_unsafeString_row w.drew 186 3 9 5 Tryz.underlying186 (by kernel_rfl) g cur.size (by have hg' : w.drew.heap[g]? = some (.cells cur 5 (0, 0)) := hg; simp [World.shape?,hg']) l h0 (by omega) (by unfold maxLen at hcm; omega) ?_
  intro j x hx; have := hown.cells (g := g) rfl j (.int .u8 x.toNat) (by simp [Lib.byteCells,hx])
  exact this
 clear htake hcs hl0 h0 hown hbk hg h
 go_enter Tryz.func94,Tryz.ntmps94
 go_wp2
 go_region
 all_goals (go_wp2; go_ret; exact ⟨rfl,Lib.below_freeze (Below.drew (Below.refl B w)) (p := ⟨g, 0,none⟩) hbg _⟩)
theorem string_nil (p : Value) (hbk : w.heap[b]? = some (.cells #[p, .slice none 0 0] 157 (0, 0))) : Calls Tryz.prog 94 #[.pointer (some ⟨b, 0, none⟩)] w fun e w' => Told ⟨#[]⟩ B w e w' := by
 have hUS := fun W q => Lib.run_unsafeString_none (P := Tryz.prog) W 186 3 9 q
 have c1 : w.drew.cell? ⟨b, 1, none⟩ = some (.slice none 0 0) := by
  have : w.drew.heap[b]? = some (.cells #[p, .slice none 0 0] 157 (0, 0)) := hbk; rw [Lib.cell_of_heap this]; rfl
 have hSD := sd_nil w.drew
 go_enter Tryz.func94,Tryz.ntmps94
 go_wp2
 go_region
 all_goals (go_wp2; go_ret; exact ⟨rfl,Below.drew (Below.refl B w)⟩)
end
end Go.Proofs.YtaamihdibpioaaaGreat.Pk
