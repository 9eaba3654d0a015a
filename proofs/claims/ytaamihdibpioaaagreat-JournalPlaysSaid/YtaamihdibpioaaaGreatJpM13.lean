/- A region that draws its order, gone through operation by operation where the kit's tactic stumbles: plain laws, no program in sight. -/
import Derived.Test.YtaamihdibpioaaaGreatJpM1
import Derived.Deep.RegionHeld3
set_option maxRecDepth 100000
set_option maxHeartbeats 40000000
namespace Go.Proofs.YtaamihdibpioaaaGreat
def nthO : List Oper -> Nat -> Option Oper
 | [],_ => none
 | o :: _, 0 => some o
 | _ :: l,n + 1 => nthO l n
theorem nthO_eq : ∀ (l : List Oper) (i : Nat), nthO l i = l[i]?
 | [],_ => by simp [nthO]
 | o :: l, 0 => by simp [nthO]
 | o :: l,n + 1 => by simp [nthO,nthO_eq l n]
section
variable {P : Program} {l : List Oper} {Q : Exit -> Act -> World -> Prop} {md : Region.Mode} {S : World -> Prop} {i fuel : Nat} {oi : Oper} {d : Option Tmp} {v : Value} {listed : Array Bool} {a : Act} {w : World}
theorem nthO_arr (h : nthO l i = some oi) : l.toArray[i]? = some oi := by
 rw [nthO_eq] at h
 simpa using h
theorem held_take (hi : nthO l i = some oi) (hd : oi.dst = d) (hs : Region.noSelect l.toArray = true) (hf : Region.free md l.toArray listed i = true) (hr : (Region.ready md l.toArray listed).contains i = true)
  (hQ : ∀ c a w,Q (.panic c) (a.put d v) w -> Q (.panic c) a w) (hw : Region.wanted oi (yielded l.toArray a.tmps) = true) (hy : ∀ w,S w -> (execOp a.eval oi).run P w = .ok (.value v) w) (hS : S w)
  (h : wpAnyH P md l.toArray Q S fuel (listed.setIfInBounds i true) (a.put d v) w) : wpAnyH P md l.toArray Q S (fuel + 1) listed a w := by
 subst hd; exact wpAnyH_take (nthO_arr hi) hs hf hr hQ (.inl ⟨hw,hy⟩) hS h
theorem gT (hi : nthO l i = some oi) (hd : oi.dst = d) (hs : (Region.noSelect l.toArray && Region.free md l.toArray listed i && (Region.ready md l.toArray listed).contains i) = true)
  (hQ : ∀ c a w,Q (.panic c) (a.put d v) w -> Q (.panic c) a w) (hw : Region.wanted oi (yielded l.toArray a.tmps) = true) (hy : ∀ w,S w -> (execOp a.eval oi).run P w = .ok (.value v) w) (hS : S w)
  (h : wpAnyH P md l.toArray Q S fuel (listed.setIfInBounds i true) (a.put d v) w) : wpAnyH P md l.toArray Q S (fuel + 1) listed a w := by
 simp only [Bool.and_eq_true] at hs; exact held_take hi hd hs.1.1 hs.1.2 hs.2 hQ hw hy hS h
theorem held_only (hr : Region.ready md l.toArray listed = [i]) (hi : nthO l i = some oi) (hw : Region.wanted oi (yielded l.toArray a.tmps) = true)
  (h : ∀ K' : Act -> World -> Prop,Shut (∀ a w,S w -> (S w -> wpAnyH P md l.toArray Q S fuel (listed.setIfInBounds i true) a w) -> K' a w) -> Oper.wp P oi a w K' Q) : wpAnyH P md l.toArray Q S (fuel + 1) listed a w :=
 wpAnyH_ready hr (by simp) (AllReadyH.cons (nthO_arr hi) (fun K hK => by rw [if_pos hw]; exact h K hK) AllReadyH.nil)
theorem held_two {j : Nat} {oj : Oper} (hr : Region.ready md l.toArray listed = [i, j]) (hi : nthO l i = some oi) (hj : nthO l j = some oj) (hwi : Region.wanted oi (yielded l.toArray a.tmps) = true) (hwj : Region.wanted oj (yielded l.toArray a.tmps) = true)
  (h1 : ∀ K' : Act -> World -> Prop,Shut (∀ a w,S w -> (S w -> wpAnyH P md l.toArray Q S fuel (listed.setIfInBounds i true) a w) -> K' a w) -> Oper.wp P oi a w K' Q)
  (h2 : ∀ K' : Act -> World -> Prop,Shut (∀ a w,S w -> (S w -> wpAnyH P md l.toArray Q S fuel (listed.setIfInBounds j true) a w) -> K' a w) -> Oper.wp P oj a w K' Q) : wpAnyH P md l.toArray Q S (fuel + 1) listed a w :=
 wpAnyH_ready hr (by simp) (AllReadyH.cons (nthO_arr hi) (fun K hK => by rw [if_pos hwi]; exact h1 K hK) (AllReadyH.cons (nthO_arr hj) (fun K hK => by rw [if_pos hwj]; exact h2 K hK) AllReadyH.nil))
end
theorem exec_load {P : Program} {oi : Oper} {ev : Operand -> Value} {w : World} {v : Value} (ty : TypeId) (x : Operand) (ho : oi.op = .load ty x) (h : (Instr.loadAt ty (ev x)).run P w = .ok v w) : (execOp ev oi).run P w = .ok (.value v) w := by
 unfold execOp; simp only [ho,Sem.run_bind,h,Result.andThen_ok,Sem.run_pure]
end Go.Proofs.YtaamihdibpioaaaGreat
