/- From a walk's end to a law's row, whatever the arguments' shapes: it answered true, and what was there is as it was. -/
import Derived.Test.YtaamihdibpioaaaGreatJpM1
import Derived.Test.YtaamihdibpioaaaGreatRows
import Derived.ProofKit
import Derived.Carry
import Derived.OpenShut
import Derived.ShutString
import Derived.SizedLaws
set_option maxRecDepth 100000
set_option maxHeartbeats 40000000
namespace Go.Proofs.YtaamihdibpioaaaGreat
open Go.RowKit Go.ChangeShapes Go.WideShapes
def TrueBelow (w : World) (e : Ending) (w' : World) : Prop := e = .returned (.bool true) /\ Below w.heap.size w w'
theorem own : ownKnob Tryz.prog.godebug = none := by kernel_rfl
theorem laidOut : laidOutB Tryz.prog = true := by kernel_rfl
section
variable {H : Type} {enc : TypeId × Value -> H} {P : Program}
theorem trodAll_below (hl : laidOutB P = true) {W W' : World} (hb : Below W.heap.size W W') :
  ∀ (ts : List TypeId) (vs : List Value) (ds : List (DataW H)) (ps : List MemPlace), (ts.all fun t => P.readableRec t && decide (t < P.types.size)) = true ->
   DataW.TrodAll enc P W 0 (fun _ => true) true ts vs ds ps -> (∀ x ∈ ps,x.block < W.heap.size) -> DataW.TrodAll enc P W' 0 (fun b => decide (b < W.heap.size)) true ts vs ds ps
 | [], vs, ds, ps, _, h, _ => by
  cases vs <;> cases ds <;> simp [DataW.TrodAll] at h ⊢
  exact h
 | t :: ts, vs, ds, ps, hr, h, hlt => by
  obtain ⟨v,vs',d,ds',p,q,rfl,rfl,rfl,h0,hq⟩ := trodAll_cons h; simp only [List.all_cons,Bool.and_eq_true,decide_eq_true_eq] at hr
  exact ⟨p, q, Below.trod hl hr.1.1 hr.1.2 h0 hb (fun x hx => hlt x (by simp [hx])),
   trodAll_below hl hb ts vs' ds' q (by simpa using hr.2) hq (fun x hx => hlt x (by simp [hx])),rfl⟩
theorem trodAll_len {W : World} {b : Nat} {sp : Nat -> Bool} {hd : Bool} : ∀ (ts : List TypeId) (vs : List Value) (ds : List (DataW H)) (ps : List MemPlace),
   DataW.TrodAll enc P W b sp hd ts vs ds ps -> ds.length = ts.length
 | [],vs,ds,ps,h => by cases vs <;> cases ds <;> simp [DataW.TrodAll] at h ⊢
 | t :: ts, vs, ds, ps, h => by
  obtain ⟨v,vs',d,ds',p,q,rfl,rfl,rfl,h0,hq⟩ := trodAll_cons h
  simpa using trodAll_len ts vs' ds' q hq
theorem law_post {f : Func} {s : ChangeSpec} {W W' : World} {args : Array Value} {ds gs : List (DataW H)} {before : List MemPlace} {tb : TypeId}
  (hW : DataW.Whole enc P f.params.toList s.vars false W args.toList ds gs before) (hvars : s.vars = []) (hl : laidOutB P = true)
  (hrec : (f.params.toList.all fun t => P.readableRec t && decide (t < P.types.size)) = true)
  (hrt : f.resultTypes = #[tb]) (htb : P.underlying tb = some .bool)
  (hs : ∀ ds' : List (DataW H),ds'.length = f.params.toList.length -> s.fn H ds' = { results := [.lit (.bool true)],args := ds' })
  (hb : Below W.heap.size W W') : s.post enc P f false true false false W args (.bool true) W' := by
 have hW' := hW; obtain ⟨p,q,hA,hV,rfl,hfz,hnd⟩ := hW; have hlt : ∀ x ∈ p ++ q,x.block < W.heap.size := fun x hx => hW'.lt x hx
 rw [hvars] at hV; obtain ⟨rfl,rfl⟩ := trodVars_none hV; have hlen : ds.length = f.params.toList.length := trodAll_len _ _ _ _ hA; have he := hs (ds ++ []) (by simpa using hlen)
 refine ⟨ds, [],p ++ [], [],p, [],hW',?_,?_,?_,hb.frame _ ,fun h => by cases h⟩
 ·rw [he, hrt]
  exact trodAll_cons_mk (shut_bool htb _) trodAll_mk0
 ·rw [he]
  simpa using trodAll_below hl hb _ _ _ _ hrec hA (fun x hx => hlt x (by simp [hx]))
 ·rw [he, hvars]
  exact rfl
structure Handed (enc : TypeId × Value -> H) (P : Program) (W : World) (base : Nat) (ts : List TypeId) (args : Array Value) (ds : List (DataW H)) (ps : List MemPlace) : Prop where
 val : ∀ (j : Nat) t v,ts[j]? = some t -> args[j]? = some v -> Value.okWide P W .any base t v
 trod : DataW.TrodAll enc P W 0 (fun _ => true) true ts args.toList ds ps
 lt : ∀ x ∈ ps,x.block < W.heap.size
 fits : (DataW.weightsEach P ts ds).all (· <= reachBytes) = true
theorem handed_of {f : Func} {vars : List String} {vt : List TypeId} {W : World} {base : Nat} {args : Array Value} {ds gs : List (DataW H)} {before : List MemPlace}
  (hval : ∀ (j : Nat) t v,f.params[j]? = some t -> args[j]? = some v -> Value.okWide P W .any base t v)
  (hW : DataW.Whole enc P f.params.toList vars false W args.toList ds gs before) (hvars : vars = []) (hvt : vt = [])
  (hsz : (DataW.weightsEach P (f.params.toList ++ vt) (ds ++ gs)).all (· <= reachBytes) = true) : Handed enc P W base f.params.toList args ds before := by
 have hW' := hW; obtain ⟨p,q,hA,hV,rfl,hfz,hnd⟩ := hW; have hlt : ∀ x ∈ p ++ q,x.block < W.heap.size := fun x hx => hW'.lt x hx
 rw [hvars] at hV; obtain ⟨rfl,rfl⟩ := trodVars_none hV; refine ⟨fun j t v h => hval j t v (by simpa using h),by simpa using hA,hlt,by simpa [hvt] using hsz⟩
end
end Go.Proofs.YtaamihdibpioaaaGreat
