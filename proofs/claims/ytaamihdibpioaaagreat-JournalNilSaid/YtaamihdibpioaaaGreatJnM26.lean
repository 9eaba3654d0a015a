/- The document's answers: how two values stand. -/
import Derived.Test.YtaamihdibpioaaaGreatJnM8
import Derived.Test.YtaamihdibpioaaaGreatJnM25
import Derived.Deep.DeepCutAuto
import Derived.Deep.CutBlock
import Derived.StillTailTactics
namespace Go.Proofs.YtaamihdibpioaaaGreat
set_option linter.unusedVariables false
open Go.RowKit

def Val.rh1 (v u : Val) : Int := if v.k = 5 ∨ v.k = 6 then 0 else if sgnI v.n u.n ≠ 0 then sgnI v.n u.n else scmp v.s u.s
def Val.rhead (v u : Val) : Int := if v.rh1 u = 0 ∧ v.k ≠ 5 then ncmp v.ns u.ns else v.rh1 u
mutual
def Val.rord : Val → Val → Int
  | .mk k n f s na ns xa xs, u =>
    if k ≠ u.k then sgnI k u.k
    else if k = 1 ∨ k = 2 then sgnI n u.n
    else if k = 3 then ford f u.f
    else if k = 4 then scmp s u.s
    else if Val.rhead (.mk k n f s na ns xa xs) u ≠ 0 then Val.rhead (.mk k n f s na ns xa xs) u
    else Val.rordAll xs u.xs
def Val.rordAll : List Val → List Val → Int
  | [], ys => if 0 < ys.length then -1 else 0
  | x :: xs, ys => match ys with
    | [] => 1
    | y :: ys => if x.rord y ≠ 0 then x.rord y else Val.rordAll xs ys
end
theorem Val.rord_eq (v u : Val) : v.rord u = if v.k ≠ u.k then sgnI v.k u.k else if v.k = 1 ∨ v.k = 2 then sgnI v.n u.n else if v.k = 3 then ford v.f u.f else if v.k = 4 then scmp v.s u.s
    else if v.rhead u ≠ 0 then v.rhead u else Val.rordAll v.xs u.xs := by
  cases v
  simp only [Val.rord, Val.k, Val.n, Val.f, Val.s, Val.xs]
  rfl
end Go.Proofs.YtaamihdibpioaaaGreat
