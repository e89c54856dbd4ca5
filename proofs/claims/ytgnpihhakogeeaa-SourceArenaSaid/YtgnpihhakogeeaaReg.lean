/- A call by its contract, at a step of a region that draws its order. -/
import Derived.Test.YtgnpihhakogeeaaRep
import Derived.Deep.RegionLaw
namespace Go.Proofs.Ytgnpihhakogeeaa
open Go.RowKit

theorem step_call {P : Program} {ops : Array Oper} {o : Oper} {a : Act} {w : World} {K : Act → World → Prop} {Q : Exit → Act → World → Prop} {X : Prop} {R : Ending → World → Prop} (hgd : o.guard = none) (f : FuncId) (ss : List Operand) (ts : Array TypeId) (ho : o.op = .call { callee := .value (.func f), args := ss.toArray, argTypes := ts })
    (fn : Func) (hfn : P.funcs[f]? = some fn) (hbody : fn.body.isNone = false) (hname : (fn.name == "runtime.NumGoroutine") = false) (vs : List Value) (hargs : ss.map a.eval = vs)
    (hc : Calls P f vs.toArray w R) (h : ∀ e w', R e w' → ∃ u, e = .returned u ∧ K (a.put o.dst u) w') :
    if Region.wanted o (yielded ops a.tmps) = true then Oper.wp P o a w K Q else X := by
  have hw : Region.wanted o (yielded ops a.tmps) = true := by simp [Region.wanted, hgd]
  rw [if_pos hw]
  have hrun : (execOp a.eval o).run P w = .ok (.enter f vs.toArray) w := by
    unfold execOp
    subst hargs
    simp [ho, resolve, invoke, callFunc, Act.eval, Deferred.ofValue, hfn, run_program]
    rw [if_neg (by simpa using hname), if_neg (by intro h; rw [h] at hbody; cases hbody)]
  unfold Oper.wp
  rw [hrun, Oper.upon_enter]
  refine hc.mono fun e w' hR => ?_
  obtain ⟨u, rfl, hK⟩ := h e w' hR
  exact hK
end Go.Proofs.Ytgnpihhakogeeaa
