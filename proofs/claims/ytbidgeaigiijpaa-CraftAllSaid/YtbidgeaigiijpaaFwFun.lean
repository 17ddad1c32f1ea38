/- What is proved: calls of method values. Conditions: those that stand in each theorem. -/
import Derived.Test.YtbidgeaigiijpaaFwRow
namespace Go.Proofs.Ytbidgeaigiijpaa.Fw
set_option linter.unusedVariables false
set_option linter.unusedSimpArgs false
set_option linter.unusedSectionVars false
open Go.RowKit
section
variable {P : Program} {L : Lay} {n : Nat} {f : Fr} {w : World} {Q : Exit → Act → World → Prop}
theorem Ls.callM (LO : LayOk P L) {ops l : List Oper} {o : Oper} {x : Operand} {g : Nat} {args : Array Operand} {ts : Array Nat} {bd : Array Value} {vs : List Value} {R : Ending → World → Prop} (hop : o.op = .call ⟨.value x, args, ts⟩) (hw : wantF f ops o.guard = some true)
    (hx : feval f x = some (.func (.func g) bd #[])) (hg : has L.fn g = true) {d : Nat} (hd : o.dst = some d) (hdn : Nat.blt d n = true) (hv : fevals f args.toList = some vs)
    (hc : Calls P g (bd ++ vs.toArray) w R) (h : ∀ e w', R e w' → ∃ v, e = .returned v ∧ Ls P n ops l ((d, v) :: f) w' Q) : Ls P n ops (o :: l) f w Q := fun a hf => by
  refine wpList_step fun K hK => ?_
  rw [wanted_of hf hw, if_pos rfl]
  unfold Oper.wp
  have e1 : args.map a.eval = vs.toArray := by rw [← hf.evals hv, ← Array.toList_map]
  have hrun : (execOp a.eval o).run P w = .ok (.enter g (bd ++ vs.toArray)) w := by
    have hcb := LO.fn g (has_mem hg)
    unfold callB at hcb
    cases hfn : P.funcs[g]? with
    | none => rw [hfn] at hcb; cases hcb
    | some fn =>
      rw [hfn] at hcb
      simp only [Bool.and_eq_true, Bool.not_eq_true'] at hcb
      obtain ⟨hb, hnm⟩ := hcb
      have hb' : ¬ fn.body = none := by intro e; rw [e] at hb; cases hb
      have hnm' : ¬ fn.name = "runtime.NumGoroutine" := by simpa using hnm
      unfold execOp
      simp [hop, resolve, Deferred.ofValue, invoke, hf.eval hx, callFunc, hfn, hnm', hb', e1]
  rw [hrun]
  refine hc.mono fun e w' hR => ?_
  obtain ⟨v, rfl, hl⟩ := h e w' hR
  rw [hd]
  exact hK _ _ (hl _ (hf.put hdn v))
end
end Go.Proofs.Ytbidgeaigiijpaa.Fw
