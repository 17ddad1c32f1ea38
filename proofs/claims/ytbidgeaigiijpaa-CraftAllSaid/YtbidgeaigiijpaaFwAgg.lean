/- What is proved: an aggregate that is compared with itself is no other. Conditions: its type compares plainly. -/
import Derived.Test.YtbidgeaigiijpaaFw
import Derived.Laws.StructEq
namespace Go.Proofs.Ytbidgeaigiijpaa.Fw
set_option linter.unusedVariables false
set_option linter.unusedSimpArgs false
set_option linter.unusedSectionVars false
open Go.RowKit
section
variable {P : Program} {L : Lay} {n : Nat} {f : Fr} {w : World} {Q : Exit → Act → World → Prop}
theorem Ls.aggSame {ops l : List Oper} {o : Oper} {t ty : Nat} {x y : Operand} {xs : Array Value} (hop : o.op = .binOp .neq t x y ty) (hw : wantF f ops o.guard = some true) {d : Nat} (hd : o.dst = some d) (hdn : Nat.blt d n = true) (hx : feval f x = some (.agg xs)) (hy : feval f y = some (.agg xs))
    (hm : P.eqGuardType P.depth t = false) (he : ∀ w, (Op.equalIn 10000 t (.agg xs) (.agg xs)).run P w = .ok true w) (h : Ls P n ops l ((d, .bool false) :: f) w Q) : Ls P n ops (o :: l) f w Q := fun a hf => by
  refine wpList_step fun K hK => ?_
  rw [wanted_of hf hw, if_pos rfl]
  unfold Oper.wp
  have : (execOp a.eval o).run P w = .ok (.value (.bool false)) w := by
    simp [execOp, hop, hf.eval hx, hf.eval hy, Sem.run_bind, run_eqGuard_agg w .neq t x y xs xs hm, run_neq_struct w t xs xs, he w, Result.andThen]
  rw [this, Oper.upon_value, hd]
  exact hK _ _ (h _ (hf.put hdn _))
end
end Go.Proofs.Ytbidgeaigiijpaa.Fw
