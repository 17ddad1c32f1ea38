/- What is proved: two addresses that are the same compare so. Conditions: those that stand in each theorem. -/
import Derived.Test.YtbidgeaigiijpaaNetBk2
import Derived.Test.YtbidgeaigiijpaaFwAgg
import Derived.DeepKeys
namespace Go.Proofs.Ytbidgeaigiijpaa
set_option linter.unusedVariables false
set_option linter.unusedSimpArgs false
set_option linter.unusedSectionVars false
open Go.RowKit Fw Nt
theorem six_guard : Try.prog.eqGuardType Try.prog.depth 31 = false := by kernel_rfl
theorem und_six : Try.prog.underlying 31 = some (.array 6 5) := by kernel_rfl
theorem one_u8 : Try.prog.cellsOf 5 = 1 := by kernel_rfl
theorem key_u8 : Try.prog.plainKey 5 = true := by kernel_rfl
theorem items_same (f : Nat → Int) (w : World) : ∀ is : List Nat, (∀ i ∈ is, i < 6) → (Op.eqItems 9999 5 1 (six f).toArray (six f).toArray is).run Try.prog w = .ok true w
  | [], _ => by simp [Op.eqItems]
  | i :: is, h => by
    have hx : (six f).toArray[i * 1]? = some (.int .u8 (f i)) := by
      rw [Nat.mul_one, List.getElem?_toArray]; exact six_at f i (h i (by simp))
    have hp := run_part_plain w key_u8 hx
    have he := run_equalIn_int (P := Try.prog) w 9998 5 .u8 .u8 (f i) (f i) und_u8
    simp only [Op.eqItems, Sem.run_bind, hp, Result.andThen_ok, he, beq_self_eq_true, Bool.not_true, Bool.false_eq_true, if_false]
    exact items_same f w is fun j hj => h j (by simp [hj])
theorem six_eq (f : Nat → Int) (w : World) : (Op.equalIn 10000 31 (.agg (six f).toArray) (.agg (six f).toArray)).run Try.prog w = .ok true w := by
  obtain ⟨iB, hiB, _⟩ := info_parts info_u8
  rw [run_equalIn_array w 9999 (six f).toArray (six f).toArray und_six hiB, one_u8]
  exact items_same f w _ fun i hi => List.mem_range.1 hi
end Go.Proofs.Ytbidgeaigiijpaa
