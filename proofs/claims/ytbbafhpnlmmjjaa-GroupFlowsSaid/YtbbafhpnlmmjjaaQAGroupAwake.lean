/- What is proved: the example of chapter 18's statements holds. Conditions: none. -/
import Derived.Test.YtbbafhpnlmmjjaaQAGroupFits
import Derived.Test.YtbbafhpnlmmjjaaHAx6
namespace Go.Proofs.Ytbbafhpnlmmjjaa.QA
open Go.RowKit Go.Proofs.Ytbbafhpnlmmjjaa.HA Go.Proofs.YtbbafhpnlmmjjaaW.PrintWords Go.Proofs.YtbbafhpnlmmjjaaW.PrintLast Go.Proofs.YtbbafhpnlmmjjaaW.PrintMore
set_option linter.unusedVariables false
set_option linter.unusedSimpArgs false
def awR : S37 := ⟨1, 0, ⟨false, []⟩, ⟨false, []⟩, ⟨false, []⟩, ⟨false, [⟨80, 80⟩]⟩, false, 0, [], 1, 1⟩
theorem awR_small : small awR := ⟨by decide, by decide, by decide, by decide⟩
theorem awR_fits : fitsB awR 6 1 2 5 80 0 = true ∧ fitsB awR 6 1 2 5 80 1 = false ∧ (picks (fitsB · 6 1 2 5 80 0) [awR, awR] 0).length = 2 := by decide +kernel
theorem grAwake_ev : Ev (fun k => rampartlaw18_awake.f k) true := by
  obtain ⟨K1, q1⟩ := fits_ev awR 6 1 2 5 80 0 awR_small
  obtain ⟨K2, q2⟩ := fits_ev awR 6 1 2 5 80 1 awR_small
  obtain ⟨K3, q3⟩ := pick_ev [awR, awR] 6 1 2 5 80 0 (by decide) (fun r hr => by
    have : r = awR := by simpa using hr
    rw [this]; exact awR_small)
  obtain ⟨f1, f2, f3⟩ := awR_fits
  rw [f1] at q1
  rw [f2] at q2
  generalize picks (fitsB · 6 1 2 5 80 0) [awR, awR] 0 = p at q3 f3
  refine ⟨K1 + K2 + K3, fun k hk => ?_⟩
  have e1 : group_Fits.f k 1 0 false ([] : List (S48)) false ([] : List (S50)) false ([] : List (S48)) false ([(⟨80, 80⟩ : S50)]) false 0 ([] : List (S54)) 1 1 6 1 2 5 80 0 = some true := q1 k (by omega)
  have e2 : group_Fits.f k 1 0 false ([] : List (S48)) false ([] : List (S50)) false ([] : List (S48)) false ([(⟨80, 80⟩ : S50)]) false 0 ([] : List (S54)) 1 1 6 1 2 5 80 1 = some false := q2 k (by omega)
  have e3 : group_Pick.f k [awR, awR] 6 1 2 5 80 0 = some p := q3 k (by omega)
  simp only [rampartlaw18_awake.f]
  rw [Option.bind_some, e1, Option.bind_some, if_pos rfl, e2, Option.bind_some, if_neg Bool.false_ne_true]
  refine Eq.trans (congrArg (fun z : Option (List Int) => z.bind fun t151 => (some ((t151.length : Int) == 2))) e3) ?_
  show some ((p.length : Int) == 2) = some true
  rw [f3]
  rfl
end Go.Proofs.Ytbbafhpnlmmjjaa.QA
