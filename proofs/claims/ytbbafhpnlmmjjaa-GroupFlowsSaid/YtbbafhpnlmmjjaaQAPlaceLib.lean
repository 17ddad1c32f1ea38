/- What is proved: any number as one from 0 to below n, as the statements take it. Conditions: those that stand in each theorem. -/
import Derived.Test.YtbbafhpnlmmjjaaHAx6
import Derived.OpenShut
namespace Go.Proofs.Ytbbafhpnlmmjjaa.QA
open Go.RowKit Go.Proofs.Ytbbafhpnlmmjjaa.HA Go.Proofs.YtbbafhpnlmmjjaaW.PrintWords Go.Proofs.YtbbafhpnlmmjjaaW.PrintLast Go.Proofs.YtbbafhpnlmmjjaaW.PrintMore
set_option linter.unusedVariables false
set_option linter.unusedSimpArgs false
/-! ### Places -/
theorem tmod_pos (a n : Int) (hn : 0 < n) : Int.tmod a n = if 0 ≤ a then a % n else -((-a) % n) := by
  split
  · rename_i h; exact Int.tmod_eq_emod_of_nonneg h
  · rename_i h
    have := Int.neg_tmod (a := -a) (b := n)
    rw [Int.neg_neg] at this
    rw [this, Int.tmod_eq_emod_of_nonneg (by omega)]
theorem at_some (v n : Int) (hn : 0 < n) (h2 : n ≤ 4611686018427387904) (hv : -9223372036854775808 ≤ v ∧ v ≤ 9223372036854775807) : rampartlaw00_Place.f v n = some (v % n) := by
  have h1 := Int.emod_nonneg v (show n ≠ 0 by omega)
  have h3 := Int.emod_lt_of_pos v hn
  have h4 := Int.emod_nonneg (-v) (show n ≠ 0 by omega)
  have h5 := Int.emod_lt_of_pos (-v) hn
  simp only [rampartlaw00_Place.f]
  rw [if_neg (by omega), tmod_pos v n hn]
  by_cases h : 0 ≤ v
  · rw [if_pos h, if_neg (by omega)]
  · rw [if_neg h]
    have h6 : v % n = if (-v) % n = 0 then 0 else n - (-v) % n := by
      have := Int.neg_emod (a := -v) (b := n)
      rw [Int.neg_neg] at this
      rw [this]
      by_cases hd : n ∣ -v
      · rw [if_pos hd, if_pos (Int.emod_eq_zero_of_dvd hd)]
      · rw [if_neg hd, if_neg (fun hz => hd (Int.dvd_of_emod_eq_zero hz))]
        rw [Int.natAbs_of_nonneg (by omega)]
    by_cases hz : (-v) % n = 0
    · rw [if_neg (by omega), h6, if_pos hz, hz]; rfl
    · rw [if_pos (by omega), h6, if_neg hz]
      simp only [wrap64, Option.some.injEq]
      omega
end Go.Proofs.Ytbbafhpnlmmjjaa.QA
