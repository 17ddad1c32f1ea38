/- What is proved: the plain statement of SeqPlaces: the place is the nearest one: half of all numbers ahead, half behind. Conditions: each argument is a number of its kind, nothing else. -/
import Derived.Test.YtolklmeemadjfaaPSeqPlacesx1
import Derived.OpenShut
namespace Go.Proofs.Ytolklmeemadjfaa.Pure
open Go.RowKit Go.Proofs.Ytolklmeemadjfaa.PSeqPlaces Go.Proofs.YtolklmeemadjfaaW.PrintWords Go.Proofs.YtolklmeemadjfaaW.PrintLast Go.Proofs.YtolklmeemadjfaaW.PrintMore
set_option linter.unusedVariables false
set_option linter.unusedSimpArgs false

theorem tmod_pos (a n : Int) (hn : 0 < n) : Int.tmod a n = if 0 ≤ a then a % n else -((-a) % n) := by
  split
  · rename_i h; exact Int.tmod_eq_emod_of_nonneg h
  · rename_i h
    have := Int.neg_tmod (a := -a) (b := n)
    rw [Int.neg_neg] at this
    rw [this, Int.tmod_eq_emod_of_nonneg (by omega)]
theorem dif_some (a b : Int) : seq_Diff.f a b = some ((a - b + 2147483648) % 4294967296 - 2147483648) := by
  simp only [seq_Diff.f, seq_to_int32_uint32.f, seq_to_int_int32.f, Option.bind_some, wrap32, wrap64, Option.some.injEq]
  omega
theorem plus_some (a n : Int) : seq_Plus.f a n = some ((a + n) % 4294967296) := by
  simp only [seq_Plus.f, seq_to_uint32_int.f, Option.bind_some, Option.some.injEq]
  omega
theorem place_some (s q n : Int) : seq_Place.f s q n = some (wrap64 (mx 0 (mn n 1099511627776) + ((q - (s + mx 0 (mn n 1099511627776)) % 4294967296 + 2147483648) % 4294967296 - 2147483648))) := by
  simp only [seq_Place.f, plus_some, dif_some, Option.bind_some]
theorem awake_some : rampartlaw19_awake.f = some true := by
  simp only [rampartlaw19_awake.f, plus_some, dif_some, place_some, Option.bind_some]
  simp [wrap64, mx, mn]

theorem at_some (v n : Int) (hn : 0 < n) (h2 : n ≤ 4611686018427387904) (hv : -9223372036854775808 ≤ v ∧ v ≤ 9223372036854775807) : rampartlaw00_Place.f v n = some (v % n) := by
  have h1 := Int.emod_nonneg v (show n ≠ 0 by omega)
  have h3 := Int.emod_lt_of_pos v hn
  have h4 := Int.emod_nonneg (-v) (show n ≠ 0 by omega)
  have h5 := Int.emod_lt_of_pos (-v) hn
  simp only [rampartlaw00_Place.f]
  rw [if_neg (by omega), tmod_pos v n hn]
  by_cases h : 0 ≤ v
  · rw [if_pos h, if_neg (by omega)]
  · rw [if_neg h]
    have h6 : v % n = if (-v) % n = 0 then 0 else n - (-v) % n := by
      have := Int.neg_emod (a := -v) (b := n)
      rw [Int.neg_neg] at this
      rw [this]
      by_cases hd : n ∣ -v
      · rw [if_pos hd, if_pos (Int.emod_eq_zero_of_dvd hd)]
      · rw [if_neg hd, if_neg (fun hz => hd (Int.dvd_of_emod_eq_zero hz))]
        rw [Int.natAbs_of_nonneg (by omega)]
    by_cases hz : (-v) % n = 0
    · rw [if_neg (by omega), h6, if_pos hz, hz]; rfl
    · rw [if_pos (by omega), h6, if_neg hz]
      simp only [wrap64, Option.some.injEq]
      omega

theorem SeqPlaces : rampartlaw19_SeqPlaces.Pure := by
  intro s near q hs hn hq
  have hs := bounds_u32 hs
  have hn := bounds_i64 hn
  have hq := bounds_u32 hq
  simp only [rampartlaw19_SeqPlaces.f, plus_some, place_some, at_some near 1099511627776 (by omega) (by omega) hn, awake_some, Option.bind_some]
  generalize hP : near % 1099511627776 = n
  have hP1 : 0 ≤ n ∧ n < 1099511627776 := by omega
  have em : mx 0 (mn n 1099511627776) = n := by unfold mx mn; split <;> split <;> omega
  have e0 : mx 0 (mn 0 1099511627776) = 0 := by simp [mx, mn]
  have en : mx 0 (mn (wrap64 (-1 - n)) 1099511627776) = 0 := by unfold mx mn wrap64; split <;> split <;> omega
  clear hP hn
  rw [em, e0, en]
  simp only [wrap64]
  rw [if_pos (by omega), if_pos (by omega), if_pos (by omega), if_pos trivial, if_pos (by omega)]

end Go.Proofs.Ytolklmeemadjfaa.Pure
