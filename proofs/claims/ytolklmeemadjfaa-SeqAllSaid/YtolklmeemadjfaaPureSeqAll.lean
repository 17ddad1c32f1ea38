/- What is proved: the plain statement of SeqAll: for any numbers the program's Diff, Plus and Place answer as the document's. Conditions: each argument is a number of its kind, nothing else. -/
import Derived.Test.YtolklmeemadjfaaPSeqAllx1
import Derived.OpenShut
namespace Go.Proofs.Ytolklmeemadjfaa.Pure
open Go.RowKit Go.Proofs.Ytolklmeemadjfaa.PSeqAll Go.Proofs.YtolklmeemadjfaaW.PrintWords Go.Proofs.YtolklmeemadjfaaW.PrintLast Go.Proofs.YtolklmeemadjfaaW.PrintMore
set_option linter.unusedVariables false
set_option linter.unusedSimpArgs false

theorem tmod_pos (a n : Int) (hn : 0 < n) : Int.tmod a n = if 0 ≤ a then a % n else -((-a) % n) := by
  split
  · rename_i h; exact Int.tmod_eq_emod_of_nonneg h
  · rename_i h
    have := Int.neg_tmod (a := -a) (b := n)
    rw [Int.neg_neg] at this
    rw [this, Int.tmod_eq_emod_of_nonneg (by omega)]
theorem dif_some (a b : Int) : seq_Diff.f a b = some ((a - b + 2147483648) % 4294967296 - 2147483648) := by
  simp only [seq_Diff.f, seq_to_int32_uint32.f, seq_to_int_int32.f, Option.bind_some, wrap32, wrap64, Option.some.injEq]
  omega
theorem plus_some (a n : Int) : seq_Plus.f a n = some ((a + n) % 4294967296) := by
  simp only [seq_Plus.f, seq_to_uint32_int.f, Option.bind_some, Option.some.injEq]
  omega
theorem place_some (s q n : Int) : seq_Place.f s q n = some (wrap64 (mx 0 (mn n 1099511627776) + ((q - (s + mx 0 (mn n 1099511627776)) % 4294967296 + 2147483648) % 4294967296 - 2147483648))) := by
  simp only [seq_Place.f, plus_some, dif_some, Option.bind_some]
theorem awake_some : rampartlaw19_awake.f = some true := by
  simp only [rampartlaw19_awake.f, plus_some, dif_some, place_some, Option.bind_some]
  simp [wrap64, mx, mn]

theorem SeqAll : rampartlaw19_SeqAll.Pure := by
  intro a b n near ha hb hn hnear
  have ha := bounds_u32 ha
  have hb := bounds_u32 hb
  have hn := bounds_i64 hn
  have hnear := bounds_i64 hnear
  have e1 : ∀ x y : Int, 0 ≤ x → x ≤ 4294967295 → 0 ≤ y → y ≤ 4294967295 → rampartref19_Diff.f x y = some ((x - y + 2147483648) % 4294967296 - 2147483648) := by
    intro x y _ _ _ _
    simp only [rampartref19_Diff.f, wrap64]
    split
    · simp only [Option.some.injEq]; omega
    · split
      · simp only [Option.some.injEq]; omega
      · simp only [Option.some.injEq]; omega
  have e2 : ∀ x m : Int, 0 ≤ x → x ≤ 4294967295 → rampartref19_Plus.f x m = some ((x + m) % 4294967296) := by
    intro x m _ _
    have hp : ∀ y : Int, Int.tmod y 4294967296 = if 0 ≤ y then y % 4294967296 else -((-y) % 4294967296) := fun y => tmod_pos y 4294967296 (by omega)
    simp only [rampartref19_Plus.f, hp, wrap64]
    (repeat' split) <;> (simp only [Option.some.injEq]; omega)
  have e3 : rampartref19_Place.f a b near = some (wrap64 (mx 0 (mn near 1099511627776) + ((b - (a + mx 0 (mn near 1099511627776)) % 4294967296 + 2147483648) % 4294967296 - 2147483648))) := by
    have e : mn (mx near 0) 1099511627776 = mx 0 (mn near 1099511627776) := by unfold mx mn; (repeat' split) <;> omega
    simp only [rampartref19_Place.f, e, e2 a _ ha.1 ha.2, Option.bind_some]
    rw [e1 b _ hb.1 hb.2 (by omega) (by omega)]
    simp only [Option.bind_some]
  simp only [rampartlaw19_SeqAll.f, dif_some, plus_some, place_some, e1 a b ha.1 ha.2 hb.1 hb.2, e2 a n ha.1 ha.2, e3, awake_some, Option.bind_some, if_true]

end Go.Proofs.Ytolklmeemadjfaa.Pure
