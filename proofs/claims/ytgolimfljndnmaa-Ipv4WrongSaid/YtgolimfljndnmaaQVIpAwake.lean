/- What is proved: the document's example of chapter 3 holds. Conditions: none. -/
import Derived.Test.YtgolimfljndnmaaQVIpGet
import Derived.Test.YtgolimfljndnmaaHVx7
namespace Go.Proofs.Ytgolimfljndnmaa.QV
open Go.RowKit Go.Proofs.Ytgolimfljndnmaa.HV Go.Proofs.YtgolimfljndnmaaW.PrintWords Go.Proofs.YtgolimfljndnmaaW.PrintLast Go.Proofs.YtgolimfljndnmaaW.PrintMore
set_option linter.unusedVariables false
set_option linter.unusedSimpArgs false
def iaw : ByteArray := (putI 0 0 false false 0 9 6 1 2 (⟨#[]⟩ : ByteArray) (⟨#[]⟩ : ByteArray)).1
def iaw2 : ByteArray := iaw ++ (⟨#[109, 111, 114, 101]⟩ : ByteArray)
theorem iaw_put : putI 0 0 false false 0 9 6 1 2 (⟨#[]⟩ : ByteArray) (⟨#[]⟩ : ByteArray) = (iaw, 0) := by decide +kernel
theorem iaw_size : (iaw.size : Int) = 20 := by decide +kernel
theorem iaw_get : (getI iaw2).2.2.2.2.2.2.2.2.2.2.2 = 0 ∧ (getI iaw2).2.2.2.2.2.1 = 9 ∧ (getI iaw2).2.2.2.2.2.2.2.2.2.2.1.toList = [] ∧ (getI iaw2).2.2.2.2.2.2.2.1 = 1 := by decide +kernel
theorem ipAwake_ev : Ev (fun k => rampartlaw03_awake.f k) true := by
  obtain ⟨K1, q1⟩ := iput_ev 0 0 false false 0 9 6 1 2 (⟨#[]⟩ : ByteArray) (⟨#[]⟩ : ByteArray) (by omega) (by omega)
  obtain ⟨K2, q2⟩ := iget_ev iaw2
  refine ⟨K1 + K2, fun k hk => ?_⟩
  have e1 : ipv4_Put.f k 0 0 false false 0 9 6 1 2 (⟨#[]⟩ : ByteArray) (⟨#[]⟩ : ByteArray) = some (iaw, 0) := by rw [← iaw_put]; exact q1 k (by omega)
  have e2 : ipv4_Get.f k (iaw ++ (⟨#[109, 111, 114, 101]⟩ : ByteArray)) = some (getI iaw2) := q2 k (by omega)
  have hz := iaw_size
  have hr : iaw.size + 4 ≤ 9223372036854775807 := room (by omega)
  obtain ⟨g1, g2, g3, g4⟩ := iaw_get
  simp only [rampartlaw03_awake.f]
  rw [e1, Option.bind_some, if_pos hr, e2, Option.bind_some, if_pos rfl, if_pos iaw_size, if_pos g1, if_pos g2, if_pos g3, g4]
  rfl
end Go.Proofs.Ytgolimfljndnmaa.QV
