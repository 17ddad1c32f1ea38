/- What is proved: the document's example of chapter 4 holds. Conditions: none. -/
import Derived.Test.YtgolimfljndnmaaQWTcpGet
import Derived.Test.YtgolimfljndnmaaHWx8
namespace Go.Proofs.Ytgolimfljndnmaa.QW
open Go.RowKit Go.Proofs.Ytgolimfljndnmaa.HW Go.Proofs.YtgolimfljndnmaaW.PrintWords Go.Proofs.YtgolimfljndnmaaW.PrintLast Go.Proofs.YtgolimfljndnmaaW.PrintMore
set_option linter.unusedVariables false
set_option linter.unusedSimpArgs false
def aw : ByteArray := (putT 1 2 5 80 7 0 2 0 (⟨#[]⟩ : ByteArray) (⟨#[]⟩ : ByteArray)).1
theorem aw_put : putT 1 2 5 80 7 0 2 0 (⟨#[]⟩ : ByteArray) (⟨#[]⟩ : ByteArray) = (aw, 0) := by decide +kernel
theorem aw_size : (aw.size : Int) = 20 := by decide +kernel
theorem aw_get : (getT 1 2 aw).2.2.2.2.2.2.2.2 = 0 ∧ (getT 1 2 aw).2.2.1 = 7 ∧ (getT 1 2 aw).2.1 = 80 ∧ (getT 1 2 aw).2.2.2.2.2.2.2.1.toList = [] := by decide +kernel
theorem aw_chk : chkT (getT 1 2 aw).1 (getT 1 2 aw).2.1 (getT 1 2 aw).2.2.2.2.1 (getT 1 2 aw).2.2.2.2.2.1 (getT 1 2 aw).2.2.2.2.2.2.1 = true := by decide +kernel
theorem tcpAwake_ev : Ev (fun k => rampartlaw04_awake.f k) true := by
  obtain ⟨K1, q1⟩ := put_ev 1 2 5 80 7 0 2 0 (⟨#[]⟩ : ByteArray) (⟨#[]⟩ : ByteArray) (by omega) (by omega) (by omega) (by omega) (by decide) (by decide)
  obtain ⟨K2, q2⟩ := get_ev 1 2 aw (by omega) (by omega)
  refine ⟨K1 + K2, fun k hk => ?_⟩
  have e1 : tcp_Put.f k 1 2 5 80 7 0 2 0 (⟨#[]⟩ : ByteArray) (⟨#[]⟩ : ByteArray) = some (aw, 0) := by rw [← aw_put]; exact q1 k (by omega)
  have e2 : tcp_Get.f k 1 2 aw = some (getT 1 2 aw) := q2 k (by omega)
  obtain ⟨g1, g2, g3, g4⟩ := aw_get
  simp only [rampartlaw04_awake.f]
  rw [e1, Option.bind_some, e2, Option.bind_some, if_pos rfl, if_pos aw_size, if_pos g1, if_pos g2, if_pos g3, if_pos g4, tcp_check_some, aw_chk, Option.bind_some]
end Go.Proofs.Ytgolimfljndnmaa.QW
