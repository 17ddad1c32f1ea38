/- What is proved: the example of chapter 5's statements holds. Conditions: none. -/
import Derived.Test.YtgolimfljndnmaaQFDg
import Derived.Test.YtgolimfljndnmaaHFx9
namespace Go.Proofs.Ytgolimfljndnmaa.QF
open Go.RowKit Go.Proofs.Ytgolimfljndnmaa.HF Go.Proofs.YtgolimfljndnmaaW.PrintWords Go.Proofs.YtgolimfljndnmaaW.PrintLast Go.Proofs.YtgolimfljndnmaaW.PrintMore
theorem dgAwake_ev : Ev (fun k => rampartlaw05_awake.f k) true := by
  obtain ⟨K1, q1⟩ := uput_ev 1 2 5 53 0 0 0 (⟨#[120]⟩ : ByteArray) (by omega) (by omega) (by decide)
  obtain ⟨K2, q2⟩ := uget_ev 1 2 uaw (by omega) (by omega)
  obtain ⟨K3, q3⟩ := cget_ev (⟨#[49, 50, 51, 52, 53, 54, 55]⟩ : ByteArray)
  refine ⟨K1 + K2 + K3, fun k hk => ?_⟩
  have e1 : dgram_PutUDP.f k 1 2 5 53 0 0 0 (⟨#[120]⟩ : ByteArray) = some (uaw, 0) := by rw [← uaw_put]; exact q1 k (by omega)
  have e2 : dgram_GetUDP.f k 1 2 uaw = some (getU 1 2 uaw) := q2 k (by omega)
  have e3 : dgram_GetICMP.f k (⟨#[49, 50, 51, 52, 53, 54, 55]⟩ : ByteArray) = some (getC (⟨#[49, 50, 51, 52, 53, 54, 55]⟩ : ByteArray)) := q3 k (by omega)
  obtain ⟨g1, g2, g3, g4⟩ := uaw_get
  simp only [rampartlaw05_awake.f]
  rw [e1, Option.bind_some, e2, Option.bind_some, e3, Option.bind_some, if_pos rfl, if_pos g1, if_pos g2, if_pos g3, g4]
  rfl
end Go.Proofs.Ytgolimfljndnmaa.QF
