/- What is proved: the plain statement of SumZero: with its sum in place of two bytes 0, at an even place, the sum of a text is 0. Conditions: a text's size and a number as the row gives them, nothing else. -/
import Derived.Test.YtchjfgdcldaacaaPureSumLib
namespace Go.Proofs.Ytchjfgdcldaacaa.Pure
open Go.RowKit Go.Proofs.Ytchjfgdcldaacaa.HA Go.Proofs.YtchjfgdcldaacaaW.PrintWords Go.Proofs.YtchjfgdcldaacaaW.PrintLast Go.Proofs.YtchjfgdcldaacaaW.PrintMore
set_option linter.unusedVariables false
set_option linter.unusedSimpArgs false
theorem wsum_three (a m b : ByteArray) (ha : a.size % 2 = 0) (hm : m.size % 2 = 0) : wsum (cat [a, m, b]) 0 = wsum a.data.toList 0 + wsum m.data.toList 0 + wsum b.data.toList 0 := by
  simp only [cat, List.append_nil]
  rw [wsum_append, wsum_append, wsum_even m.data.toList _ 0 (by simp; omega), wsum_even b.data.toList _ 0 (by simp; omega)]
  omega
theorem red_full (T : Int) (h : 0 ≤ T) : red (T + (65535 - red T)) = 65535 := by unfold red; (repeat' split) <;> omega
theorem SumZero : rampartlaw01_SumZero.Pure := by
  intro s at_ hs hat
  have hat := bounds_i64 hat
  obtain ⟨K0, h0⟩ := sumAwake_ev
  by_cases hz : (s.size : Int) > 1000
  · refine ⟨K0, ?_⟩
    simp only [rampartlaw01_SumZero.f]
    rw [if_pos hz]
    have e0 := h0 K0 (by omega)
    simp only [e0, Option.bind_some]
  have hp := at_some at_ ((s.size : Int) / 2 + 1) (by omega) (by omega) hat
  have hr0 := Int.emod_nonneg at_ (show (s.size : Int) / 2 + 1 ≠ 0 by omega)
  have hr1 := Int.emod_lt_of_pos at_ (show 0 < (s.size : Int) / 2 + 1 by omega)
  obtain ⟨m, hm⟩ := Int.eq_ofNat_of_zero_le hr0
  rw [hm] at hp hr1
  have hk : 2 * m ≤ s.size := by omega
  have ew : wrap64 (wrap64 ((s.size : Int) / 2) + 1) = (s.size : Int) / 2 + 1 := by unfold wrap64; omega
  have ew2 : wrap64 (2 * ((m : Nat) : Int)) = ((2 * m : Nat) : Int) := by unfold wrap64; omega
  have sa : (s.extract 0 (2 * m)).size = 2 * m := by simp; omega
  have sb : (s.extract (2 * m) s.size).size = s.size - 2 * m := by simp
  have cA : ∀ x : ByteArray, x.size = 2 → catSize [s.extract 0 (2 * m), x, s.extract (2 * m) s.size] = s.size + 2 := by
    intro x hx
    simp only [catSize, sa, sb, hx]
    omega
  obtain ⟨K1, h1⟩ := of_ev [s.extract 0 (2 * m), (⟨#[0, 0]⟩ : ByteArray), s.extract (2 * m) s.size] (by simp) (by rw [cA _ rfl]; omega)
  generalize hn : sumOf (cat [s.extract 0 (2 * m), (⟨#[0, 0]⟩ : ByteArray), s.extract (2 * m) s.size]) = n at h1
  obtain ⟨K2, h2⟩ := big_ev_nat n 2 (by omega)
  obtain ⟨K3, h3⟩ := of_ev [s.extract 0 (2 * m), bigS n 2, s.extract (2 * m) s.size] (by simp) (by rw [cA _ (bigS_size n 2)]; omega)
  obtain ⟨K4, h4⟩ := of_ev [s.extract 0 (2 * m) ++ (⟨#[0, 0]⟩ : ByteArray) ++ s.extract (2 * m) s.size] (by simp) (by simp only [catSize, ByteArray.size_append, sa, sb]; rw [show (⟨#[0, 0]⟩ : ByteArray).size = 2 from rfl]; omega)
  have w1 := wsum_three (s.extract 0 (2 * m)) (⟨#[0, 0]⟩ : ByteArray) (s.extract (2 * m) s.size) (by rw [sa]; omega) rfl
  have w2 := wsum_three (s.extract 0 (2 * m)) (bigS n 2) (s.extract (2 * m) s.size) (by rw [sa]; omega) (by rw [bigS_size])
  have z0 : wsum (⟨#[0, 0]⟩ : ByteArray).data.toList 0 = 0 := by decide +kernel
  have p1 := wsum_nonneg (s.extract 0 (2 * m)).data.toList 0
  have p2 := wsum_nonneg (s.extract (2 * m) s.size).data.toList 0
  have hn2 : n = 65535 - red (wsum (s.extract 0 (2 * m)).data.toList 0 + wsum (s.extract (2 * m) s.size).data.toList 0) := by
    rw [← hn, sumOf, w1, z0, Int.add_zero]
  have hr := red_range (v := wsum (s.extract 0 (2 * m)).data.toList 0 + wsum (s.extract (2 * m) s.size).data.toList 0) (by omega)
  have q3 : sumOf (cat [s.extract 0 (2 * m), bigS n 2, s.extract (2 * m) s.size]) = 0 := by
    rw [sumOf, w2, wsum_big2 n 0 (by omega) (by omega) (by omega)]
    have := red_full (wsum (s.extract 0 (2 * m)).data.toList 0 + wsum (s.extract (2 * m) s.size).data.toList 0) (by omega)
    rw [← hn2] at this
    rw [show wsum (s.extract 0 (2 * m)).data.toList 0 + n + wsum (s.extract (2 * m) s.size).data.toList 0 = wsum (s.extract 0 (2 * m)).data.toList 0 + wsum (s.extract (2 * m) s.size).data.toList 0 + n by omega, this]
    rfl
  have q4 : sumOf (cat [s.extract 0 (2 * m) ++ (⟨#[0, 0]⟩ : ByteArray) ++ s.extract (2 * m) s.size]) = n := by
    rw [← hn]
    simp only [cat, app_list, List.append_nil, List.append_assoc]
  generalize hkk : K0 + K1 + K2 + K3 + K4 = k
  refine ⟨k, ?_⟩
  have e0 := h0 k (by omega)
  have e1 := h1 k (by omega)
  have e2 : sum_Big.f k n 2 = some (bigS n 2) := h2 k (by omega)
  have e3 := h3 k (by omega)
  have e4 := h4 k (by omega)
  rw [q3] at e3
  rw [q4] at e4
  simp only [rampartlaw01_SumZero.f]
  rw [if_neg hz, ew, hp, Option.bind_some, ew2, if_pos (by omega), if_pos (by omega)]
  simp only [Int.toNat_natCast, e1, Option.bind_some, e2, e3, if_true]
  rw [if_pos (by rw [sa]; omega), if_pos (by rw [ByteArray.size_append, sa, sb, show (⟨#[0, 0]⟩ : ByteArray).size = 2 from rfl]; omega)]
  simp only [e4, Option.bind_some, if_true]
  rw [if_pos (by omega), if_pos (by omega)]
  simp only [e0, Option.bind_some]
end Go.Proofs.Ytchjfgdcldaacaa.Pure
