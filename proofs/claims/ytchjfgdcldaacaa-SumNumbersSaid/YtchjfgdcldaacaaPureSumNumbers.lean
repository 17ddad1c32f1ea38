/- What is proved: the plain statement of SumNumbers: bytes of numbers, there and back. Conditions: each argument is a number of its kind, nothing else. -/
import Derived.Test.YtchjfgdcldaacaaPureSumLib
namespace Go.Proofs.Ytchjfgdcldaacaa.Pure
open Go.RowKit Go.Proofs.Ytchjfgdcldaacaa.HA Go.Proofs.YtchjfgdcldaacaaW.PrintWords Go.Proofs.YtchjfgdcldaacaaW.PrintLast Go.Proofs.YtchjfgdcldaacaaW.PrintMore
set_option linter.unusedVariables false
set_option linter.unusedSimpArgs false
theorem and_mask (w : Int) (n : Nat) (h0 : 0 ≤ w) (h1 : w < 9223372036854775808) (hn : n ≤ 56) : Go.bits .and .i64 w (2 ^ n - 1) = w % 2 ^ n :=
  bits_mask .i64 63 (by decide) wraps64 n (by omega) w h0 (by omega)
theorem zero_list (s : ByteArray) : ((⟨#[0]⟩ : ByteArray) ++ s).data.toList = 0 :: s.data.toList := by rw [app_list]; rfl
theorem u64_8 (m : Nat) (h : m ≤ 7) : IntKind.u64.wrap (wrap64 (8 * (m : Int))) = ((8 * m : Nat) : Int) := by
  rw [IntKind.wrap_u64]
  unfold wrap64
  omega
theorem pow_room (m : Nat) (h : m ≤ 7) : 0 < (2 : Int) ^ (8 * m) ∧ (2 : Int) ^ (8 * m) ≤ 2 ^ 56 := by
  refine ⟨Int.pow_pos (by decide), ?_⟩
  have : (2 : Nat) ^ (8 * m) ≤ 2 ^ 56 := Nat.pow_le_pow_right (by decide) (by omega)
  exact Int.ofNat_le.mpr this
theorem shl_one (m : Nat) (h : m ≤ 7) : shl .i64 1 ((8 * m : Nat) : Int) = 2 ^ (8 * m) := by
  have hp := pow_room m h
  unfold shl
  rw [Int.toNat_natCast, Nat.min_eq_left (show 8 * m ≤ IntKind.i64.bits by show 8 * m ≤ 64; omega), Int.one_mul, wraps64 _ (by omega) (by omega)]
theorem wrap_pow (m : Nat) (h : m ≤ 7) : wrap64 (2 ^ (8 * m) - 1) = 2 ^ (8 * m) - 1 := by
  have hp := pow_room m h
  unfold wrap64
  omega
theorem mod_seven {w : Int} (h0 : 0 ≤ w) (h1 : w < 36028797018963968) : w % 256 ^ 7 = w := by
  rw [show (256 : Int) ^ 7 = 72057594037927936 from rfl]
  omega
theorem big_room (w : Int) (m : Nat) (h : m ≤ 7) : 1 + (bigS w m).size ≤ 9223372036854775807 := by
  rw [bigS_size, Nat.add_comm]
  exact Nat.le_trans (Nat.succ_le_succ h) (by decide)
theorem SumNumbers : rampartlaw01_SumNumbers.Pure := by
  intro v n hv hn
  have hv := bounds_i64 hv
  have hn := bounds_i64 hn
  have p1 := at_some n 8 (by omega) (by omega) hn
  have p2 := at_some v 36028797018963968 (by omega) (by omega) hv
  generalize hx : n % 8 = x at p1
  generalize hy : v % 36028797018963968 = w at p2
  have bx : 0 ≤ x ∧ x ≤ 7 := by omega
  have bw : 0 ≤ w ∧ w < 36028797018963968 := by omega
  obtain ⟨m, rfl⟩ := Int.eq_ofNat_of_zero_le bx.1
  have hm : m ≤ 7 := by omega
  obtain ⟨K0, h0⟩ := sumAwake_ev
  obtain ⟨K1, h1⟩ := big_ev_nat w m (by omega)
  obtain ⟨K2, h2⟩ := big_ev v (-1 - (m : Int))
  obtain ⟨K3, h3⟩ := big_ev v (8 + (m : Int))
  have c2 : clamp8 (-1 - (m : Int)) = 0 := by unfold clamp8 mx mn; (repeat' split) <;> omega
  have c3 : clamp8 (8 + (m : Int)) = 8 := by unfold clamp8 mx mn; (repeat' split) <;> omega
  rw [c2] at h2
  rw [c3] at h3
  generalize hk : K0 + K1 + K2 + K3 = k
  refine ⟨k + 1, ?_⟩
  have e0 : rampartlaw01_awake.f k = some true := h0 k (by omega)
  have e1 : sum_Big.f (k + 1) w (m : Int) = some (bigS w m) := h1 (k + 1) (by omega)
  have e2 : sum_Big.f k v (-1 - (m : Int)) = some (bigS v 0) := h2 k (by omega)
  have e3 : sum_Big.f k v (8 + (m : Int)) = some (bigS v 8) := h3 k (by omega)
  have n1 := num_some (bigS w m) (by rw [bigS_size]; omega)
  have sz : ((⟨#[0]⟩ : ByteArray) ++ bigS w m).size = m + 1 := by
    rw [ByteArray.size_append, bigS_size, show (⟨#[0]⟩ : ByteArray).size = 1 from rfl]
    omega
  have n2 := num_some ((⟨#[0]⟩ : ByteArray) ++ bigS w m) (by rw [sz]; omega)
  rw [numOf_big w m hm] at n1
  have z2 : numOf ((⟨#[0]⟩ : ByteArray) ++ bigS w m) = w % 256 ^ m := by
    by_cases h7 : m = 7
    · unfold numOf
      rw [sz, zero_list, show m + 1 - 7 = 1 by omega, List.drop_succ_cons, List.drop_zero, numL_bigS]
    · rw [numOf_short _ (by rw [sz]; omega), zero_list, numL_cons, numL_bigS]
      simp
  rw [z2] at n2
  clear z2
  have w2 : wrap64 (-1 - (m : Int)) = -1 - (m : Int) := by unfold wrap64; omega
  have w3 : wrap64 (8 + (m : Int)) = 8 + (m : Int) := by unfold wrap64; omega
  have b0 : (bigS v 0).toList = [] := by rw [toList_data]; simp [bigS, bigL, strOfNums]
  have hsz : 1 + (bigS w m).size ≤ 9223372036854775807 := big_room w m hm
  have fin : rampartlaw01_SumNumbers.j0 (k + 1) v (m : Int) (bigS w m) (w % 256 ^ m) = some true := by
    simp only [rampartlaw01_SumNumbers.j0]
    rw [if_pos (by rw [bigS_size]), n1, Option.bind_some, if_pos rfl, if_pos hsz, n2, Option.bind_some, if_pos rfl, w2, e2, Option.bind_some, if_pos b0, w3, e3, Option.bind_some, if_pos (by have := bigS_size v 8; omega), e0, Option.bind_some]
  simp only [rampartlaw01_SumNumbers.f]
  rw [p1, Option.bind_some, p2, Option.bind_some, e1, Option.bind_some]
  by_cases h7 : m < 7
  · have eu := u64_8 m hm
    rw [if_pos (show (m : Int) < 7 from Int.ofNat_lt.mpr h7), eu, if_pos (Int.natCast_nonneg _)]
    have es := shl_one m hm
    have hp := pow_room m hm
    rw [es, wrap_pow m hm, and_mask w (8 * m) bw.1 (Int.lt_trans bw.2 (by decide)) (Nat.mul_le_mul_left 8 hm), pow256]
    exact fin
  · rw [if_neg (show ¬ (m : Int) < 7 from fun h => h7 (Int.ofNat_lt.mp h))]
    obtain rfl : m = 7 := Nat.le_antisymm hm (Nat.le_of_not_lt h7)
    rw [mod_seven bw.1 bw.2] at fin
    exact fin
end Go.Proofs.Ytchjfgdcldaacaa.Pure
