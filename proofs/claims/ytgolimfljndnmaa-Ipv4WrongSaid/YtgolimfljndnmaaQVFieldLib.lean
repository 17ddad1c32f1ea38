/- What is proved: pieces of joined texts are found again at their places; with its sum in its place a text's sum is 0. Conditions: those that stand in each theorem. -/
import Derived.Test.YtgolimfljndnmaaQVSumLib
namespace Go.Proofs.Ytgolimfljndnmaa.QV
open Go.RowKit Go.Proofs.Ytgolimfljndnmaa.HV Go.Proofs.YtgolimfljndnmaaW.PrintWords Go.Proofs.YtgolimfljndnmaaW.PrintLast Go.Proofs.YtgolimfljndnmaaW.PrintMore
set_option linter.unusedVariables false
set_option linter.unusedSimpArgs false
theorem cut_at {s : ByteArray} {a b c : List UInt8} (h : s.data.toList = a ++ (b ++ c)) {i j : Nat} (hi : a.length = i) (hj : i + b.length = j) : (s.extract i j).data.toList = b := by
  rw [ext_list, h, List.drop_append_of_le_length (by omega), List.drop_of_length_le (by omega), List.nil_append, List.take_append_of_le_length (by omega), List.take_of_length_le (by omega)]
theorem cut_end {s : ByteArray} {a b : List UInt8} (h : s.data.toList = a ++ b) {i : Nat} (hi : a.length = i) : (s.extract i s.size).data.toList = b := by
  have hs : s.size = a.length + b.length := by
    have := congrArg List.length h
    simpa using this
  rw [ext_list, h, List.drop_append_of_le_length (by omega), List.drop_of_length_le (by omega), List.nil_append, List.take_of_length_le (by omega)]
theorem bt_at_list {s : ByteArray} {a : List UInt8} {c : UInt8} {r : List UInt8} (h : s.data.toList = a ++ c :: r) {i : Nat} (hi : a.length = i) : bt s (i : Int) = c.toNat := by
  have hs : s.size = a.length + (r.length + 1) := by
    have := congrArg List.length h
    simpa using this
  rw [bt_get s i (by omega)]
  congr 1
  subst hi
  simp [h]
theorem numOf_list {s : ByteArray} {v : Int} {n : Nat} (h : s.data.toList = (bigS v n).data.toList) (hn : n ≤ 7) : numOf s = v % 256 ^ n := by
  rw [ba_ext h]
  exact numOf_big v n hn
theorem red_full (T : Int) (h : 0 ≤ T) : red (T + (65535 - red T)) = 65535 := by unfold red; (repeat' split) <;> omega
theorem wsum_mid (a m b : List UInt8) (ha : a.length % 2 = 0) (hm : m.length % 2 = 0) : wsum (a ++ (m ++ b)) 0 = wsum a 0 + wsum m 0 + wsum b 0 := by
  rw [wsum_append, wsum_append, wsum_even m _ 0 (by omega), wsum_even b _ 0 (by omega)]
  omega
theorem sumOf_range (l : List UInt8) : 0 ≤ sumOf l ∧ sumOf l ≤ 65535 := by
  have := red_range (wsum_nonneg l 0)
  unfold sumOf
  omega
theorem zero_two : wsum [0, 0] 0 = 0 := by decide
/-- With its sum in place of two bytes 0, at an even place, the sum of a text is 0. -/
theorem sum_fill (a b : List UInt8) (ha : a.length % 2 = 0) : sumOf (a ++ ((bigS (sumOf (a ++ ([0, 0] ++ b))) 2).data.toList ++ b)) = 0 := by
  have hr := sumOf_range (a ++ ([0, 0] ++ b))
  generalize hn : sumOf (a ++ ([0, 0] ++ b)) = n at *
  have p1 := wsum_nonneg a 0
  have p2 := wsum_nonneg b 0
  have hn2 : n = 65535 - red (wsum a 0 + wsum b 0) := by
    rw [← hn, sumOf, wsum_mid a [0, 0] b ha rfl, zero_two, Int.add_zero]
  have := red_full (wsum a 0 + wsum b 0) (by omega)
  rw [← hn2] at this
  rw [sumOf, wsum_mid a _ b ha (by rw [bigS_length]), wsum_big2 n 0 hr.1 hr.2 (by omega), show wsum a 0 + n + wsum b 0 = wsum a 0 + wsum b 0 + n by omega, this]
  rfl
/-- Another number there, and the sum is not 0 (but for 0 and 65535, which count as one). -/
theorem sum_other (a b : List UInt8) (ha : a.length % 2 = 0) (v : Int) (h0 : 0 ≤ v) (h1 : v ≤ 65535) (h : sumOf (a ++ ((bigS v 2).data.toList ++ b)) = 0) : v % 65535 = sumOf (a ++ ([0, 0] ++ b)) % 65535 := by
  have p1 := wsum_nonneg a 0
  have p2 := wsum_nonneg b 0
  rw [sumOf, wsum_mid a _ b ha (by rw [bigS_length]), wsum_big2 v 0 h0 h1 (by omega)] at h
  rw [sumOf, wsum_mid a [0, 0] b ha rfl, zero_two, Int.add_zero]
  unfold red at *
  (repeat' split at h) <;> (repeat' split) <;> omega
end Go.Proofs.Ytgolimfljndnmaa.QV
