/- What is proved: what the program's and the document's Get of segments come to, in closed form, and the document's Put: the same as the program's. Conditions: those that stand in each theorem. -/
import Derived.Test.YtgolimfljndnmaaQWTcp
import Derived.Test.YtgolimfljndnmaaHWx7
namespace Go.Proofs.Ytgolimfljndnmaa.QW
open Go.RowKit Go.Proofs.Ytgolimfljndnmaa.HW Go.Proofs.YtgolimfljndnmaaW.PrintWords Go.Proofs.YtgolimfljndnmaaW.PrintLast Go.Proofs.YtgolimfljndnmaaW.PrintMore
set_option linter.unusedVariables false
set_option linter.unusedSimpArgs false
abbrev GotT := Int × Int × Int × Int × Int × Int × ByteArray × ByteArray × Int
def errT (c : Int) : GotT := (0, 0, 0, 0, 0, 0, (⟨#[]⟩ : ByteArray), (⟨#[]⟩ : ByteArray), c)
/-- How many bytes a head says it has. -/
def lenT (s : ByteArray) : Nat := (bt s 12 / 16 * 4).toNat
theorem lenT_int (s : ByteArray) : ((lenT s : Nat) : Int) = bt s 12 / 16 * 4 := by
  have := bt_range s 12
  unfold lenT
  omega
/-- The sum of a segment as it is. -/
def whole (src dst : Int) (s : ByteArray) : Int := sumOf ((pseudoT src dst 6 (s.size : Int)).data.toList ++ s.data.toList)
def wrongT (src dst : Int) (s : ByteArray) : Int :=
  if s.size < 20 then 2 else if lenT s < 20 then 3 else if s.size < lenT s then 2 else if bt s 12 % 16 ≠ 0 ∨ bt s 13 > 63 then 3 else if s.size > 2000 then 5 else if whole src dst s ≠ 0 then 4 else 0
def okT (s : ByteArray) : GotT := (numOf (s.extract 0 2), numOf (s.extract 2 4), numOf (s.extract 4 8) % 4294967296, numOf (s.extract 8 12) % 4294967296, bt s 13, numOf (s.extract 14 16), s.extract 20 (lenT s), s.extract (lenT s) s.size, 0)
def getT (src dst : Int) (s : ByteArray) : GotT := if wrongT src dst s = 0 then okT s else errT (wrongT src dst s)
theorem and15 (s : ByteArray) : Go.bits .and .u8 (bt s 12) 15 = bt s 12 % 16 := u8_and15 _ (bt_range s 12).1 (by have := bt_range s 12; omega)
theorem word_a (s : ByteArray) : wrap64 (bt s 12) = bt s 12 := by have := bt_range s 12; unfold wrap64; omega
theorem word_b (s : ByteArray) : wrap64 (bt s 12 / 16 * 4) = bt s 12 / 16 * 4 := by have := bt_range s 12; unfold wrap64; omega
theorem word_c (s : ByteArray) : wrap64 (bt s 13) = bt s 13 := by have := bt_range s 13; unfold wrap64; omega
theorem cat_two (a b : ByteArray) : cat [a, b] = a.data.toList ++ b.data.toList := by simp only [cat, List.append_nil]
theorem wrong_j0 (src dst : Int) (s : ByteArray) (hs : 0 ≤ src ∧ src ≤ 4294967295) (hd : 0 ≤ dst ∧ dst ≤ 4294967295) (a0 a1 a2 a3 a4 a5 : Int) (o : ByteArray) :
    Ev (fun k => tcp_wrong.j0 k s false a0 a1 a2 a3 a4 a5 o src dst) (if s.size > 2000 then 5 else if whole src dst s ≠ 0 then 4 else 0) := by
  by_cases hb : s.size > 2000
  · refine ⟨1, fun k hk => ?_⟩
    obtain ⟨k, rfl⟩ : ∃ m, k = m + 1 := ⟨k - 1, by omega⟩
    simp only [tcp_wrong.j0, Bool.false_eq_true, if_false]
    rw [if_pos (show (s.size : Int) > 2000 by omega), if_pos hb]
  · obtain ⟨K1, q1⟩ := head_pseudo_ev a0 a1 a2 a3 a4 a5 o src dst (s.size : Int) hs hd
    obtain ⟨K2, q2⟩ := of_ev [pseudoT src dst 6 (s.size : Int), s] (by simp) (by simp only [catSize, pseudoT_size]; omega)
    rw [cat_two] at q2
    refine ⟨K1 + K2 + 1, fun k hk => ?_⟩
    obtain ⟨k, rfl⟩ : ∃ m, k = m + 1 := ⟨k - 1, by omega⟩
    have e1 : tcp_head_pseudo.f k a0 a1 a2 a3 a4 a5 o src dst (s.size : Int) = some (pseudoT src dst 6 (s.size : Int)) := q1 k (by omega)
    have e2 : sum_Of.f k [pseudoT src dst 6 (s.size : Int), s] = some (whole src dst s) := q2 k (by omega)
    simp only [tcp_wrong.j0, Bool.false_eq_true, if_false]
    rw [if_neg (show ¬ (s.size : Int) > 2000 by omega), e1, Option.bind_some, e2, Option.bind_some, if_neg hb]
    by_cases hz : whole src dst s = 0
    · rw [if_pos hz, if_neg (by simp [hz])]
    · rw [if_neg hz, if_pos hz]
theorem wrong_ev (src dst : Int) (s : ByteArray) (hs : 0 ≤ src ∧ src ≤ 4294967295) (hd : 0 ≤ dst ∧ dst ≤ 4294967295) (a0 a1 a2 a3 a4 a5 : Int) (o : ByteArray) :
    Ev (fun k => tcp_wrong.f k a0 a1 a2 a3 a4 a5 o src dst s) (wrongT src dst s) := by
  have hl := lenT_int s
  have hb := bt_range s 12
  unfold wrongT
  by_cases h1 : s.size < 20
  · rw [if_pos h1]
    refine ⟨0, fun k _ => ?_⟩
    simp only [tcp_wrong.f]
    rw [if_pos (show (s.size : Int) < 20 by omega)]
  · rw [if_neg h1]
    by_cases h2 : lenT s < 20
    · rw [if_pos h2]
      refine ⟨0, fun k _ => ?_⟩
      simp only [tcp_wrong.f]
      rw [if_neg (show ¬ (s.size : Int) < 20 by omega), if_pos (show (12 : Int) < (s.size : Int) by omega), word_a, if_pos (show bt s 12 / 16 < 5 by omega)]
    · rw [if_neg h2]
      by_cases h3 : s.size < lenT s
      · rw [if_pos h3]
        refine ⟨0, fun k _ => ?_⟩
        simp only [tcp_wrong.f]
        rw [if_neg (show ¬ (s.size : Int) < 20 by omega), if_pos (show (12 : Int) < (s.size : Int) by omega), word_a, if_neg (show ¬ bt s 12 / 16 < 5 by omega), word_b, if_pos (show (s.size : Int) < bt s 12 / 16 * 4 by omega)]
      · rw [if_neg h3]
        by_cases h4 : bt s 12 % 16 = 0
        · by_cases h5 : bt s 13 > 63
          · rw [if_pos (.inr h5)]
            refine ⟨1, fun k hk => ?_⟩
            obtain ⟨k, rfl⟩ : ∃ m, k = m + 1 := ⟨k - 1, by omega⟩
            simp only [tcp_wrong.f]
            rw [if_neg (show ¬ (s.size : Int) < 20 by omega), if_pos (show (12 : Int) < (s.size : Int) by omega), word_a, if_neg (show ¬ bt s 12 / 16 < 5 by omega), word_b, if_neg (show ¬ (s.size : Int) < bt s 12 / 16 * 4 by omega), and15, if_pos h4, if_pos (show (13 : Int) < (s.size : Int) by omega), decide_eq_true h5]
            simp only [tcp_wrong.j0, if_true]
          · rw [if_neg (by rintro (h | h) <;> omega)]
            refine Ev.congr (f := fun k => tcp_wrong.j0 k s false a0 a1 a2 a3 a4 a5 o src dst) (fun k => ?_) (wrong_j0 src dst s hs hd a0 a1 a2 a3 a4 a5 o)
            simp only [tcp_wrong.f]
            rw [if_neg (show ¬ (s.size : Int) < 20 by omega), if_pos (show (12 : Int) < (s.size : Int) by omega), word_a, if_neg (show ¬ bt s 12 / 16 < 5 by omega), word_b, if_neg (show ¬ (s.size : Int) < bt s 12 / 16 * 4 by omega), and15, if_pos h4, if_pos (show (13 : Int) < (s.size : Int) by omega), decide_eq_false h5]
        · rw [if_pos (.inl h4)]
          refine ⟨1, fun k hk => ?_⟩
          obtain ⟨k, rfl⟩ : ∃ m, k = m + 1 := ⟨k - 1, by omega⟩
          simp only [tcp_wrong.f]
          rw [if_neg (show ¬ (s.size : Int) < 20 by omega), if_pos (show (12 : Int) < (s.size : Int) by omega), word_a, if_neg (show ¬ bt s 12 / 16 < 5 by omega), word_b, if_neg (show ¬ (s.size : Int) < bt s 12 / 16 * 4 by omega), and15, if_neg h4]
          simp only [tcp_wrong.j0, if_true]
theorem wrongT_zero {src dst : Int} {s : ByteArray} (h : wrongT src dst s = 0) : 20 ≤ s.size ∧ 20 ≤ lenT s ∧ lenT s ≤ s.size ∧ s.size ≤ 2000 ∧ bt s 12 % 16 = 0 ∧ bt s 13 ≤ 63 ∧ whole src dst s = 0 := by
  unfold wrongT at h
  by_cases h1 : s.size < 20
  · rw [if_pos h1] at h; omega
  rw [if_neg h1] at h
  by_cases h2 : lenT s < 20
  · rw [if_pos h2] at h; omega
  rw [if_neg h2] at h
  by_cases h3 : s.size < lenT s
  · rw [if_pos h3] at h; omega
  rw [if_neg h3] at h
  by_cases h4 : bt s 12 % 16 ≠ 0 ∨ bt s 13 > 63
  · rw [if_pos h4] at h; omega
  rw [if_neg h4] at h
  by_cases h5 : s.size > 2000
  · rw [if_pos h5] at h; omega
  rw [if_neg h5] at h
  by_cases h6 : whole src dst s ≠ 0
  · rw [if_pos h6] at h; omega
  refine ⟨by omega, by omega, by omega, by omega, ?_, ?_, ?_⟩
  · exact Classical.byContradiction fun hh => h4 (.inl hh)
  · exact Classical.byContradiction fun hh => h4 (.inr (by omega))
  · exact Classical.byContradiction fun hh => h6 hh
theorem get_run (k : Nat) (src dst : Int) (s : ByteArray) (v1 v2 v3 v4 v5 : Int) (m : Nat) (hw : tcp_wrong.f k 0 0 0 0 0 0 (⟨#[]⟩ : ByteArray) src dst s = some 0) (h20 : 20 ≤ s.size) (hm : 20 ≤ m) (hm2 : m ≤ s.size) (hl : wrap64 (wrap64 (bt s 12) / 16 * 4) = (m : Int))
    (e1 : sum_Num.f (s.extract 0 2) = some v1) (e2 : sum_Num.f (s.extract 2 4) = some v2) (e3 : sum_Num.f (s.extract 4 8) = some v3) (e4 : sum_Num.f (s.extract 8 12) = some v4) (e5 : sum_Num.f (s.extract 14 16) = some v5) :
    tcp_Get.f k src dst s = some (v1, v2, v3 % 4294967296, v4 % 4294967296, wrap64 (bt s 13), v5, s.extract 20 m, s.extract m s.size, 0) := by
  simp only [tcp_Get.f]
  rw [hw, Option.bind_some, if_pos rfl, if_pos (show (12 : Int) < (s.size : Int) by omega), if_pos (show (0 : Nat) ≤ 2 by decide), if_pos (show (2 : Int) ≤ (s.size : Int) by omega), e1, Option.bind_some, if_pos (show (2 : Nat) ≤ 4 by decide), if_pos (show (4 : Int) ≤ (s.size : Int) by omega), e2, Option.bind_some,
    if_pos (show (4 : Nat) ≤ 8 by decide), if_pos (show (8 : Int) ≤ (s.size : Int) by omega), e3, Option.bind_some, if_pos (show (8 : Nat) ≤ 12 by decide), if_pos (show (12 : Int) ≤ (s.size : Int) by omega), e4, Option.bind_some, if_pos (show (13 : Int) < (s.size : Int) by omega), if_pos (show (14 : Nat) ≤ 16 by decide), if_pos (show (16 : Int) ≤ (s.size : Int) by omega), e5, Option.bind_some,
    hl, if_pos (show (20 : Int) ≤ (m : Int) by omega), if_pos (show (m : Int) ≤ (s.size : Int) by omega), if_pos (Int.natCast_nonneg _), Int.toNat_natCast]
theorem num_ext (s : ByteArray) (a b : Nat) (h : b - a ≤ 8) : sum_Num.f (s.extract a b) = some (numOf (s.extract a b)) := num_some _ (by simp; omega)
theorem get_ev (src dst : Int) (s : ByteArray) (hs : 0 ≤ src ∧ src ≤ 4294967295) (hd : 0 ≤ dst ∧ dst ≤ 4294967295) : Ev (fun k => tcp_Get.f k src dst s) (getT src dst s) := by
  obtain ⟨K, q⟩ := wrong_ev src dst s hs hd 0 0 0 0 0 0 (⟨#[]⟩ : ByteArray)
  refine ⟨K, fun k hk => ?_⟩
  have e : tcp_wrong.f k 0 0 0 0 0 0 (⟨#[]⟩ : ByteArray) src dst s = some (wrongT src dst s) := q k hk
  unfold getT
  by_cases h : wrongT src dst s = 0
  · rw [h] at e
    obtain ⟨a1, a2, a3, _⟩ := wrongT_zero h
    rw [if_pos h]
    have := get_run k src dst s _ _ _ _ _ (lenT s) e a1 a2 a3 (by rw [word_a, word_b, lenT_int]) (num_ext s 0 2 (by omega)) (num_ext s 2 4 (by omega)) (num_ext s 4 8 (by omega)) (num_ext s 8 12 (by omega)) (num_ext s 14 16 (by omega))
    rw [word_c] at this
    exact this
  · rw [if_neg h]
    simp only [tcp_Get.f]
    rw [e, Option.bind_some, if_neg h]
    rfl
end Go.Proofs.Ytgolimfljndnmaa.QW
