/- What is proved: the plain statement of EthSizes: as short and as long as may be, and a byte beyond. Conditions: numbers of their kinds, nothing else. -/
import Derived.Test.YtchjfgdcldaacaaQGEthLib
import Derived.Test.YtchjfgdcldaacaaQGPlaceLib
import Derived.Test.YtchjfgdcldaacaaHGx9
namespace Go.Proofs.Ytchjfgdcldaacaa.Pure
open Go.RowKit Go.Proofs.Ytchjfgdcldaacaa.QG Go.Proofs.Ytchjfgdcldaacaa.HG Go.Proofs.YtchjfgdcldaacaaW.PrintWords Go.Proofs.YtchjfgdcldaacaaW.PrintLast Go.Proofs.YtchjfgdcldaacaaW.PrintMore
set_option linter.unusedVariables false
set_option linter.unusedSimpArgs false
theorem empty_list : (⟨#[]⟩ : ByteArray).toList = [] := by rw [toList_data]
theorem zeros_size (n : Nat) : (strOfNums (List.replicate n 0)).size = n := by simp [strOfNums_size]
def longL (n : Nat) (v : Int) : List Int := ((List.replicate n 0).set 5 v).set 12 v
theorem longL_length (n : Nat) (v : Int) : (longL n v).length = n := by simp [longL]
theorem long_size (n : Nat) (v : Int) : (strOfNums (longL n v)).size = n := by rw [strOfNums_size, longL_length]
theorem long_list (m : Nat) (v : Int) : longL (14 + m) v = [0, 0, 0, 0, 0, v, 0, 0, 0, 0, 0, 0, v, 0] ++ List.replicate m 0 := by
  unfold longL
  rw [Nat.add_comm 14 m]
  rfl
theorem long_bytes (m : Nat) (v : Int) : (strOfNums (longL (14 + m) v)).data.toList = [0, 0, 0, 0, 0, UInt8.ofNat v.toNat, 0, 0, 0, 0, 0, 0, UInt8.ofNat v.toNat, 0] ++ (List.replicate m (0 : Int)).map (fun n => UInt8.ofNat n.toNat) := by
  rw [strOfNums_data, long_list, List.map_append]
  rfl
theorem long_got (m : Nat) (v : Int) (hv : 0 ≤ v ∧ v ≤ 255) : bt (strOfNums (longL (14 + m) v)) 5 = v ∧ numOf ((strOfNums (longL (14 + m) v)).extract 12 14) = 256 * v := by
  have hl := long_bytes m v
  generalize strOfNums (longL (14 + m) v) = s at hl
  refine ⟨?_, ?_⟩
  · have := bt_at_list (s := s) (a := [0, 0, 0, 0, 0]) (i := 5) hl rfl
    rw [byte_of hv] at this
    exact this
  · have c : (s.extract 12 14).data.toList = [UInt8.ofNat v.toNat, 0] := cut_at (a := [0, 0, 0, 0, 0, UInt8.ofNat v.toNat, 0, 0, 0, 0, 0, 0]) (b := [UInt8.ofNat v.toNat, 0]) hl rfl rfl
    have hz : (s.extract 12 14).size = 2 := by
      have h2 := congrArg List.length c
      exact h2
    rw [numOf_short _ (by omega), c]
    have hb := byte_of hv
    have e : numL [UInt8.ofNat v.toNat, 0] = ((UInt8.ofNat v.toNat).toNat : Int) * 256 + 0 := by simp [numL]
    rw [e, hb]
    omega
theorem sizes_big (v k0 : Int) (l : List Int) (y0 y1 y2 y3 y4 y5 y6 y7 y8 y9 y10 y11 : Int) : rampartlaw02_EthSizes.j0 1 v 3 l (⟨#[]⟩ : ByteArray) 5 false y0 y1 y2 y3 y4 y5 y6 y7 y8 y9 y10 y11 0 = some true := by
  simp only [rampartlaw02_EthSizes.j0, Bool.false_eq_true, if_false, if_true]
  rw [if_pos empty_list, awake_some, Option.bind_some]
theorem sizes_ok (v j : Int) (l : List Int) (b : ByteArray) (hj : ¬ j = 3) (hv : 0 ≤ v ∧ v ≤ 255) (hl : 14 ≤ l.length ∧ l.length ≤ 100000) (hb : b.size = l.length - 14) (y0 y1 y2 y3 y4 y6 y7 y8 y9 y10 y11 : Int) : rampartlaw02_EthSizes.j0 1 v j l b 0 false y0 y1 y2 y3 y4 v y6 y7 y8 y9 y10 y11 (256 * v) = some true := by
  have w1 : wrap64 v = v := by unfold wrap64; omega
  have w2 : wrap64 (256 * v) = 256 * v := by unfold wrap64; omega
  have w3 : wrap64 ((l.length : Int) - 14) = (b.size : Int) := by unfold wrap64; omega
  simp only [rampartlaw02_EthSizes.j0, Bool.false_eq_true, if_false, if_true]
  rw [if_neg hj, w1, w2, if_pos rfl, w3, if_pos rfl, awake_some, Option.bind_some]
theorem EthSizes : rampartlaw02_EthSizes.Pure := by
  intro n v hn hv
  have hn := bounds_i64 hn
  have hv := bounds_u8 hv
  have hp := at_some n 4 (by omega) (by omega) hn
  have hb : 0 ≤ n % 4 ∧ n % 4 < 4 := by omega
  obtain ⟨j, hj⟩ := Int.eq_ofNat_of_zero_le hb.1
  rw [hj] at hp hb
  have w1 : wrap64 (12 + (j : Int)) = ((12 + j : Nat) : Int) := by unfold wrap64; omega
  have w2 : wrap64 (2998 + (j : Int)) = ((2998 + j : Nat) : Int) := by unfold wrap64; omega
  have w3 : wrap64 ((j : Int) - 2) = (j : Int) - 2 := by unfold wrap64; omega
  have zl : ((List.replicate (2998 + j) (0 : Int)).length : Int) = ((2998 + j : Nat) : Int) := by rw [List.length_replicate]
  have g1 := get_some (strOfNums (List.replicate (12 + j) 0))
  have g2 := get_some (strOfNums (longL (2998 + j) v))
  have z1 := zeros_size (12 + j)
  have z2 := long_size (2998 + j) v
  have hgot := long_got (2984 + j) v hv
  rw [show 14 + (2984 + j) = 2998 + j by omega] at hgot
  have hlen := longL_length (2998 + j) v
  refine ⟨1, ?_⟩
  simp only [rampartlaw02_EthSizes.f]
  rw [hp, Option.bind_some, w1, w2, w3, if_pos (Int.natCast_nonneg _), if_pos (by rw [Int.toNat_natCast]; omega), if_pos (Int.natCast_nonneg _), if_pos (by rw [Int.toNat_natCast]; omega), Int.toNat_natCast, Int.toNat_natCast, Option.bind_some, if_pos (by rw [zl]; omega), if_pos (by rw [zl]; omega), Option.bind_some, g1, Option.bind_some]
  rw [show (strOfNums (((List.replicate (2998 + j) (0 : Int)).set (5 : Int).toNat v).set (12 : Int).toNat v)) = strOfNums (longL (2998 + j) v) from rfl, g2, Option.bind_some]
  rw [show (((List.replicate (2998 + j) (0 : Int)).set (5 : Int).toNat v).set (12 : Int).toNat v) = longL (2998 + j) v from rfl]
  generalize longL (2998 + j) v = L at z2 hgot hlen
  generalize strOfNums (List.replicate (12 + j) 0) = S at z1
  by_cases c2 : 2 ≤ j
  · have e1 : getE S = okE S := by unfold getE; rw [if_neg (by omega), if_neg (by omega)]
    have f1 : (getE S).2.2.2.2.2.2.2.2.2.2.2.2.2.2 = 0 := by rw [e1]; rfl
    have f2 : (((getE S).2.2.2.2.2.2.2.2.2.2.2.2.2.1.size : Int) != (j : Int) - 2) = false := by
      rw [e1]
      show ((((S.extract 14 S.size).size : Nat) : Int) != (j : Int) - 2) = false
      rw [ByteArray.size_extract, bne_eq_false_iff_eq]
      omega
    rw [f1, decide_eq_true (show (j : Int) ≥ 2 by omega), if_neg (by decide), if_pos rfl, f2]
    by_cases c3 : j = 3
    · subst c3
      have e2 : getE (strOfNums L) = errE 5 := by unfold getE; rw [if_neg (by omega), if_pos (by omega)]
      rw [e2]
      exact sizes_big v 0 L 0 0 0 0 0 0 0 0 0 0 0 0
    · have e2 : getE (strOfNums L) = okE (strOfNums L) := by unfold getE; rw [if_neg (by omega), if_neg (by omega)]
      rw [e2]
      unfold okE
      rw [hgot.1, hgot.2]
      exact sizes_ok v (j : Int) L ((strOfNums L).extract 14 (strOfNums L).size) (by omega) hv (by omega) (by rw [ByteArray.size_extract]; omega) _ _ _ _ _ _ _ _ _ _ _
  · have e1 : getE S = errE 2 := by unfold getE; rw [if_pos (by omega)]
    have f1 : (getE S).2.2.2.2.2.2.2.2.2.2.2.2.2.2 = 2 := by rw [e1]; rfl
    have e2 : getE (strOfNums L) = okE (strOfNums L) := by unfold getE; rw [if_neg (by omega), if_neg (by omega)]
    rw [f1, decide_eq_false (show ¬ (j : Int) ≥ 2 by omega), if_neg (by decide), if_neg (by decide), if_pos rfl, e2]
    unfold okE
    rw [hgot.1, hgot.2]
    exact sizes_ok v (j : Int) L ((strOfNums L).extract 14 (strOfNums L).size) (by omega) hv (by omega) (by rw [ByteArray.size_extract]; omega) _ _ _ _ _ _ _ _ _ _ _
end Go.Proofs.Ytchjfgdcldaacaa.Pure
