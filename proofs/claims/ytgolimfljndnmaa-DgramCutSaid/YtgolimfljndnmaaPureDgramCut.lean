/- What is proved: the plain statement of DgramCut: a message of UDP that is cut, or that has bytes behind it, is none. Conditions: numbers of their kind, sizes as the row gives them, nothing else. -/
import Derived.Test.YtgolimfljndnmaaQDDg
import Derived.Test.YtgolimfljndnmaaQDDgAwake
import Derived.Test.YtgolimfljndnmaaQDFieldLib
import Derived.Test.YtgolimfljndnmaaQDPlaceLib
import Derived.Test.YtgolimfljndnmaaHDx18
namespace Go.Proofs.Ytgolimfljndnmaa.Pure
open Go.RowKit Go.Proofs.Ytgolimfljndnmaa.QD Go.Proofs.Ytgolimfljndnmaa.HD Go.Proofs.YtgolimfljndnmaaW.PrintWords Go.Proofs.YtgolimfljndnmaaW.PrintLast Go.Proofs.YtgolimfljndnmaaW.PrintMore
set_option linter.unusedVariables false
set_option linter.unusedSimpArgs false
theorem udp_list (src dst s0 s1 : Int) (body : ByteArray) : (udpS src dst s0 s1 body).data.toList = ((bigS s0 2).data.toList ++ (bigS s1 2).data.toList) ++ ((bigS ((8 + body.size : Nat) : Int) 2).data.toList ++ ((bigS (fixU (sumU src dst s0 s1 body)) 2).data.toList ++ body.data.toList)) := by
  simp only [udpS, frontU, app_list, List.append_assoc]
/-- What begins as a message of UDP has its length in the same place. -/
theorem len_of {s : ByteArray} {src dst s0 s1 : Int} {body : ByteArray} {r : List UInt8} (hb : body.size ≤ 500) (h : s.data.toList = ((bigS s0 2).data.toList ++ (bigS s1 2).data.toList) ++ ((bigS ((8 + body.size : Nat) : Int) 2).data.toList ++ r)) : numOf (s.extract 4 6) = ((8 + body.size : Nat) : Int) := by
  rw [numOf_list (v := ((8 + body.size : Nat) : Int)) (n := 2) (cut_at h (by simp only [List.length_append, bigS_length]) (by rw [bigS_length])) (by omega), show (256 : Int) ^ 2 = 65536 from rfl]
  omega
theorem take_two {a b c : List UInt8} {j : Nat} (h : a.length + b.length ≤ j) : (a ++ (b ++ c)).take j = a ++ (b ++ c.take (j - a.length - b.length)) := by
  rw [List.take_append, List.take_append, List.take_of_length_le (show a.length ≤ j by omega), List.take_of_length_le (show b.length ≤ j - a.length by omega)]
theorem cut_list2 (s : ByteArray) (k : Nat) : (s.extract 0 k).data.toList = s.data.toList.take k := by rw [ext_list]; simp
theorem zeros_size (n : Nat) : (strOfNums (List.replicate n 0)).size = n := by simp [strOfNums_size]
theorem wrong_len {src dst : Int} {s : ByteArray} (h8 : 8 ≤ s.size) (h : numOf (s.extract 4 6) ≠ (s.size : Int)) : getU src dst s = errD 3 := by
  have hw : wrongU src dst s = 3 := by
    unfold wrongU
    rw [if_neg (by omega), if_pos h]
  unfold getU
  rw [if_neg (by rw [hw]; decide), hw]
theorem wrong_short {src dst : Int} {s : ByteArray} (h8 : s.size < 8) : getU src dst s = errD 2 := by
  have hw : wrongU src dst s = 2 := by
    unfold wrongU
    rw [if_pos h8]
  unfold getU
  rw [if_neg (by rw [hw]; decide), hw]
theorem empty_list : (⟨#[]⟩ : ByteArray).toList = [] := by rw [toList_data]
theorem err2 : (errD 2).2.2.2.2.2.2 = 2 := rfl
theorem err3 : (errD 3).2.2.2.2.2.2 = 3 := rfl
theorem err_list (c : Int) : (errD c).2.2.2.2.2.1.toList = ([] : List UInt8) := empty_list
theorem cut_j0 (body : ByteArray) (cut more : Int) (hb : body.size ≤ 500) (hc : -9223372036854775808 ≤ cut ∧ cut ≤ 9223372036854775807) (hm : -9223372036854775808 ≤ more ∧ more ≤ 9223372036854775807) : Ev (fun k => rampartlaw05_DgramCut.j0 k cut more (udpS 1 2 9 53 body) false) true := by
  have hz := udpS_size 1 2 9 53 body
  have hl := udp_list 1 2 9 53 body
  generalize udpS 1 2 9 53 body = s at hz hl ⊢
  have hp := at_some cut (s.size : Int) (by omega) (by omega) hc
  have hq := at_some more 9 (by omega) (by omega) hm
  have hp0 : 0 ≤ cut % (s.size : Int) ∧ cut % (s.size : Int) < (s.size : Int) := ⟨Int.emod_nonneg _ (by omega), Int.emod_lt_of_pos _ (by omega)⟩
  obtain ⟨j, hj⟩ := Int.eq_ofNat_of_zero_le hp0.1
  have hq0 : 0 ≤ more % 9 ∧ more % 9 < 9 := by omega
  obtain ⟨m, hm2⟩ := Int.eq_ofNat_of_zero_le hq0.1
  rw [hj] at hp hp0
  rw [hm2] at hq hq0
  have w1 : wrap64 (1 + (m : Int)) = ((1 + m : Nat) : Int) := by unfold wrap64; omega
  have zm := zeros_size (1 + m)
  have hX : (s.extract 0 j).size = j := by rw [ByteArray.size_extract]; omega
  have hY : (s ++ strOfNums (List.replicate (1 + m) 0)).size = s.size + (1 + m) := by rw [ByteArray.size_append, zm]
  have gY : getU 1 2 (s ++ strOfNums (List.replicate (1 + m) 0)) = errD 3 := by
    refine wrong_len (by omega) ?_
    rw [len_of (src := 1) (dst := 2) (s0 := 9) (s1 := 53) (body := body) (r := ((bigS (fixU (sumU 1 2 9 53 body)) 2).data.toList ++ body.data.toList) ++ (strOfNums (List.replicate (1 + m) 0)).data.toList) hb (by rw [app_list, hl]; simp only [List.append_assoc]), hY]
    omega
  obtain ⟨K0, q0⟩ := dgAwake_ev
  obtain ⟨K1, q1⟩ := uget_ev 1 2 (s.extract 0 j) (by omega) (by omega)
  obtain ⟨K2, q2⟩ := uget_ev 1 2 (s ++ strOfNums (List.replicate (1 + m) 0)) (by omega) (by omega)
  rw [gY] at q2
  have r1 : s.size + (strOfNums (List.replicate (1 + m) 0)).size ≤ 9223372036854775807 := room (by rw [zm]; omega)
  refine ⟨K0 + K1 + K2 + 1, fun k hk => ?_⟩
  obtain ⟨k, rfl⟩ : ∃ n, k = n + 1 := ⟨k - 1, by omega⟩
  have e0 : rampartlaw05_awake.f k = some true := q0 k (by omega)
  have e1 : dgram_GetUDP.f k 1 2 (s.extract 0 j) = some (getU 1 2 (s.extract 0 j)) := q1 k (by omega)
  have e2 : dgram_GetUDP.f k 1 2 (s ++ strOfNums (List.replicate (1 + m) 0)) = some (errD 3) := q2 k (by omega)
  simp only [rampartlaw05_DgramCut.j0, Bool.false_eq_true, if_false]
  rw [hp, Option.bind_some, if_pos (Int.natCast_nonneg _), if_pos (show (j : Int) ≤ (s.size : Int) by omega), Int.toNat_natCast, e1, Option.bind_some, hq, Option.bind_some, w1, if_pos (Int.natCast_nonneg _), Int.toNat_natCast, if_pos (show 1 + m ≤ 281474976710656 by omega), Option.bind_some, if_pos r1, e2, Option.bind_some]
  by_cases h8 : j < 8
  · have gX : getU 1 2 (s.extract 0 j) = errD 2 := wrong_short (by omega)
    rw [if_pos (show (j : Int) < 8 by omega), gX, if_pos err2, if_pos (err_list 2), if_pos err3, if_pos (err_list 3), e0, Option.bind_some]
  · have gX : getU 1 2 (s.extract 0 j) = errD 3 := by
      refine wrong_len (by omega) ?_
      rw [len_of (src := 1) (dst := 2) (s0 := 9) (s1 := 53) (body := body) hb ((cut_list2 s j).trans (by rw [hl]; exact take_two (by simp only [List.length_append, bigS_length]; omega))), hX]
      omega
    rw [if_neg (show ¬ (j : Int) < 8 by omega), gX, if_pos err3, if_pos (err_list 3), if_pos err3, if_pos (err_list 3), e0, Option.bind_some]
theorem udp_put (body : ByteArray) (hb : body.size ≤ 500) : putU 1 2 9 53 body = (udpS 1 2 9 53 body, 0) := by
  unfold putU
  rw [if_pos (show twoIn 65535 9 53 = true by decide), if_neg (by omega)]
theorem DgramCut : rampartlaw05_DgramCut.Pure := by
  intro body cut more hb hc hm
  have hc := bounds_i64 hc
  have hm := bounds_i64 hm
  obtain ⟨K0, q0⟩ := dgAwake_ev
  by_cases b1 : (body.size : Int) > 500
  · refine ⟨K0, ?_⟩
    have e0 : rampartlaw05_awake.f K0 = some true := q0 K0 (by omega)
    simp only [rampartlaw05_DgramCut.f]
    rw [if_pos b1, e0, Option.bind_some]
  obtain ⟨K1, q1⟩ := uput_ev 1 2 9 53 0 0 0 body (by omega) (by omega) hb
  obtain ⟨K2, q2⟩ := cut_j0 body cut more (by omega) hc hm
  refine ⟨K1 + K2, ?_⟩
  generalize hk : K1 + K2 = k
  have e1 : dgram_PutUDP.f k 1 2 9 53 0 0 0 body = some (udpS 1 2 9 53 body, 0) := by rw [← udp_put body (by omega)]; exact q1 k (by omega)
  have e2 : rampartlaw05_DgramCut.j0 k cut more (udpS 1 2 9 53 body) false = some true := q2 k (by omega)
  have hz := udpS_size 1 2 9 53 body
  simp only [rampartlaw05_DgramCut.f]
  rw [if_neg b1, e1, Option.bind_some, if_pos rfl, decide_eq_false (show ¬ ((udpS 1 2 9 53 body).size : Int) < 8 by omega)]
  exact e2
end Go.Proofs.Ytgolimfljndnmaa.Pure
