/- What is proved: the plain statement of Ipv4Edges: each field of a datagram's head at its last place, and one beyond. Conditions: numbers of their kind, nothing else. -/
import Derived.Test.YtgolimfljndnmaaQIIpField
import Derived.Test.YtgolimfljndnmaaQIIpAwake
import Derived.Test.YtgolimfljndnmaaQIPlaceLib
import Derived.Test.YtgolimfljndnmaaHIx15
namespace Go.Proofs.Ytgolimfljndnmaa.Pure
open Go.RowKit Go.Proofs.Ytgolimfljndnmaa.QI Go.Proofs.Ytgolimfljndnmaa.HI Go.Proofs.YtgolimfljndnmaaW.PrintWords Go.Proofs.YtgolimfljndnmaaW.PrintLast Go.Proofs.YtgolimfljndnmaaW.PrintMore
set_option linter.unusedVariables false
set_option linter.unusedSimpArgs false
def zs (n : Nat) : ByteArray := strOfNums (List.replicate n 0)
theorem zs_size (n : Nat) : (zs n).size = n := by simp [zs, strOfNums_size]
theorem ichk_max : chkI 255 65535 65528 255 255 (zs 40) = true := by
  unfold chkI
  rw [zs_size]
  decide
theorem putI_arg {s0 s1 : Int} {s2 s3 : Bool} {s4 s5 s6 s7 s8 : Int} {o body : ByteArray} (h : chkI s0 s1 s4 s5 s6 o = false) : putI s0 s1 s2 s3 s4 s5 s6 s7 s8 o body = ((⟨#[]⟩ : ByteArray), 1) := by
  unfold putI
  rw [if_neg (by simp [h])]
theorem empty_list : (⟨#[]⟩ : ByteArray).toList = [] := by rw [toList_data]
theorem ichk_zero : chkI 0 0 0 0 0 (⟨#[]⟩ : ByteArray) = true := by decide
theorem put_over (n : Nat) (h : 2000 < n) : putI 0 0 false false 0 0 0 0 0 (⟨#[]⟩ : ByteArray) (zs n) = ((⟨#[]⟩ : ByteArray), 5) := by
  unfold putI
  rw [if_pos ichk_zero, if_pos (by rw [zs_size]; omega)]
theorem j1_case (x s0 s1 s4 s5 s6 : Int) (o : ByteArray) (h0 : 1 ≤ x) (h1 : x ≤ 100) (h : chkI s0 s1 s4 s5 s6 o = false) : ∃ K, ∀ k, K ≤ k → rampartlaw03_Ipv4Edges.j1 k x s0 s1 true true s4 s5 s6 4294967295 4294967295 o = some true := by
  have w : wrap64 (2000 + x) = ((2000 + x.toNat : Nat) : Int) := by unfold wrap64; omega
  obtain ⟨K1, q1⟩ := iput_ev s0 s1 true true s4 s5 s6 4294967295 4294967295 o (⟨#[]⟩ : ByteArray) (by omega) (by omega)
  obtain ⟨K2, q2⟩ := iput_ev 0 0 false false 0 0 0 0 0 (⟨#[]⟩ : ByteArray) (zs (2000 + x.toNat)) (by omega) (by omega)
  obtain ⟨K0, q0⟩ := ipAwake_ev
  refine ⟨K1 + K2 + K0 + 1, fun k hk => ?_⟩
  obtain ⟨k, rfl⟩ : ∃ m, k = m + 1 := ⟨k - 1, by omega⟩
  have e1 : ipv4_Put.f k s0 s1 true true s4 s5 s6 4294967295 4294967295 o (⟨#[]⟩ : ByteArray) = some ((⟨#[]⟩ : ByteArray), 1) := by rw [← putI_arg (s2 := true) (s3 := true) (s7 := 4294967295) (s8 := 4294967295) (body := (⟨#[]⟩ : ByteArray)) h]; exact q1 k (by omega)
  have e2 : ipv4_Put.f k 0 0 false false 0 0 0 0 0 (⟨#[]⟩ : ByteArray) (strOfNums (List.replicate (2000 + x.toNat) 0)) = some ((⟨#[]⟩ : ByteArray), 5) := by rw [← put_over (2000 + x.toNat) (by omega)]; exact q2 k (by omega)
  have e0 : rampartlaw03_awake.f k = some true := q0 k (by omega)
  simp only [rampartlaw03_Ipv4Edges.j1]
  rw [e1, Option.bind_some, w, if_pos (Int.natCast_nonneg _), Int.toNat_natCast, if_pos (show 2000 + x.toNat ≤ 281474976710656 by omega), e2, Option.bind_some, if_pos empty_list, if_pos rfl, check_some, h, Option.bind_some, if_neg Bool.false_ne_true, if_pos rfl, e0, Option.bind_some]
theorem edges_j0 (how x : Int) (hh : -9223372036854775808 ≤ how ∧ how ≤ 9223372036854775807) (h0 : 1 ≤ x) (h1 : x ≤ 100) : ∃ K, ∀ k, K ≤ k → rampartlaw03_Ipv4Edges.j0 k how x false 255 65535 true true 65528 255 255 4294967295 4294967295 (zs 40) = some true := by
  have hp := at_some how 8 (by omega) (by omega) hh
  have w0 : wrap64 (255 + x) = 255 + x := by unfold wrap64; omega
  have w1 : wrap64 (-x) = -x := by unfold wrap64; omega
  have w2 : wrap64 (65528 + (wrap64 (8 * x))) = 65528 + 8 * x := by unfold wrap64; omega
  have hm7 : Int.tmod x 7 = x % 7 := Int.tmod_eq_emod_of_nonneg (by omega)
  have hm : Int.tmod x 3 = x % 3 := Int.tmod_eq_emod_of_nonneg (by omega)
  have w3 : wrap64 (1 + Int.tmod x 7) = 1 + x % 7 := by rw [hm7]; unfold wrap64; omega
  have w4 : wrap64 (1 + Int.tmod x 3) = 1 + x % 3 := by rw [hm]; unfold wrap64; omega
  have z4 : (zs 40 ++ (⟨#[49, 50, 51, 52]⟩ : ByteArray)).size = 44 := by rw [ByteArray.size_append, zs_size]; rfl
  have z5 : ((⟨#[49, 50, 51, 52, 53]⟩ : ByteArray).extract 0 (1 + x % 3).toNat).size = (1 + x % 3).toNat := by
    rw [ByteArray.size_extract, show (⟨#[49, 50, 51, 52, 53]⟩ : ByteArray).size = 5 from rfl]
    omega
  have zz := zs_size 40
  obtain ⟨K0, c0⟩ := j1_case x (255 + x) 65535 65528 255 255 (zs 40) h0 h1 (chkI_no (by omega))
  obtain ⟨K1, c1⟩ := j1_case x 255 (-x) 65528 255 255 (zs 40) h0 h1 (chkI_no (by omega))
  obtain ⟨K2, c2⟩ := j1_case x 255 65535 (65528 + 8 * x) 255 255 (zs 40) h0 h1 (chkI_no (by omega))
  obtain ⟨K3, c3⟩ := j1_case x 255 65535 (1 + x % 7) 255 255 (zs 40) h0 h1 (chkI_no (by omega))
  obtain ⟨K4, c4⟩ := j1_case x 255 65535 65528 (-x) 255 (zs 40) h0 h1 (chkI_no (by omega))
  obtain ⟨K5, c5⟩ := j1_case x 255 65535 65528 255 (255 + x) (zs 40) h0 h1 (chkI_no (by omega))
  obtain ⟨K6, c6⟩ := j1_case x 255 65535 65528 255 255 (zs 40 ++ (⟨#[49, 50, 51, 52]⟩ : ByteArray)) h0 h1 (chkI_no (by omega))
  obtain ⟨K7, c7⟩ := j1_case x 255 65535 65528 255 255 ((⟨#[49, 50, 51, 52, 53]⟩ : ByteArray).extract 0 (1 + x % 3).toNat) h0 h1 (chkI_no (by omega))
  refine ⟨K0 + K1 + K2 + K3 + K4 + K5 + K6 + K7 + 1, fun k hk => ?_⟩
  obtain ⟨k, rfl⟩ : ∃ m, k = m + 1 := ⟨k - 1, by omega⟩
  have r4 : (zs 40).size + 4 ≤ 9223372036854775807 := by omega
  simp only [rampartlaw03_Ipv4Edges.j0, Bool.false_eq_true, if_false]
  rw [hp, Option.bind_some]
  by_cases e0 : how % 8 = 0
  · rw [if_pos e0, w0]; exact c0 k (by omega)
  rw [if_neg e0]
  by_cases e1 : how % 8 = 1
  · rw [if_pos e1, w1]; exact c1 k (by omega)
  rw [if_neg e1]
  by_cases e2 : how % 8 = 2
  · rw [if_pos e2, w2]; exact c2 k (by omega)
  rw [if_neg e2]
  by_cases e3 : how % 8 = 3
  · rw [if_pos e3, w3]; exact c3 k (by omega)
  rw [if_neg e3]
  by_cases e4 : how % 8 = 4
  · rw [if_pos e4, w1]; exact c4 k (by omega)
  rw [if_neg e4]
  by_cases e5 : how % 8 = 5
  · rw [if_pos e5, w0]; exact c5 k (by omega)
  rw [if_neg e5]
  by_cases e6 : how % 8 = 6
  · rw [if_pos e6, if_pos r4]; exact c6 k (by omega)
  rw [if_neg e6, w4, if_pos (show 0 ≤ 1 + x % 3 by omega), if_pos (show 1 + x % 3 ≤ 5 by omega)]
  exact c7 k (by omega)
def eM : ByteArray := headI 255 65535 true true 65528 255 255 4294967295 4294967295 (zs 40) (zs 2000).size ++ zs 2000
theorem put_max : putI 255 65535 true true 65528 255 255 4294967295 4294967295 (zs 40) (zs 2000) = (eM, 0) := by
  unfold putI
  rw [if_pos ichk_max, if_neg (by rw [zs_size]; omega)]
  rfl
theorem get_max : getI eM = (255, 65535, true, true, 65528, 255, 255, 4294967295, 4294967295, zs 40, zs 2000, 0) := by
  have := getI_ip 255 65535 true true 65528 255 255 4294967295 4294967295 (zs 40) (zs 2000) (⟨#[]⟩ : ByteArray) ichk_max (by omega) (by omega) (by rw [zs_size]; omega)
  have e : ipM 255 65535 true true 65528 255 255 4294967295 4294967295 (zs 40) (zs 2000) (⟨#[]⟩ : ByteArray) = eM := by
    apply ba_ext
    simp only [ipM, eM, app_list, List.append_nil]
  rw [e] at this
  exact this
theorem Ipv4Edges : rampartlaw03_Ipv4Edges.Pure := by
  intro how v hh hv
  have hh := bounds_i64 hh
  have hv := bounds_i64 hv
  have hp := at_some v 100 (by omega) (by omega) hv
  have hb : 0 ≤ v % 100 ∧ v % 100 < 100 := by omega
  generalize v % 100 = t at hp hb
  have w1 : wrap64 (1 + t) = 1 + t := by unfold wrap64; omega
  obtain ⟨K1, q1⟩ := iput_ev 255 65535 true true 65528 255 255 4294967295 4294967295 (zs 40) (zs 2000) (by omega) (by omega)
  rw [put_max] at q1
  obtain ⟨K2, q2⟩ := iget_ev eM
  rw [get_max] at q2
  obtain ⟨K3, q3⟩ := edges_j0 how (1 + t) hh (by omega) (by omega)
  refine ⟨K1 + K2 + K3, ?_⟩
  generalize hk : K1 + K2 + K3 = k
  have e1 : ipv4_Put.f k 255 65535 true true 65528 255 255 4294967295 4294967295 (strOfNums (List.replicate 40 0)) (strOfNums (List.replicate 2000 0)) = some (eM, 0) := q1 k (by omega)
  have e2 : ipv4_Get.f k eM = some (255, 65535, true, true, 65528, 255, 255, 4294967295, 4294967295, zs 40, zs 2000, 0) := q2 k (by omega)
  have e3 : rampartlaw03_Ipv4Edges.j0 k how (1 + t) false 255 65535 true true 65528 255 255 4294967295 4294967295 (strOfNums (List.replicate 40 0)) = some true := q3 k (by omega)
  have z40 : ((((zs 40).size : Nat) : Int) != 40) = false := by rw [zs_size]; rfl
  have z2000 : ((zs 2000).size : Int) = 2000 := by rw [zs_size]; rfl
  simp only [rampartlaw03_Ipv4Edges.f]
  rw [hp, Option.bind_some, if_pos (by decide), Option.bind_some, if_pos (by decide), e1, Option.bind_some, e2, Option.bind_some, if_pos rfl, if_pos rfl, if_pos rfl, if_pos rfl, if_pos rfl, if_pos z2000, z40, w1]
  exact e3
end Go.Proofs.Ytgolimfljndnmaa.Pure
