/- What is proved: the plain statement of TcpEdges: each field of a segment at its last place, and one beyond; as long as may be. Conditions: numbers of their kind, nothing else. -/
import Derived.Test.YtgolimfljndnmaaQTTcpField
import Derived.Test.YtgolimfljndnmaaQTTcpAwake
import Derived.Test.YtgolimfljndnmaaQTPlaceLib
import Derived.Test.YtgolimfljndnmaaHTx16
namespace Go.Proofs.Ytgolimfljndnmaa.Pure
open Go.RowKit Go.Proofs.Ytgolimfljndnmaa.QT Go.Proofs.Ytgolimfljndnmaa.HT Go.Proofs.YtgolimfljndnmaaW.PrintWords Go.Proofs.YtgolimfljndnmaaW.PrintLast Go.Proofs.YtgolimfljndnmaaW.PrintMore
set_option linter.unusedVariables false
set_option linter.unusedSimpArgs false
def zs (n : Nat) : ByteArray := strOfNums (List.replicate n 0)
theorem zs_size (n : Nat) : (zs n).size = n := by simp [zs, strOfNums_size]
theorem chk_max : chkT 65535 65535 63 65535 (zs 40) = true := by
  unfold chkT
  rw [zs_size]
  decide
theorem putT_arg {src dst s0 s1 s2 s3 s4 s5 : Int} {o body : ByteArray} (h : chkT s0 s1 s4 s5 o = false) : putT src dst s0 s1 s2 s3 s4 s5 o body = ((⟨#[]⟩ : ByteArray), 1) := by
  unfold putT
  rw [if_neg (by simp [h])]
theorem chk_no {s0 s1 s4 s5 : Int} {o : ByteArray} (h : ¬ (0 ≤ s0 ∧ s0 ≤ 65535 ∧ 0 ≤ s1 ∧ s1 ≤ 65535 ∧ 0 ≤ s5 ∧ s5 ≤ 65535 ∧ 0 ≤ s4 ∧ s4 ≤ 63 ∧ o.size ≤ 40 ∧ o.size % 4 = 0)) : chkT s0 s1 s4 s5 o = false := by
  unfold chkT
  exact decide_eq_false h
/-- What a case comes to. -/
theorem edge_case (s0 s1 s4 s5 : Int) (o : ByteArray) (ho : o.size ≤ 100) (h : chkT s0 s1 s4 s5 o = false) : ∃ K, ∀ k, K ≤ k →
    tcp_Put.f k 9 8 s0 s1 4294967295 4294967295 s4 s5 o (⟨#[]⟩ : ByteArray) = some ((⟨#[]⟩ : ByteArray), 1) ∧ tcp_Check.f s0 s1 4294967295 4294967295 s4 s5 o = some false ∧ rampartlaw04_awake.f k = some true := by
  obtain ⟨K1, q1⟩ := put_ev 9 8 s0 s1 4294967295 4294967295 s4 s5 o (⟨#[]⟩ : ByteArray) (by omega) (by omega) (by omega) (by omega) (by omega) (by decide)
  obtain ⟨K0, q0⟩ := tcpAwake_ev
  refine ⟨K1 + K0, fun k hk => ⟨?_, ?_, q0 k (by omega)⟩⟩
  · have := q1 k (by omega)
    rw [putT_arg h] at this
    exact this
  · rw [tcp_check_some, h]
theorem empty_list : (⟨#[]⟩ : ByteArray).toList = [] := by rw [toList_data]
theorem edges_j0 (how x : Int) (hh : -9223372036854775808 ≤ how ∧ how ≤ 9223372036854775807) (h0 : 1 ≤ x) (h1 : x ≤ 100) : ∃ K, ∀ k, K ≤ k → rampartlaw04_TcpEdges.j0 k how x false 65535 65535 4294967295 4294967295 63 65535 (zs 40) = some true := by
  have hp := at_some how 6 (by omega) (by omega) hh
  have w0 : wrap64 (65535 + x) = 65535 + x := by unfold wrap64; omega
  have w1 : wrap64 (-x) = -x := by unfold wrap64; omega
  have w2 : wrap64 (63 + x) = 63 + x := by unfold wrap64; omega
  have hm : Int.tmod x 3 = x % 3 := Int.tmod_eq_emod_of_nonneg (by omega)
  have w3 : wrap64 (1 + Int.tmod x 3) = 1 + x % 3 := by rw [hm]; unfold wrap64; omega
  have z4 : (zs 40 ++ (⟨#[49, 50, 51, 52]⟩ : ByteArray)).size = 44 := by rw [ByteArray.size_append, zs_size]; rfl
  have z5 : ((⟨#[49, 50, 51, 52, 53]⟩ : ByteArray).extract 0 (1 + x % 3).toNat).size = (1 + x % 3).toNat := by
    rw [ByteArray.size_extract, show (⟨#[49, 50, 51, 52, 53]⟩ : ByteArray).size = 5 from rfl]
    omega
  have zz := zs_size 40
  obtain ⟨K0, c0⟩ := edge_case (65535 + x) 65535 63 65535 (zs 40) (by omega) (chk_no (by omega))
  obtain ⟨K1, c1⟩ := edge_case 65535 (-x) 63 65535 (zs 40) (by omega) (chk_no (by omega))
  obtain ⟨K2, c2⟩ := edge_case 65535 65535 (63 + x) 65535 (zs 40) (by omega) (chk_no (by omega))
  obtain ⟨K3, c3⟩ := edge_case 65535 65535 63 (65535 + x) (zs 40) (by omega) (chk_no (by omega))
  obtain ⟨K4, c4⟩ := edge_case 65535 65535 63 65535 (zs 40 ++ (⟨#[49, 50, 51, 52]⟩ : ByteArray)) (by omega) (chk_no (by omega))
  obtain ⟨K5, c5⟩ := edge_case 65535 65535 63 65535 ((⟨#[49, 50, 51, 52, 53]⟩ : ByteArray).extract 0 (1 + x % 3).toNat) (by omega) (chk_no (by omega))
  refine ⟨K0 + K1 + K2 + K3 + K4 + K5 + 1, fun k hk => ?_⟩
  obtain ⟨k, rfl⟩ : ∃ m, k = m + 1 := ⟨k - 1, by omega⟩
  obtain ⟨a0, b0, d0⟩ := c0 k (by omega)
  obtain ⟨a1, b1, d1⟩ := c1 k (by omega)
  obtain ⟨a2, b2, d2⟩ := c2 k (by omega)
  obtain ⟨a3, b3, d3⟩ := c3 k (by omega)
  obtain ⟨a4, b4, d4⟩ := c4 k (by omega)
  obtain ⟨a5, b5, d5⟩ := c5 k (by omega)
  have r4 : (zs 40).size + 4 ≤ 9223372036854775807 := by omega
  simp only [rampartlaw04_TcpEdges.j0, Bool.false_eq_true, if_false]
  rw [hp, Option.bind_some]
  by_cases e0 : how % 6 = 0
  · rw [if_pos e0, w0, a0, Option.bind_some, if_pos empty_list, if_pos rfl, b0, Option.bind_some, if_neg Bool.false_ne_true, d0, Option.bind_some]
  rw [if_neg e0]
  by_cases e1 : how % 6 = 1
  · rw [if_pos e1, w1, a1, Option.bind_some, if_pos empty_list, if_pos rfl, b1, Option.bind_some, if_neg Bool.false_ne_true, d1, Option.bind_some]
  rw [if_neg e1]
  by_cases e2 : how % 6 = 2
  · rw [if_pos e2, w2, a2, Option.bind_some, if_pos empty_list, if_pos rfl, b2, Option.bind_some, if_neg Bool.false_ne_true, d2, Option.bind_some]
  rw [if_neg e2]
  by_cases e3 : how % 6 = 3
  · rw [if_pos e3, w0, a3, Option.bind_some, if_pos empty_list, if_pos rfl, b3, Option.bind_some, if_neg Bool.false_ne_true, d3, Option.bind_some]
  rw [if_neg e3]
  by_cases e4 : how % 6 = 4
  · rw [if_pos e4, if_pos r4, a4, Option.bind_some, if_pos empty_list, if_pos rfl, b4, Option.bind_some, if_neg Bool.false_ne_true, d4, Option.bind_some]
  rw [if_neg e4, w3, if_pos (show 0 ≤ 1 + x % 3 by omega), if_pos (show 1 + x % 3 ≤ 5 by omega), a5, Option.bind_some, if_pos empty_list, if_pos rfl, b5, Option.bind_some, if_neg Bool.false_ne_true, d5, Option.bind_some]
theorem put_max : putT 9 8 65535 65535 4294967295 4294967295 63 65535 (zs 40) (zs 1940) = (segT 9 8 65535 65535 4294967295 4294967295 63 65535 (zs 40) (zs 1940), 0) := by
  unfold putT
  rw [if_pos chk_max, if_neg (by rw [zs_size, zs_size]; omega)]
theorem put_over (n : Nat) (h : 1940 < n) : putT 9 8 65535 65535 4294967295 4294967295 63 65535 (zs 40) (zs n) = ((⟨#[]⟩ : ByteArray), 5) := by
  unfold putT
  rw [if_pos chk_max, if_pos (by rw [zs_size, zs_size]; omega)]
theorem get_max : getT 9 8 (segT 9 8 65535 65535 4294967295 4294967295 63 65535 (zs 40) (zs 1940)) = (65535, 65535, 4294967295, 4294967295, 63, 65535, zs 40, zs 1940, 0) :=
  getT_segT 9 8 65535 65535 4294967295 4294967295 63 65535 (zs 40) (zs 1940) chk_max (by omega) (by omega) (by rw [zs_size, zs_size]; omega)
theorem TcpEdges : rampartlaw04_TcpEdges.Pure := by
  intro how v hh hv
  have hh := bounds_i64 hh
  have hv := bounds_i64 hv
  have hp := at_some v 100 (by omega) (by omega) hv
  have hb : 0 ≤ v % 100 ∧ v % 100 < 100 := by omega
  generalize v % 100 = t at hp hb
  have w1 : wrap64 (1 + t) = 1 + t := by unfold wrap64; omega
  have w2 : wrap64 (1940 + (1 + t)) = ((1941 + t.toNat : Nat) : Int) := by unfold wrap64; omega
  obtain ⟨K1, q1⟩ := put_ev 9 8 65535 65535 4294967295 4294967295 63 65535 (zs 40) (zs 1940) (by omega) (by omega) (by omega) (by omega) (by rw [zs_size]; omega) (by rw [zs_size]; omega)
  rw [put_max] at q1
  obtain ⟨K2, q2⟩ := get_ev 9 8 (segT 9 8 65535 65535 4294967295 4294967295 63 65535 (zs 40) (zs 1940)) (by omega) (by omega)
  rw [get_max] at q2
  obtain ⟨K3, q3⟩ := put_ev 9 8 65535 65535 4294967295 4294967295 63 65535 (zs 40) (zs (1941 + t.toNat)) (by omega) (by omega) (by omega) (by omega) (by rw [zs_size]; omega) (by rw [zs_size]; omega)
  rw [put_over _ (by omega)] at q3
  obtain ⟨K4, q4⟩ := edges_j0 how (1 + t) hh (by omega) (by omega)
  refine ⟨K1 + K2 + K3 + K4, ?_⟩
  generalize hk : K1 + K2 + K3 + K4 = k
  have e1 : tcp_Put.f k 9 8 65535 65535 4294967295 4294967295 63 65535 (strOfNums (List.replicate 40 0)) (strOfNums (List.replicate 1940 0)) = some (segT 9 8 65535 65535 4294967295 4294967295 63 65535 (zs 40) (zs 1940), 0) := q1 k (by omega)
  have e2 : tcp_Get.f k 9 8 (segT 9 8 65535 65535 4294967295 4294967295 63 65535 (zs 40) (zs 1940)) = some (65535, 65535, 4294967295, 4294967295, 63, 65535, zs 40, zs 1940, 0) := q2 k (by omega)
  have e3 : tcp_Put.f k 9 8 65535 65535 4294967295 4294967295 63 65535 (strOfNums (List.replicate 40 0)) (strOfNums (List.replicate (1941 + t.toNat) 0)) = some ((⟨#[]⟩ : ByteArray), 5) := q3 k (by omega)
  have e4 : rampartlaw04_TcpEdges.j0 k how (1 + t) false 65535 65535 4294967295 4294967295 63 65535 (strOfNums (List.replicate 40 0)) = some true := q4 k (by omega)
  have z40 : ((zs 40).size : Int) = 40 := by rw [zs_size]; rfl
  have z1940 : ((zs 1940).size : Int) = 1940 := by rw [zs_size]; rfl
  simp only [rampartlaw04_TcpEdges.f]
  rw [hp, Option.bind_some, if_pos (by decide), Option.bind_some, if_pos (by decide), e1, Option.bind_some, e2, Option.bind_some, w1, w2, if_pos (Int.natCast_nonneg _), if_pos (by rw [Int.toNat_natCast]; omega), Int.toNat_natCast, e3, Option.bind_some, if_pos rfl, if_pos rfl, if_pos rfl, if_pos rfl, if_pos z40, if_pos z1940]
  exact e4
end Go.Proofs.Ytgolimfljndnmaa.Pure
