/- What is proved: the plain statement of Ipv4Back: what is put is got, whatever stands behind it; with a bit of its head turned (but of its first byte) it is none; cut it is none. Conditions: numbers of their kinds, sizes as the row gives them, nothing else. -/
import Derived.Test.YtgolimfljndnmaaQBIpFlip
import Derived.Test.YtgolimfljndnmaaQBIpAwake
import Derived.Test.YtgolimfljndnmaaQBPlaceLib
import Derived.Test.YtgolimfljndnmaaHBx8
import Derived.Test.YtgolimfljndnmaaHBx7
namespace Go.Proofs.Ytgolimfljndnmaa.Pure
open Go.RowKit Go.Proofs.Ytgolimfljndnmaa.QB Go.Proofs.Ytgolimfljndnmaa.HB Go.Proofs.YtgolimfljndnmaaW.PrintWords Go.Proofs.YtgolimfljndnmaaW.PrintLast Go.Proofs.YtgolimfljndnmaaW.PrintMore
set_option linter.unusedVariables false
set_option linter.unusedSimpArgs false
theorem empty_list : (⟨#[]⟩ : ByteArray).toList = [] := by rw [toList_data]
theorem same_true (a b : Int) (c d : Bool) (e f g h i : Int) (j : ByteArray) : rampartref03_Same.f a b c d e f g h i j a b c d e f g h i j = some true := by
  simp [rampartref03_Same.f]
theorem word_20 (n : Nat) (h : n ≤ 40) : wrap64 (20 + (n : Int)) = ((20 + n : Nat) : Int) := by unfold wrap64; omega
theorem word_8n (n : Nat) (h : n ≤ 100) : wrap64 (8 * ((n : Nat) : Int)) = ((8 * n : Nat) : Int) := by unfold wrap64; omega
theorem word_8 (n : Nat) (h : n ≤ 40) : wrap64 (8 * (wrap64 (20 + (n : Int)))) = ((8 * (20 + n) : Nat) : Int) := by rw [word_20 n h, word_8n (20 + n) (by omega)]
theorem word_div (n : Nat) (h : n ≤ 1000000) : wrap64 (Int.tdiv (n : Int) 8) = ((n / 8 : Nat) : Int) := by
  rw [Int.tdiv_eq_ediv_of_nonneg (by omega)]
  unfold wrap64
  omega
theorem word_mod (n : Nat) : IntKind.u64.wrap (Int.tmod (n : Int) 8) = ((n % 8 : Nat) : Int) := by
  rw [Int.tmod_eq_emod_of_nonneg (by omega)]
  have h : (n : Int) % 8 = ((n % 8 : Nat) : Int) := by omega
  have h8 : n % 8 < 8 := Nat.mod_lt _ (by decide)
  rw [h]
  generalize n % 8 = m at h8
  simp only [IntKind.wrap, IntKind.bits, IntKind.signed]
  simp
  omega
theorem back_j1 (s0 s1 : Int) (s2 s3 : Bool) (s4 s5 s6 s7 s8 : Int) (o body : ByteArray) (bit : Int) (hc : chkI s0 s1 s4 s5 s6 o = true) (hb : body.size ≤ 2000) (hbit : -9223372036854775808 ≤ bit ∧ bit ≤ 9223372036854775807) :
    Ev (fun k => rampartlaw03_Ipv4Back.j1 k bit (ipM s0 s1 s2 s3 s4 s5 s6 s7 s8 o body (⟨#[]⟩ : ByteArray)) false s0 s1 s2 s3 s4 s5 s6 s7 s8 o) true := by
  obtain ⟨c1, c2, c3, c4, c5, c6, d1, d2, e1, e2, e3, f1, f2⟩ := chkI_all hc
  have hS := ipM_size s0 s1 s2 s3 s4 s5 s6 s7 s8 o body (⟨#[]⟩ : ByteArray)
  have hS0 : (⟨#[]⟩ : ByteArray).size = 0 := rfl
  have hcut := ip_cut_bad s0 s1 s2 s3 s4 s5 s6 s7 s8 o body hc hb
  have hflip := ip_flip_bad s0 s1 s2 s3 s4 s5 s6 s7 s8 o body hc
  generalize ipM s0 s1 s2 s3 s4 s5 s6 s7 s8 o body (⟨#[]⟩ : ByteArray) = S at *
  have w8 := word_8 o.size f1
  have hp := at_some bit ((8 * (20 + o.size) : Nat) : Int) (by omega) (by omega) hbit
  have hp0 : 0 ≤ bit % ((8 * (20 + o.size) : Nat) : Int) ∧ bit % ((8 * (20 + o.size) : Nat) : Int) < ((8 * (20 + o.size) : Nat) : Int) := ⟨Int.emod_nonneg _ (by omega), Int.emod_lt_of_pos _ (by omega)⟩
  obtain ⟨n, hn⟩ := Int.eq_ofNat_of_zero_le hp0.1
  rw [hn] at hp hp0
  have hq := at_some bit (S.size : Int) (by omega) (by omega) hbit
  have hq0 : 0 ≤ bit % (S.size : Int) ∧ bit % (S.size : Int) < (S.size : Int) := ⟨Int.emod_nonneg _ (by omega), Int.emod_lt_of_pos _ (by omega)⟩
  obtain ⟨j, hj⟩ := Int.eq_ofNat_of_zero_le hq0.1
  rw [hj] at hq hq0
  have t8 := word_div n (by omega)
  have t9 := word_mod n
  have hset : gosem_cut_init.f S ((n / 8 : Nat) : Int) (Go.bits .xor .u8 (bt S ((n / 8 : Nat) : Int)) (shl .u8 1 ((n % 8 : Nat) : Int))) = some (bset S (n / 8) (Go.bits .xor .u8 (bt S ((n / 8 : Nat) : Int)) (shl .u8 1 ((n % 8 : Nat) : Int)))) := by
    unfold gosem_cut_init.f
    rw [if_pos (by omega), Int.toNat_natCast]
  obtain ⟨K0, q0⟩ := ipAwake_ev
  obtain ⟨K1, q1⟩ := iget_ev (bset S (n / 8) (Go.bits .xor .u8 (bt S ((n / 8 : Nat) : Int)) (shl .u8 1 ((n % 8 : Nat) : Int))))
  obtain ⟨K2, q2⟩ := iget_ev (S.extract 0 j)
  have b2 : (getI (S.extract 0 j)).2.2.2.2.2.2.2.2.2.2.2 ≠ 0 := by rw [getI_err]; exact hcut j (by omega)
  have b1 : 8 ≤ n → (getI (bset S (n / 8) (Go.bits .xor .u8 (bt S ((n / 8 : Nat) : Int)) (shl .u8 1 ((n % 8 : Nat) : Int))))).2.2.2.2.2.2.2.2.2.2.2 ≠ 0 := fun h => by
    rw [getI_err]
    exact hflip (n / 8) (by omega) (by omega) ((n % 8 : Nat) : Int) (by omega) (by omega)
  generalize bset S (n / 8) (Go.bits .xor .u8 (bt S ((n / 8 : Nat) : Int)) (shl .u8 1 ((n % 8 : Nat) : Int))) = T at *
  refine ⟨K0 + K1 + K2 + 1, fun k hk => ?_⟩
  obtain ⟨k, rfl⟩ : ∃ m, k = m + 1 := ⟨k - 1, by omega⟩
  have e0 : rampartlaw03_awake.f k = some true := q0 k (by omega)
  have g1 : ipv4_Get.f k T = some (getI T) := q1 k (by omega)
  have g2 : ipv4_Get.f k (S.extract 0 j) = some (getI (S.extract 0 j)) := q2 k (by omega)
  simp only [rampartlaw03_Ipv4Back.j1, Bool.false_eq_true, if_false]
  rw [w8, hp, Option.bind_some, t8, t9, if_pos (Int.natCast_nonneg _), if_pos (show ((n / 8 : Nat) : Int) < (S.size : Int) by omega), if_pos (Int.natCast_nonneg _), hset, Option.bind_some, g1, Option.bind_some, hq, Option.bind_some, if_pos (Int.natCast_nonneg _), if_pos (show (j : Int) ≤ (S.size : Int) by omega), Int.toNat_natCast, g2, Option.bind_some]
  by_cases h1 : (getI T).2.2.2.2.2.2.2.2.2.2.2 = 0
  · rw [if_pos h1]
    by_cases h8 : 8 ≤ n
    · exact absurd h1 (b1 h8)
    · rw [if_pos (show (n : Int) < 8 by omega), if_neg b2, e0, Option.bind_some]
  · rw [if_neg h1, if_neg b2, e0, Option.bind_some]
theorem Ipv4Back (s0 s1 : Int) (s2 s3 : Bool) (s4 s5 s6 s7 s8 : Int) (o body more : ByteArray) (bit : Int) (_ : (Lit.int .i64 s0).wf = true) (_ : (Lit.int .i64 s1).wf = true) (_ : (Lit.int .i64 s4).wf = true) (_ : (Lit.int .i64 s5).wf = true) (_ : (Lit.int .i64 s6).wf = true)
    (h7 : (Lit.int .u32 s7).wf = true) (h8 : (Lit.int .u32 s8).wf = true) (ho : o.size ≤ maxLen) (hb : body.size ≤ 140737488351232) (_ : more.size ≤ 140737488351232) (hbit : (Lit.int .i64 bit).wf = true) : ∃ k, rampartlaw03_Ipv4Back.f k s0 s1 s2 s3 s4 s5 s6 s7 s8 o body more bit = some true := by
  have h7 := bounds_u32 h7
  have h8 := bounds_u32 h8
  have hbit := bounds_i64 hbit
  obtain ⟨K0, q0⟩ := ipAwake_ev
  have aw : rampartlaw03_Ipv4Back.j0 (K0 + 1) body more bit true s0 s1 s2 s3 s4 s5 s6 s7 s8 o = some true := by
    have e0 : rampartlaw03_awake.f K0 = some true := q0 K0 (by omega)
    simp only [rampartlaw03_Ipv4Back.j0, if_true]
    rw [e0, Option.bind_some]
  by_cases b1 : (o.size : Int) > 100
  · exact ⟨K0 + 1, by simp only [rampartlaw03_Ipv4Back.f]; rw [if_pos b1, aw]⟩
  by_cases b2 : (body.size : Int) > 2500
  · exact ⟨K0 + 1, by simp only [rampartlaw03_Ipv4Back.f]; rw [if_neg b1, if_pos b2, aw]⟩
  by_cases b3 : (more.size : Int) > 500
  · exact ⟨K0 + 1, by simp only [rampartlaw03_Ipv4Back.f]; rw [if_neg b1, if_neg b2, decide_eq_true b3, aw]⟩
  obtain ⟨K1, q1⟩ := iput_ev s0 s1 s2 s3 s4 s5 s6 s7 s8 o body h7 h8
  by_cases hp : (putI s0 s1 s2 s3 s4 s5 s6 s7 s8 o body).2 = 0
  · have hc : chkI s0 s1 s4 s5 s6 o = true := by
      by_cases h : chkI s0 s1 s4 s5 s6 o = true
      · exact h
      · unfold putI at hp; rw [if_neg h] at hp; exact absurd hp (by decide)
    have hz : body.size ≤ 2000 := by
      by_cases h : body.size > 2000
      · unfold putI at hp; rw [if_pos hc, if_pos h] at hp; exact absurd hp (by decide)
      · omega
    obtain ⟨c1, c2, c3, c4, c5, c6, d1, d2, e1, e2, e3, f1, f2⟩ := chkI_all hc
    have hput : putI s0 s1 s2 s3 s4 s5 s6 s7 s8 o body = (ipM s0 s1 s2 s3 s4 s5 s6 s7 s8 o body (⟨#[]⟩ : ByteArray), 0) := by
      unfold putI
      rw [if_pos hc, if_neg (by omega)]
      refine Prod.ext (ba_ext ?_) rfl
      simp only [ipM, app_list, List.append_nil]
    have hmore : ipM s0 s1 s2 s3 s4 s5 s6 s7 s8 o body (⟨#[]⟩ : ByteArray) ++ more = ipM s0 s1 s2 s3 s4 s5 s6 s7 s8 o body more := by
      apply ba_ext
      simp only [ipM, app_list, List.append_nil, List.append_assoc]
    have hS := ipM_size s0 s1 s2 s3 s4 s5 s6 s7 s8 o body (⟨#[]⟩ : ByteArray)
    have hS0 : (⟨#[]⟩ : ByteArray).size = 0 := rfl
    obtain ⟨K2, q2⟩ := iget_ev (ipM s0 s1 s2 s3 s4 s5 s6 s7 s8 o body more)
    rw [getI_ip s0 s1 s2 s3 s4 s5 s6 s7 s8 o body more hc h7 h8 hz] at q2
    obtain ⟨K3, q3⟩ := back_j1 s0 s1 s2 s3 s4 s5 s6 s7 s8 o body bit hc hz hbit
    refine ⟨K1 + K2 + K3 + 1, ?_⟩
    generalize hk : K1 + K2 + K3 = k
    have p1 : ipv4_Put.f k s0 s1 s2 s3 s4 s5 s6 s7 s8 o body = some (ipM s0 s1 s2 s3 s4 s5 s6 s7 s8 o body (⟨#[]⟩ : ByteArray), 0) := by rw [← hput]; exact q1 k (by omega)
    have p2 : ipv4_Get.f k (ipM s0 s1 s2 s3 s4 s5 s6 s7 s8 o body (⟨#[]⟩ : ByteArray) ++ more) = some (s0, s1, s2, s3, s4, s5, s6, s7, s8, o, body, 0) := by rw [hmore]; exact q2 k (by omega)
    have p3 : rampartlaw03_Ipv4Back.j1 k bit (ipM s0 s1 s2 s3 s4 s5 s6 s7 s8 o body (⟨#[]⟩ : ByteArray)) false s0 s1 s2 s3 s4 s5 s6 s7 s8 o = some true := q3 k (by omega)
    have rm : (ipM s0 s1 s2 s3 s4 s5 s6 s7 s8 o body (⟨#[]⟩ : ByteArray)).size + more.size ≤ 9223372036854775807 := room (by omega)
    have hne : (((ipM s0 s1 s2 s3 s4 s5 s6 s7 s8 o body (⟨#[]⟩ : ByteArray)).size : Int) != (wrap64 ((wrap64 (20 + (o.size : Int))) + (body.size : Int)))) = false := by
      rw [word_len o.size body.size f1 hz, hS, hS0, Nat.add_zero]
      exact bne_self_eq_false _
    simp only [rampartlaw03_Ipv4Back.f]
    rw [if_neg b1, if_neg b2, decide_eq_false b3]
    simp only [rampartlaw03_Ipv4Back.j0, Bool.false_eq_true, if_false]
    rw [p1, Option.bind_some, if_pos rfl, if_pos rm, p2, Option.bind_some, if_pos rfl, same_true, Option.bind_some, if_pos rfl, if_pos rfl, hne]
    exact p3
  · have hemp : (putI s0 s1 s2 s3 s4 s5 s6 s7 s8 o body).1 = (⟨#[]⟩ : ByteArray) ∧ ((putI s0 s1 s2 s3 s4 s5 s6 s7 s8 o body).2 == 1) = (!chkI s0 s1 s4 s5 s6 o) := by
      unfold putI at hp ⊢
      by_cases h : chkI s0 s1 s4 s5 s6 o = true
      · rw [if_pos h] at hp ⊢
        by_cases h2 : body.size > 2000
        · rw [if_pos h2, h]; exact ⟨rfl, rfl⟩
        · rw [if_neg h2] at hp; exact absurd rfl hp
      · rw [if_neg h, Bool.eq_false_iff.mpr h]; exact ⟨rfl, rfl⟩
    refine ⟨K0 + K1 + 1, ?_⟩
    generalize hk : K0 + K1 = k
    have e0 : rampartlaw03_awake.f k = some true := q0 k (by omega)
    have p1 : ipv4_Put.f k s0 s1 s2 s3 s4 s5 s6 s7 s8 o body = some (putI s0 s1 s2 s3 s4 s5 s6 s7 s8 o body) := q1 k (by omega)
    simp only [rampartlaw03_Ipv4Back.f]
    rw [if_neg b1, if_neg b2, decide_eq_false b3]
    simp only [rampartlaw03_Ipv4Back.j0, Bool.false_eq_true, if_false]
    rw [p1, Option.bind_some, if_neg hp, if_pos (by rw [hemp.1]; exact empty_list), check_some, Option.bind_some, if_pos (by rw [hemp.2]; simp), e0, Option.bind_some]
end Go.Proofs.Ytgolimfljndnmaa.Pure
