/- What is proved: the plain statement of TcpBack: what is put is got, between the same two, either way round; with one bit turned it is none. Conditions: numbers of their kinds, sizes as the row gives them, nothing else. -/
import Derived.Test.YtgolimfljndnmaaQCTcpFlip
import Derived.Test.YtgolimfljndnmaaQCTcpAwake
import Derived.Test.YtgolimfljndnmaaQCPlaceLib
import Derived.Test.YtgolimfljndnmaaHCx9
import Derived.Test.YtgolimfljndnmaaHCx8
namespace Go.Proofs.Ytgolimfljndnmaa.Pure
open Go.RowKit Go.Proofs.Ytgolimfljndnmaa.QC Go.Proofs.Ytgolimfljndnmaa.HC Go.Proofs.YtgolimfljndnmaaW.PrintWords Go.Proofs.YtgolimfljndnmaaW.PrintLast Go.Proofs.YtgolimfljndnmaaW.PrintMore
set_option linter.unusedVariables false
set_option linter.unusedSimpArgs false
theorem empty_list : (⟨#[]⟩ : ByteArray).toList = [] := by rw [toList_data]
theorem same_true (a b c d e f : Int) (g : ByteArray) : rampartref04_Same.f a b c d e f g a b c d e f g = some true := by
  simp [rampartref04_Same.f]
theorem word_8s (n : Nat) (h : n ≤ 100000) : wrap64 (8 * (n : Int)) = ((8 * n : Nat) : Int) := by unfold wrap64; omega
theorem word_div (n : Nat) (h : n ≤ 1000000) : wrap64 (Int.tdiv (n : Int) 8) = ((n / 8 : Nat) : Int) := by
  rw [Int.tdiv_eq_ediv_of_nonneg (by omega)]
  unfold wrap64
  omega
theorem word_mod (n : Nat) : IntKind.u64.wrap (Int.tmod (n : Int) 8) = ((n % 8 : Nat) : Int) := by
  rw [Int.tmod_eq_emod_of_nonneg (by omega)]
  have h : (n : Int) % 8 = ((n % 8 : Nat) : Int) := by omega
  have h8 : n % 8 < 8 := Nat.mod_lt _ (by decide)
  rw [h]
  generalize n % 8 = m at h8
  simp only [IntKind.wrap, IntKind.bits, IntKind.signed]
  simp
  omega
theorem word_all (n m : Nat) (h : n ≤ 40) (h2 : m ≤ 2000) : wrap64 ((wrap64 (20 + (n : Int))) + (m : Int)) = ((20 + n + m : Nat) : Int) := by unfold wrap64; omega
theorem xor_range (v : Int) (h0 : 0 ≤ v) (h1 : v ≤ 4294967295) : 0 ≤ Go.bits .xor .u32 v 1 ∧ Go.bits .xor .u32 v 1 ≤ 4294967295 := by
  rw [xor_one32 v h0 h1]
  by_cases h : v % 2 = 0
  · rw [if_pos h]; exact ⟨by omega, by omega⟩
  · rw [if_neg h]; exact ⟨by omega, by omega⟩
theorem back_j1 (src dst s0 s1 s2 s3 s4 s5 : Int) (o body : ByteArray) (bit : Int) (hs : 0 ≤ src ∧ src ≤ 4294967295) (hd : 0 ≤ dst ∧ dst ≤ 4294967295) (hc : chkT s0 s1 s4 s5 o = true) (hz : 20 + o.size + body.size ≤ 2000)
    (hbit : -9223372036854775808 ≤ bit ∧ bit ≤ 9223372036854775807) (hok : wrongT src dst (segT src dst s0 s1 s2 s3 s4 s5 o body) = 0) :
    Ev (fun k => rampartlaw04_TcpBack.j1 k src dst body bit (segT src dst s0 s1 s2 s3 s4 s5 o body) false s0 s1 s2 s3 s4 s5 o) true := by
  have f1 := (chkT_opts hc).1
  have hS := segT_size src dst s0 s1 s2 s3 s4 s5 o body
  generalize segT src dst s0 s1 s2 s3 s4 s5 o body = S at *
  have h0 := (wrongT_zero hok).2.2.2.2.2.2
  have he := ends_bad src dst S hs hok
  have hsx := xor_range src hs.1 hs.2
  obtain ⟨u, hu⟩ : ∃ u, Go.bits .xor .u32 src 1 = u := ⟨_, rfl⟩
  rw [hu] at he hsx
  have HU := Aside0.mk hu
  clear hu
  have w8 := word_8s S.size (by omega)
  have hp := at_some bit ((8 * S.size : Nat) : Int) (by omega) (by omega) hbit
  have hp0 : 0 ≤ bit % ((8 * S.size : Nat) : Int) ∧ bit % ((8 * S.size : Nat) : Int) < ((8 * S.size : Nat) : Int) := ⟨Int.emod_nonneg _ (by omega), Int.emod_lt_of_pos _ (by omega)⟩
  obtain ⟨n, hn⟩ := Int.eq_ofNat_of_zero_le hp0.1
  rw [hn] at hp hp0
  have t8 := word_div n (by omega)
  have t9 := word_mod n
  have hset : gosem_cut_init.f S ((n / 8 : Nat) : Int) (Go.bits .xor .u8 (bt S ((n / 8 : Nat) : Int)) (shl .u8 1 ((n % 8 : Nat) : Int))) = some (bset S (n / 8) (Go.bits .xor .u8 (bt S ((n / 8 : Nat) : Int)) (shl .u8 1 ((n % 8 : Nat) : Int)))) := by
    unfold gosem_cut_init.f
    rw [if_pos (by omega), Int.toNat_natCast]
  have hT := flip_bad src dst S h0 (n / 8) (by omega) ((n % 8 : Nat) : Int) (by omega) (by omega)
  generalize bset S (n / 8) (Go.bits .xor .u8 (bt S ((n / 8 : Nat) : Int)) (shl .u8 1 ((n % 8 : Nat) : Int))) = T at *
  obtain ⟨K0, q0⟩ := tcpAwake_ev
  obtain ⟨K1, q1⟩ := get_ev src dst T hs hd
  obtain ⟨K2, q2⟩ := get_ev u dst S hsx hd
  have b1 : (getT src dst T).2.2.2.2.2.2.2.2 ≠ 0 := by rw [getT_err]; exact hT
  have b2 : (getT u dst S).2.2.2.2.2.2.2.2 = 4 := by rw [getT_err]; exact he
  refine ⟨K0 + K1 + K2 + 1, fun k hk => ?_⟩
  obtain ⟨k, rfl⟩ : ∃ m, k = m + 1 := ⟨k - 1, by omega⟩
  have e0 : rampartlaw04_awake.f k = some true := q0 k (by omega)
  have g1 : tcp_Get.f k src dst T = some (getT src dst T) := q1 k (by omega)
  have g2 : tcp_Get.f k u dst S = some (getT u dst S) := q2 k (by omega)
  have hsz : (S.size : Int) = wrap64 ((wrap64 (20 + (o.size : Int))) + (body.size : Int)) := by rw [word_all o.size body.size f1 (by omega), hS]
  have hlt : ((n / 8 : Nat) : Int) < (S.size : Int) := by clear he hsx HU hsz hok h0 hT b1 b2 q0 q1 q2 hset; omega
  simp only [rampartlaw04_TcpBack.j1, Bool.false_eq_true, if_false]
  rw [if_pos hsz, w8, hp, Option.bind_some, t8, t9, if_pos (Int.natCast_nonneg _), if_pos hlt, if_pos (Int.natCast_nonneg _), hset, Option.bind_some, g1, Option.bind_some, HU.out, g2, Option.bind_some, if_neg b1, if_pos b2, e0, Option.bind_some]
theorem TcpBack (src dst s0 s1 s2 s3 s4 s5 : Int) (o body : ByteArray) (bit : Int) (hs : (Lit.int .u32 src).wf = true) (hd : (Lit.int .u32 dst).wf = true) (_ : (Lit.int .i64 s0).wf = true) (_ : (Lit.int .i64 s1).wf = true) (h2 : (Lit.int .u32 s2).wf = true) (h3 : (Lit.int .u32 s3).wf = true)
    (_ : (Lit.int .i64 s4).wf = true) (_ : (Lit.int .i64 s5).wf = true) (ho : o.size ≤ maxLen) (hb : body.size ≤ 140737488351232) (hbit : (Lit.int .i64 bit).wf = true) : ∃ k, rampartlaw04_TcpBack.f k src dst s0 s1 s2 s3 s4 s5 o body bit = some true := by
  have hs := bounds_u32 hs
  have hd := bounds_u32 hd
  have h2 := bounds_u32 h2
  have h3 := bounds_u32 h3
  have hbit := bounds_i64 hbit
  obtain ⟨K0, q0⟩ := tcpAwake_ev
  have aw : rampartlaw04_TcpBack.j0 (K0 + 1) src dst body bit true s0 s1 s2 s3 s4 s5 o = some true := by
    have e0 : rampartlaw04_awake.f K0 = some true := q0 K0 (by omega)
    simp only [rampartlaw04_TcpBack.j0, if_true]
    rw [e0, Option.bind_some]
  by_cases b1 : (o.size : Int) > 100
  · exact ⟨K0 + 1, by simp only [rampartlaw04_TcpBack.f]; rw [if_pos b1, aw]⟩
  by_cases b2 : (body.size : Int) > 2500
  · exact ⟨K0 + 1, by simp only [rampartlaw04_TcpBack.f]; rw [if_neg b1, decide_eq_true b2, aw]⟩
  obtain ⟨K1, q1⟩ := put_ev src dst s0 s1 s2 s3 s4 s5 o body hs hd h2 h3 (by omega) hb
  by_cases hp : (putT src dst s0 s1 s2 s3 s4 s5 o body).2 = 0
  · have hc : chkT s0 s1 s4 s5 o = true := by
      by_cases h : chkT s0 s1 s4 s5 o = true
      · exact h
      · unfold putT at hp; rw [if_neg h] at hp; exact absurd hp (by decide)
    have hz : 20 + o.size + body.size ≤ 2000 := by
      by_cases h : 20 + o.size + body.size > 2000
      · unfold putT at hp; rw [if_pos hc, if_pos h] at hp; exact absurd hp (by decide)
      · omega
    have hput : putT src dst s0 s1 s2 s3 s4 s5 o body = (segT src dst s0 s1 s2 s3 s4 s5 o body, 0) := by
      unfold putT
      rw [if_pos hc, if_neg (by omega)]
    have hget := getT_segT src dst s0 s1 s2 s3 s4 s5 o body hc h2 h3 hz
    have hok : wrongT src dst (segT src dst s0 s1 s2 s3 s4 s5 o body) = 0 := by
      rw [← getT_err, hget]
    obtain ⟨K2, q2⟩ := get_ev src dst (segT src dst s0 s1 s2 s3 s4 s5 o body) hs hd
    obtain ⟨K3, q3⟩ := get_ev dst src (segT src dst s0 s1 s2 s3 s4 s5 o body) hd hs
    rw [get_swap, hget] at q3
    rw [hget] at q2
    obtain ⟨K4, q4⟩ := back_j1 src dst s0 s1 s2 s3 s4 s5 o body bit hs hd hc hz hbit hok
    refine ⟨K1 + K2 + K3 + K4 + 1, ?_⟩
    generalize hk : K1 + K2 + K3 + K4 = k
    have p1 : tcp_Put.f k src dst s0 s1 s2 s3 s4 s5 o body = some (segT src dst s0 s1 s2 s3 s4 s5 o body, 0) := by rw [← hput]; exact q1 k (by omega)
    have p2 : tcp_Get.f k src dst (segT src dst s0 s1 s2 s3 s4 s5 o body) = some (s0, s1, s2, s3, s4, s5, o, body, 0) := q2 k (by omega)
    have p3 : tcp_Get.f k dst src (segT src dst s0 s1 s2 s3 s4 s5 o body) = some (s0, s1, s2, s3, s4, s5, o, body, 0) := q3 k (by omega)
    have p4 : rampartlaw04_TcpBack.j1 k src dst body bit (segT src dst s0 s1 s2 s3 s4 s5 o body) false s0 s1 s2 s3 s4 s5 o = some true := q4 k (by omega)
    simp only [rampartlaw04_TcpBack.f]
    rw [if_neg b1, decide_eq_false b2]
    simp only [rampartlaw04_TcpBack.j0, Bool.false_eq_true, if_false]
    rw [p1, Option.bind_some, if_pos rfl, p2, Option.bind_some, p3, Option.bind_some, if_pos rfl, same_true, Option.bind_some, if_pos rfl, if_pos rfl, if_pos rfl, Option.bind_some, if_pos rfl]
    have hbn : (body.toList != body.toList) = false := bne_self_eq_false _
    rw [← hbn] at p4
    exact p4
  · have hemp : (putT src dst s0 s1 s2 s3 s4 s5 o body).1 = (⟨#[]⟩ : ByteArray) ∧ ((putT src dst s0 s1 s2 s3 s4 s5 o body).2 == 1) = (!chkT s0 s1 s4 s5 o) := by
      unfold putT at hp ⊢
      by_cases h : chkT s0 s1 s4 s5 o = true
      · rw [if_pos h] at hp ⊢
        by_cases h2 : 20 + o.size + body.size > 2000
        · rw [if_pos h2, h]; exact ⟨rfl, rfl⟩
        · rw [if_neg h2] at hp; exact absurd rfl hp
      · rw [if_neg h, Bool.eq_false_iff.mpr h]; exact ⟨rfl, rfl⟩
    refine ⟨K0 + K1 + 1, ?_⟩
    generalize hk : K0 + K1 = k
    have e0 : rampartlaw04_awake.f k = some true := q0 k (by omega)
    have p1 : tcp_Put.f k src dst s0 s1 s2 s3 s4 s5 o body = some (putT src dst s0 s1 s2 s3 s4 s5 o body) := q1 k (by omega)
    simp only [rampartlaw04_TcpBack.f]
    rw [if_neg b1, decide_eq_false b2]
    simp only [rampartlaw04_TcpBack.j0, Bool.false_eq_true, if_false]
    rw [p1, Option.bind_some, if_neg hp, if_pos (by rw [hemp.1]; exact empty_list), tcp_check_some, Option.bind_some, if_pos (by rw [hemp.2]; simp), e0, Option.bind_some]
end Go.Proofs.Ytgolimfljndnmaa.Pure
