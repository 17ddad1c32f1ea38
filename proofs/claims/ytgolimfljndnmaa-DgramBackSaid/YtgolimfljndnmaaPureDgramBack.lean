/- What is proved: the plain statement of DgramBack: what is put is got; a bit turned in the body makes it none. Conditions: numbers of their kinds, sizes as the row gives them, nothing else. -/
import Derived.Test.YtgolimfljndnmaaQFDgFlip
import Derived.Test.YtgolimfljndnmaaQFDgAwake
import Derived.Test.YtgolimfljndnmaaQFPlaceLib
import Derived.Test.YtgolimfljndnmaaHFx11
namespace Go.Proofs.Ytgolimfljndnmaa.Pure
open Go.RowKit Go.Proofs.Ytgolimfljndnmaa.QF Go.Proofs.Ytgolimfljndnmaa.HF Go.Proofs.YtgolimfljndnmaaW.PrintWords Go.Proofs.YtgolimfljndnmaaW.PrintLast Go.Proofs.YtgolimfljndnmaaW.PrintMore
set_option linter.unusedVariables false
set_option linter.unusedSimpArgs false
theorem word_8s (n : Nat) (h : n ≤ 100000) : wrap64 (8 * (n : Int)) = ((8 * n : Nat) : Int) := by unfold wrap64; omega
theorem word_div (n : Nat) (h : n ≤ 1000000) : wrap64 (8 + (wrap64 (Int.tdiv (n : Int) 8))) = ((8 + n / 8 : Nat) : Int) := by
  rw [Int.tdiv_eq_ediv_of_nonneg (by omega)]
  have e : wrap64 ((n : Int) / 8) = ((n / 8 : Nat) : Int) := by unfold wrap64; omega
  rw [e]
  unfold wrap64
  omega
theorem word_mod (n : Nat) : IntKind.u64.wrap (Int.tmod (n : Int) 8) = ((n % 8 : Nat) : Int) := by
  rw [Int.tmod_eq_emod_of_nonneg (by omega)]
  have h : (n : Int) % 8 = ((n % 8 : Nat) : Int) := by omega
  have h8 : n % 8 < 8 := Nat.mod_lt _ (by decide)
  rw [h]
  generalize n % 8 = m at h8
  simp only [IntKind.wrap, IntKind.bits, IntKind.signed]
  simp
  omega
theorem word_8 (n : Nat) (h : n ≤ 100000) : wrap64 (8 + (n : Int)) = ((8 + n : Nat) : Int) := by unfold wrap64; omega
theorem set_some (s : ByteArray) (i : Nat) (v : Int) (h : i < s.size) : gosem_cut_init.f s ((i : Nat) : Int) v = some (bset s i v) := by
  unfold gosem_cut_init.f
  rw [if_pos (by omega), Int.toNat_natCast]
theorem back_j0 (src dst p0 p1 p2 p3 p4 : Int) (body : ByteArray) (bit : Int) (hs : 0 ≤ src ∧ src ≤ 4294967295) (hd : 0 ≤ dst ∧ dst ≤ 4294967295) (hb : body.size ≤ 1900) (hbit : -9223372036854775808 ≤ bit ∧ bit ≤ 9223372036854775807) :
    Ev (fun k => rampartlaw05_DgramBack.j0 k src dst body bit (udpS src dst p0 p1 body) (icmpS p2 p3 p4 body) false) true := by
  obtain ⟨K0, q0⟩ := dgAwake_ev
  by_cases hz : (body.size : Int) = 0
  · refine ⟨K0 + 1, fun k hk => ?_⟩
    obtain ⟨k, rfl⟩ : ∃ m, k = m + 1 := ⟨k - 1, by omega⟩
    have e0 : rampartlaw05_awake.f k = some true := q0 k (by omega)
    simp only [rampartlaw05_DgramBack.j0, Bool.false_eq_true, if_false]
    rw [if_pos hz, e0, Option.bind_some]
  have w8 := word_8s body.size (by omega)
  have hp := at_some bit ((8 * body.size : Nat) : Int) (by omega) (by omega) hbit
  have hp0 : 0 ≤ bit % ((8 * body.size : Nat) : Int) ∧ bit % ((8 * body.size : Nat) : Int) < ((8 * body.size : Nat) : Int) := ⟨Int.emod_nonneg _ (by omega), Int.emod_lt_of_pos _ (by omega)⟩
  obtain ⟨n, hn⟩ := Int.eq_ofNat_of_zero_le hp0.1
  rw [hn] at hp hp0
  have t8 := word_div n (by omega)
  have t9 := word_mod n
  have hj : n / 8 < body.size := by omega
  have f1 := u_flip src dst p0 p1 body (by omega) (n / 8) hj ((n % 8 : Nat) : Int) (by omega) (by omega)
  have f2 := c_flip p2 p3 p4 body (by omega) (n / 8) hj ((n % 8 : Nat) : Int) (by omega) (by omega)
  have z1 := udpS_size src dst p0 p1 body
  have z2 := icmpS_size p2 p3 p4 body
  have s1 := set_some (udpS src dst p0 p1 body) (8 + n / 8) (Go.bits .xor .u8 (bt (udpS src dst p0 p1 body) ((8 + n / 8 : Nat) : Int)) (shl .u8 1 ((n % 8 : Nat) : Int))) (by omega)
  have s2 := set_some (icmpS p2 p3 p4 body) (8 + n / 8) (Go.bits .xor .u8 (bt (icmpS p2 p3 p4 body) ((8 + n / 8 : Nat) : Int)) (shl .u8 1 ((n % 8 : Nat) : Int))) (by omega)
  generalize udpS src dst p0 p1 body = S at f1 z1 s1 ⊢
  generalize icmpS p2 p3 p4 body = T at f2 z2 s2 ⊢
  generalize bset S (8 + n / 8) (Go.bits .xor .u8 (bt S ((8 + n / 8 : Nat) : Int)) (shl .u8 1 ((n % 8 : Nat) : Int))) = U at f1 s1
  generalize bset T (8 + n / 8) (Go.bits .xor .u8 (bt T ((8 + n / 8 : Nat) : Int)) (shl .u8 1 ((n % 8 : Nat) : Int))) = V at f2 s2
  obtain ⟨K1, q1⟩ := uget_ev src dst U hs hd
  obtain ⟨K2, q2⟩ := cget_ev V
  have b1 := err4U src dst U f1
  have b2 := err4C V f2
  refine ⟨K0 + K1 + K2 + 1, fun k hk => ?_⟩
  obtain ⟨k, rfl⟩ : ∃ m, k = m + 1 := ⟨k - 1, by omega⟩
  have e0 : rampartlaw05_awake.f k = some true := q0 k (by omega)
  have g1 : dgram_GetUDP.f k src dst U = some (getU src dst U) := q1 k (by omega)
  have g2 : dgram_GetICMP.f k V = some (getC V) := q2 k (by omega)
  have l1 : ((8 + n / 8 : Nat) : Int) < (S.size : Int) := by clear f1 f2 s1 s2 b1 b2 hp t8 t9 w8; omega
  have l2 : ((8 + n / 8 : Nat) : Int) < (T.size : Int) := by clear f1 f2 s1 s2 b1 b2 hp t8 t9 w8; omega
  simp only [rampartlaw05_DgramBack.j0, Bool.false_eq_true, if_false]
  rw [if_neg hz, w8, hp, Option.bind_some, t8, t9, if_pos (Int.natCast_nonneg _), if_pos l1, if_pos (Int.natCast_nonneg _), s1, Option.bind_some, if_pos l2, s2, Option.bind_some, g1, Option.bind_some, g2, Option.bind_some, if_pos b1, if_pos b2, e0, Option.bind_some]
theorem two_in {m x y : Int} (hx : 0 ≤ x ∧ x ≤ m) (hy : 0 ≤ y ∧ y ≤ m) : twoIn m x y = true := by
  unfold twoIn
  exact decide_eq_true ⟨hx.1, hx.2, hy.1, hy.2⟩
theorem DgramBack (src dst s0 s1 s2 s3 s4 : Int) (body : ByteArray) (bit : Int) (hs : (Lit.int .u32 src).wf = true) (hd : (Lit.int .u32 dst).wf = true) (h0 : (Lit.int .i64 s0).wf = true) (h1 : (Lit.int .i64 s1).wf = true) (h2 : (Lit.int .i64 s2).wf = true) (h3 : (Lit.int .i64 s3).wf = true)
    (h4 : (Lit.int .u32 s4).wf = true) (hb : body.size ≤ 140737488351232) (hbit : (Lit.int .i64 bit).wf = true) : ∃ k, rampartlaw05_DgramBack.f k src dst s0 s1 s2 s3 s4 body bit = some true := by
  have hs := bounds_u32 hs
  have hd := bounds_u32 hd
  have h0 := bounds_i64 h0
  have h1 := bounds_i64 h1
  have h2 := bounds_i64 h2
  have h3 := bounds_i64 h3
  have h4 := bounds_u32 h4
  have hbit := bounds_i64 hbit
  obtain ⟨K0, q0⟩ := dgAwake_ev
  by_cases b1 : (body.size : Int) > 1900
  · refine ⟨K0, ?_⟩
    have e0 : rampartlaw05_awake.f K0 = some true := q0 K0 (by omega)
    simp only [rampartlaw05_DgramBack.f]
    rw [if_pos b1, e0, Option.bind_some]
  have hb2 : body.size ≤ 1900 := by omega
  have a0 := at_some s0 65536 (by omega) (by omega) h0
  have a1 := at_some s1 65536 (by omega) (by omega) h1
  have a2 := at_some s2 256 (by omega) (by omega) h2
  have a3 := at_some s3 256 (by omega) (by omega) h3
  have r0 : 0 ≤ s0 % 65536 ∧ s0 % 65536 ≤ 65535 := by omega
  have r1 : 0 ≤ s1 % 65536 ∧ s1 % 65536 ≤ 65535 := by omega
  have r2 : 0 ≤ s2 % 256 ∧ s2 % 256 ≤ 255 := by omega
  have r3 : 0 ≤ s3 % 256 ∧ s3 % 256 ≤ 255 := by omega
  generalize s0 % 65536 = p0 at a0 r0
  generalize s1 % 65536 = p1 at a1 r1
  generalize s2 % 256 = p2 at a2 r2
  generalize s3 % 256 = p3 at a3 r3
  have eU : putU src dst p0 p1 body = (udpS src dst p0 p1 body, 0) := by
    unfold putU
    rw [if_pos (two_in r0 r1), if_neg (by omega)]
  have eC : putC p2 p3 s4 body = (icmpS p2 p3 s4 body, 0) := by
    unfold putC
    rw [if_pos (two_in r2 r3), if_neg (by omega)]
  obtain ⟨K1, q1⟩ := uput_ev src dst p0 p1 p2 p3 s4 body hs hd hb
  obtain ⟨K2, q2⟩ := cput_ev p0 p1 p2 p3 s4 body h4 hb
  obtain ⟨K3, q3⟩ := uget_ev src dst (udpS src dst p0 p1 body) hs hd
  obtain ⟨K4, q4⟩ := cget_ev (icmpS p2 p3 s4 body)
  obtain ⟨K5, q5⟩ := back_j0 src dst p0 p1 p2 p3 s4 body bit hs hd hb2 hbit
  rw [eU] at q1
  rw [eC] at q2
  rw [u_back src dst p0 p1 body r0 r1 (by omega)] at q3
  rw [c_back p2 p3 s4 body r2 r3 h4 (by omega)] at q4
  refine ⟨K1 + K2 + K3 + K4 + K5, ?_⟩
  generalize hk : K1 + K2 + K3 + K4 + K5 = k
  have e1 : dgram_PutUDP.f k src dst p0 p1 p2 p3 s4 body = some (udpS src dst p0 p1 body, 0) := q1 k (by omega)
  have e2 : dgram_PutICMP.f k p0 p1 p2 p3 s4 body = some (icmpS p2 p3 s4 body, 0) := q2 k (by omega)
  have e3 : dgram_GetUDP.f k src dst (udpS src dst p0 p1 body) = some (p0, p1, 0, 0, 0, body, 0) := q3 k (by omega)
  have e4 : dgram_GetICMP.f k (icmpS p2 p3 s4 body) = some (0, 0, p2, p3, s4, body, 0) := q4 k (by omega)
  have e5 : rampartlaw05_DgramBack.j0 k src dst body bit (udpS src dst p0 p1 body) (icmpS p2 p3 s4 body) false = some true := q5 k (by omega)
  have w := word_8 body.size (by omega)
  have z1 := udpS_size src dst p0 p1 body
  have z2 := icmpS_size p2 p3 s4 body
  have hne : ((((icmpS p2 p3 s4 body).size : Int)) != ((8 + body.size : Nat) : Int)) = false := by rw [z2]; simp
  simp only [rampartlaw05_DgramBack.f]
  rw [if_neg b1, a0, Option.bind_some, a1, Option.bind_some, a2, Option.bind_some, a3, Option.bind_some, e1, Option.bind_some, e2, Option.bind_some, e3, Option.bind_some, e4, Option.bind_some, w]
  rw [if_pos rfl, if_pos rfl, if_pos rfl, if_pos rfl, if_pos rfl, if_pos rfl, if_pos rfl, if_pos rfl, if_pos rfl, if_pos rfl, if_pos rfl, if_pos (by rw [z1]), hne]
  exact e5
end Go.Proofs.Ytgolimfljndnmaa.Pure
