/- What is proved: the plain statement of DgramEdges: ports and kinds at their last places and one beyond; as long as may be; a sum of two bytes 0 is right. Conditions: numbers of their kind, sizes as the row gives them, nothing else. -/
import Derived.Test.YtgolimfljndnmaaQEDg
import Derived.Test.YtgolimfljndnmaaQEDgAwake
import Derived.Test.YtgolimfljndnmaaQEFieldLib
import Derived.Test.YtgolimfljndnmaaQEPlaceLib
import Derived.Test.YtgolimfljndnmaaHEx11
namespace Go.Proofs.Ytgolimfljndnmaa.Pure
open Go.RowKit Go.Proofs.Ytgolimfljndnmaa.QE Go.Proofs.Ytgolimfljndnmaa.HE Go.Proofs.YtgolimfljndnmaaW.PrintWords Go.Proofs.YtgolimfljndnmaaW.PrintLast Go.Proofs.YtgolimfljndnmaaW.PrintMore
set_option linter.unusedVariables false
set_option linter.unusedSimpArgs false
theorem set_list8 (s : ByteArray) (i : Nat) (v : Int) : (bset s i v).data.toList = s.data.toList.set i (UInt8.ofNat v.toNat) := by simp [bset]
theorem set_size8 (s : ByteArray) (i : Nat) (v : Int) : (bset s i v).size = s.size := by
  show (s.data.toList.set i _).toArray.size = _
  simp
/-- Two bytes at place 6 made 0. -/
theorem two_zero {F V B : List UInt8} (hF : F.length = 6) (hV : V.length = 2) : ((F ++ (V ++ B)).set 6 0).set 7 0 = F ++ ([0, 0] ++ B) := by
  match V, hV with
  | [x, y], _ =>
    match F, hF with
    | [a, b, c, d, e, f], _ => rfl
def zeroed (s : ByteArray) : ByteArray := bset (bset s 6 0) 7 0
theorem zeroed_size (s : ByteArray) : (zeroed s).size = s.size := by unfold zeroed; rw [set_size8, set_size8]
theorem set_one (s : ByteArray) (h : 8 ≤ s.size) : gosem_cut_init.f s 6 0 = some (bset s 6 0) := by
  unfold gosem_cut_init.f
  rw [if_pos (by omega)]
  rfl
theorem set_two (s : ByteArray) (h : 8 ≤ s.size) : gosem_cut_init.f s 7 0 = some (bset s 7 0) := by
  unfold gosem_cut_init.f
  rw [if_pos (by omega)]
  rfl
theorem zeroed_list (src dst s0 s1 : Int) (body : ByteArray) : (zeroed (udpS src dst s0 s1 body)).data.toList = ((bigS s0 2).data.toList ++ ((bigS s1 2).data.toList ++ (bigS ((8 + body.size : Nat) : Int) 2).data.toList)) ++ ([0, 0] ++ body.data.toList) := by
  have e : (udpS src dst s0 s1 body).data.toList = ((bigS s0 2).data.toList ++ ((bigS s1 2).data.toList ++ (bigS ((8 + body.size : Nat) : Int) 2).data.toList)) ++ ((bigS (fixU (sumU src dst s0 s1 body)) 2).data.toList ++ body.data.toList) := by
    simp only [udpS, frontU, app_list, List.append_assoc]
  unfold zeroed
  rw [set_list8, set_list8, e]
  exact two_zero (by simp only [List.length_append, bigS_length]) (by rw [bigS_length])
theorem byte_ext {a b : ByteArray} (h : a.data.toList = b.data.toList) : a = b := by
  cases a; cases b; congr 1; exact Array.ext' h
theorem zeroed_get (src dst : Int) (body : ByteArray) (hb : body.size ≤ 500) : getU src dst (zeroed (udpS src dst 65535 65535 body)) = (65535, 65535, 0, 0, 0, body, 0) := by
  have hz : (zeroed (udpS src dst 65535 65535 body)).size = 8 + body.size := by rw [zeroed_size, udpS_size]
  have hl := zeroed_list src dst 65535 65535 body
  generalize zeroed (udpS src dst 65535 65535 body) = s at hz hl ⊢
  have l0 : s.data.toList = [] ++ ((bigS 65535 2).data.toList ++ (((bigS 65535 2).data.toList ++ (bigS ((8 + body.size : Nat) : Int) 2).data.toList) ++ ([0, 0] ++ body.data.toList))) := by
    rw [hl, List.append_assoc]; rfl
  have l1 : s.data.toList = (bigS 65535 2).data.toList ++ ((bigS 65535 2).data.toList ++ ((bigS ((8 + body.size : Nat) : Int) 2).data.toList ++ ([0, 0] ++ body.data.toList))) := by
    rw [hl, List.append_assoc, List.append_assoc]
  have l2 : s.data.toList = ((bigS 65535 2).data.toList ++ (bigS 65535 2).data.toList) ++ ((bigS ((8 + body.size : Nat) : Int) 2).data.toList ++ ([0, 0] ++ body.data.toList)) := by
    rw [l1, List.append_assoc]
  have c0 : (s.extract 0 2).data.toList = (bigS 65535 2).data.toList := cut_at l0 (List.length_nil) (by rw [bigS_length])
  have c1 : (s.extract 2 4).data.toList = (bigS 65535 2).data.toList := cut_at l1 (by rw [bigS_length]) (by rw [bigS_length])
  have c2 : (s.extract 4 6).data.toList = (bigS ((8 + body.size : Nat) : Int) 2).data.toList := cut_at l2 (by simp only [List.length_append, bigS_length]) (by rw [bigS_length])
  have e0 : numOf (s.extract 0 2) = 65535 := by
    rw [numOf_list c0 (by omega)]; decide
  have e1 : numOf (s.extract 2 4) = 65535 := by
    rw [numOf_list c1 (by omega)]; decide
  have e2 : numOf (s.extract 4 6) = ((8 + body.size : Nat) : Int) := by
    rw [numOf_list c2 (by omega), show (256 : Int) ^ 2 = 65536 from rfl]
    omega
  have e3 : bare s := cut_at hl (by simp only [List.length_append, bigS_length]) rfl
  have e4 : s.extract 8 s.size = body := byte_ext (cut_end (a := ((bigS 65535 2).data.toList ++ ((bigS 65535 2).data.toList ++ (bigS ((8 + body.size : Nat) : Int) 2).data.toList)) ++ [0, 0]) (by rw [hl]; simp only [List.append_assoc]) (by simp only [List.length_append, bigS_length]; rfl))
  have hw : wrongU src dst s = 0 := by
    unfold wrongU
    rw [if_neg (by omega), if_neg (by rw [e2, hz]; omega), if_neg (by omega), if_neg (fun h => h.1 e3)]
  unfold getU
  rw [if_pos hw]
  unfold okU
  rw [e0, e1, e4]
def zs (n : Nat) : ByteArray := strOfNums (List.replicate n 0)
theorem zs_size (n : Nat) : (zs n).size = n := by simp [zs, strOfNums_size]
theorem u_bad {src dst s0 s1 : Int} {body : ByteArray} (h : twoIn 65535 s0 s1 = false) : putU src dst s0 s1 body = ((⟨#[]⟩ : ByteArray), 1) := by
  unfold putU; rw [h]; rfl
theorem c_bad {s2 s3 s4 : Int} {body : ByteArray} (h : twoIn 255 s2 s3 = false) : putC s2 s3 s4 body = ((⟨#[]⟩ : ByteArray), 1) := by
  unfold putC; rw [h]; rfl
theorem u_long {src dst : Int} {body : ByteArray} (h : 8 + body.size > 2000) : putU src dst 0 0 body = ((⟨#[]⟩ : ByteArray), 5) := by
  unfold putU; rw [if_pos (by decide), if_pos h]
theorem c_long {s4 : Int} {body : ByteArray} (h : 8 + body.size > 2000) : putC 0 0 s4 body = ((⟨#[]⟩ : ByteArray), 5) := by
  unfold putC; rw [if_pos (by decide), if_pos h]
theorem edges_j2 (body : ByteArray) (hb : body.size ≤ 500) (x : Int) (hx : 1 ≤ x ∧ x ≤ 100) (s0 s1 s2 s3 : Int) (hu : twoIn 65535 s0 s1 = false) (hc : twoIn 255 s2 s3 = false) :
    Ev (fun k => rampartlaw05_DgramEdges.j2 k body x s0 s1 s2 s3 4294967295) true := by
  obtain ⟨m, hm⟩ : ∃ m : Nat, x = (m : Int) := ⟨x.toNat, by omega⟩
  subst hm
  have w : wrap64 (1992 + (m : Int)) = ((1992 + m : Nat) : Int) := by unfold wrap64; omega
  obtain ⟨K0, q0⟩ := dgAwake_ev
  obtain ⟨K1, q1⟩ := uput_ev 1 2 s0 s1 s2 s3 4294967295 body (by omega) (by omega) (by omega)
  obtain ⟨K2, q2⟩ := cput_ev s0 s1 s2 s3 4294967295 body (by omega) (by omega)
  obtain ⟨K3, q3⟩ := uput_ev 1 2 0 0 0 0 0 (zs (1992 + m)) (by omega) (by omega) (by rw [zs_size]; omega)
  obtain ⟨K4, q4⟩ := cput_ev 0 0 0 0 0 (zs (1992 + m)) (by omega) (by rw [zs_size]; omega)
  rw [u_bad hu] at q1
  rw [c_bad hc] at q2
  rw [u_long (by rw [zs_size]; omega)] at q3
  rw [c_long (by rw [zs_size]; omega)] at q4
  refine ⟨K0 + K1 + K2 + K3 + K4 + 1, fun k hk => ?_⟩
  obtain ⟨k, rfl⟩ : ∃ n, k = n + 1 := ⟨k - 1, by omega⟩
  have e0 : rampartlaw05_awake.f k = some true := q0 k (by omega)
  have e1 : dgram_PutUDP.f k 1 2 s0 s1 s2 s3 4294967295 body = some ((⟨#[]⟩ : ByteArray), 1) := q1 k (by omega)
  have e2 : dgram_PutICMP.f k s0 s1 s2 s3 4294967295 body = some ((⟨#[]⟩ : ByteArray), 1) := q2 k (by omega)
  have e3 : dgram_PutUDP.f k 1 2 0 0 0 0 0 (strOfNums (List.replicate (1992 + m) 0)) = some ((⟨#[]⟩ : ByteArray), 5) := q3 k (by omega)
  have e4 : dgram_PutICMP.f k 0 0 0 0 0 (strOfNums (List.replicate (1992 + m) 0)) = some ((⟨#[]⟩ : ByteArray), 5) := q4 k (by omega)
  simp only [rampartlaw05_DgramEdges.j2]
  rw [e1, Option.bind_some, e2, Option.bind_some, w, if_pos (Int.natCast_nonneg _), Int.toNat_natCast, if_pos (by omega), e3, Option.bind_some, e4, Option.bind_some, if_pos rfl, if_pos rfl, if_pos rfl, if_pos rfl, e0, Option.bind_some]
theorem not_in (m a b : Int) (h : ¬ (0 ≤ a ∧ a ≤ m ∧ 0 ≤ b ∧ b ≤ m)) : twoIn m a b = false := by
  unfold twoIn; exact decide_eq_false h
theorem edges_j1 (how : Int) (hh : -9223372036854775808 ≤ how ∧ how ≤ 9223372036854775807) (body : ByteArray) (hb : body.size ≤ 500) (x : Int) (hx : 1 ≤ x ∧ x ≤ 100) :
    Ev (fun k => rampartlaw05_DgramEdges.j1 k how body x false 65535 65535 255 255 4294967295) true := by
  have hp := at_some how 4 (by omega) (by omega) hh
  have w1 : wrap64 (65535 + x) = 65535 + x := by unfold wrap64; omega
  have w2 : wrap64 (255 + x) = 255 + x := by unfold wrap64; omega
  have w3 : wrap64 (-x) = -x := by unfold wrap64; omega
  obtain ⟨K0, q0⟩ := edges_j2 body hb x hx (65535 + x) 65535 (255 + x) 255 (not_in _ _ _ (by omega)) (not_in _ _ _ (by omega))
  obtain ⟨K1, q1⟩ := edges_j2 body hb x hx 65535 (-x) 255 (-x) (not_in _ _ _ (by omega)) (not_in _ _ _ (by omega))
  obtain ⟨K2, q2⟩ := edges_j2 body hb x hx (-x) 65535 255 (255 + x) (not_in _ _ _ (by omega)) (not_in _ _ _ (by omega))
  obtain ⟨K3, q3⟩ := edges_j2 body hb x hx 65535 (65535 + x) (-x) 255 (not_in _ _ _ (by omega)) (not_in _ _ _ (by omega))
  refine ⟨K0 + K1 + K2 + K3 + 1, fun k hk => ?_⟩
  obtain ⟨k, rfl⟩ : ∃ n, k = n + 1 := ⟨k - 1, by omega⟩
  simp only [rampartlaw05_DgramEdges.j1, Bool.false_eq_true, if_false]
  rw [hp, Option.bind_some, w1, w2, w3]
  by_cases e0 : how % 4 = 0
  · rw [if_pos e0]; exact q0 k (by omega)
  rw [if_neg e0]
  by_cases e1 : how % 4 = 1
  · rw [if_pos e1]; exact q1 k (by omega)
  rw [if_neg e1]
  by_cases e2 : how % 4 = 2
  · rw [if_pos e2]; exact q2 k (by omega)
  rw [if_neg e2]; exact q3 k (by omega)
theorem edges_j0 (how : Int) (hh : -9223372036854775808 ≤ how ∧ how ≤ 9223372036854775807) (body : ByteArray) (hb : body.size ≤ 500) (x : Int) (hx : 1 ≤ x ∧ x ≤ 100) :
    Ev (fun k => rampartlaw05_DgramEdges.j0 k how body x (udpS 1 2 65535 65535 body) false 65535 65535 255 255 4294967295) true := by
  have hz := udpS_size 1 2 65535 65535 body
  have hg := zeroed_get 1 2 body hb
  generalize udpS 1 2 65535 65535 body = s at hz hg ⊢
  have hz2 : (bset s 6 0).size = 8 + body.size := by rw [set_size8, hz]
  obtain ⟨K1, q1⟩ := uget_ev 1 2 (zeroed s) (by omega) (by omega)
  rw [hg] at q1
  obtain ⟨K2, q2⟩ := edges_j1 how hh body hb x hx
  refine ⟨K1 + K2 + 1, fun k hk => ?_⟩
  obtain ⟨k, rfl⟩ : ∃ n, k = n + 1 := ⟨k - 1, by omega⟩
  have e1 : dgram_GetUDP.f k 1 2 (bset (bset s 6 0) 7 0) = some (65535, 65535, 0, 0, 0, body, 0) := q1 k (by omega)
  have e2 : rampartlaw05_DgramEdges.j1 k how body x false 65535 65535 255 255 4294967295 = some true := q2 k (by omega)
  simp only [rampartlaw05_DgramEdges.j0, Bool.false_eq_true, if_false]
  rw [set_one s (by omega), Option.bind_some, set_two _ (by omega), Option.bind_some, e1, Option.bind_some, if_pos rfl, if_pos rfl, show (((65535 : Int) != 65535)) = false from rfl]
  exact e2
theorem u_max (body : ByteArray) (hb : body.size ≤ 500) : putU 1 2 65535 65535 body = (udpS 1 2 65535 65535 body, 0) := by
  unfold putU
  rw [if_pos (show twoIn 65535 65535 65535 = true by decide), if_neg (by omega)]
theorem c_max (body : ByteArray) (hb : body.size ≤ 500) : putC 255 255 4294967295 body = (icmpS 255 255 4294967295 body, 0) := by
  unfold putC
  rw [if_pos (show twoIn 255 255 255 = true by decide), if_neg (by omega)]
theorem DgramEdges : rampartlaw05_DgramEdges.Pure := by
  intro how v body hh hv hb
  have hh := bounds_i64 hh
  have hv := bounds_i64 hv
  obtain ⟨K0, q0⟩ := dgAwake_ev
  by_cases b1 : (body.size : Int) > 500
  · refine ⟨K0, ?_⟩
    have e0 : rampartlaw05_awake.f K0 = some true := q0 K0 (by omega)
    simp only [rampartlaw05_DgramEdges.f]
    rw [if_pos b1, e0, Option.bind_some]
  have hb2 : body.size ≤ 500 := by omega
  have hp := at_some v 100 (by omega) (by omega) hv
  have hx : 0 ≤ v % 100 ∧ v % 100 < 100 := by omega
  generalize v % 100 = t at hp hx
  have w1 : wrap64 (1 + t) = 1 + t := by unfold wrap64; omega
  obtain ⟨K1, q1⟩ := uput_ev 1 2 65535 65535 255 255 4294967295 body (by omega) (by omega) hb
  obtain ⟨K2, q2⟩ := cput_ev 65535 65535 255 255 4294967295 body (by omega) hb
  rw [u_max body hb2] at q1
  rw [c_max body hb2] at q2
  obtain ⟨K3, q3⟩ := edges_j0 how hh body hb2 (1 + t) (by omega)
  have hz := udpS_size 1 2 65535 65535 body
  have hz2 := icmpS_size 255 255 4294967295 body
  refine ⟨K1 + K2 + K3, ?_⟩
  generalize hk : K1 + K2 + K3 = k
  have e1 : dgram_PutUDP.f k 1 2 65535 65535 255 255 4294967295 body = some (udpS 1 2 65535 65535 body, 0) := q1 k (by omega)
  have e2 : dgram_PutICMP.f k 65535 65535 255 255 4294967295 body = some (icmpS 255 255 4294967295 body, 0) := q2 k (by omega)
  have e3 : rampartlaw05_DgramEdges.j0 k how body (1 + t) (udpS 1 2 65535 65535 body) false 65535 65535 255 255 4294967295 = some true := q3 k (by omega)
  simp only [rampartlaw05_DgramEdges.f]
  rw [if_neg b1, hp, Option.bind_some, e1, Option.bind_some, e2, Option.bind_some, if_pos rfl, if_pos rfl, if_pos (by rw [hz, hz2]), w1, decide_eq_false (show ¬ ((udpS 1 2 65535 65535 body).size : Int) < 8 by omega)]
  exact e3
end Go.Proofs.Ytgolimfljndnmaa.Pure
