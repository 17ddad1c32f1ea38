/- What is proved: what Put of UDP and ICMP makes is got again; with a byte of the body turned it is none. Conditions: those that stand in each theorem. -/
import Derived.Test.YtgolimfljndnmaaQFDg
import Derived.Test.YtgolimfljndnmaaQFFieldLib
import Derived.Test.YtgolimfljndnmaaQFFlipLib
import Derived.Test.YtgolimfljndnmaaHFx1
namespace Go.Proofs.Ytgolimfljndnmaa.QF
open Go.RowKit Go.Proofs.Ytgolimfljndnmaa.HF Go.Proofs.YtgolimfljndnmaaW.PrintWords Go.Proofs.YtgolimfljndnmaaW.PrintLast Go.Proofs.YtgolimfljndnmaaW.PrintMore
set_option linter.unusedVariables false
set_option linter.unusedSimpArgs false
theorem set_list (s : ByteArray) (i : Nat) (v : Int) : (bset s i v).data.toList = s.data.toList.set i (UInt8.ofNat v.toNat) := by simp [bset]
theorem set_size8 (s : ByteArray) (i : Nat) (v : Int) : (bset s i v).size = s.size := by
  show (s.data.toList.set i _).toArray.size = _
  simp
theorem bits8_in (op : BinOp) (x y : Int) : 0 ≤ Go.bits op .u8 x y ∧ Go.bits op .u8 x y < 256 := by
  unfold Go.bits
  split <;> (try rw [IntKind.wrap_u8]) <;> omega
theorem turned_ne {s : ByteArray} {i : Nat} (hi : i < s.size) (hil : i < s.data.toList.length) {m : Int} (h0 : 0 ≤ m) (h1 : m < 8) : UInt8.ofNat (Go.bits .xor .u8 (bt s (i : Int)) (shl .u8 1 m)).toNat ≠ s.data.toList[i] := by
  have e := bt_get s i hi
  intro h
  have hr := bits8_in .xor (bt s (i : Int)) (shl .u8 1 m)
  have hx := xor_ne (s.data.toList[i]) m h0 h1
  rw [← e] at hx
  apply hx
  have := congrArg UInt8.toNat h
  rw [UInt8.toNat_ofNat', Nat.mod_eq_of_lt (by omega)] at this
  rw [e] at hr ⊢
  rw [e] at this
  omega
theorem red_more {T : Int} (h : 0 ≤ T) (h0 : red T = 65535) : red (T + 65535) = 65535 := by unfold red at *; (repeat' split at h0) <;> (repeat' split) <;> omega
/-- 65535 in place of two bytes 0 does as well as they. -/
theorem fill_max (a b : List UInt8) (ha : a.length % 2 = 0) (h : sumOf (a ++ ([0, 0] ++ b)) = 0) : sumOf (a ++ ((bigS 65535 2).data.toList ++ b)) = 0 := by
  have p1 := wsum_nonneg a 0
  have p2 := wsum_nonneg b 0
  rw [sumOf, wsum_mid a [0, 0] b ha rfl, zero_two, Int.add_zero] at h
  rw [sumOf, wsum_mid a _ b ha (by rw [bigS_length]), wsum_big2 65535 0 (by omega) (by omega) (by omega), show wsum a 0 + 65535 + wsum b 0 = wsum a 0 + wsum b 0 + 65535 by omega, red_more (by omega) (by omega)]
  rfl
theorem fill_fix (a b : List UInt8) (ha : a.length % 2 = 0) : sumOf (a ++ ((bigS (fixU (sumOf (a ++ ([0, 0] ++ b)))) 2).data.toList ++ b)) = 0 := by
  unfold fixU
  by_cases h : sumOf (a ++ ([0, 0] ++ b)) = 0
  · rw [if_pos h]; exact fill_max a b ha h
  · rw [if_neg h]; exact sum_fill a b ha
theorem fix_range (v : Int) (h : 0 ≤ v ∧ v ≤ 65535) : 1 ≤ fixU v ∧ fixU v ≤ 65535 := by unfold fixU; split <;> omega
theorem len_list {α : Type} {l : List α} {n : Nat} (h : l.length = n) : l.length = n := h
theorem pseudoU_length (src dst n : Int) : (pseudoU src dst n).data.toList.length = 12 := by
  have := pseudoU_size src dst n
  simpa using this
theorem frontU_length (s0 s1 : Int) (n : Nat) : (frontU s0 s1 n).data.toList.length = 6 := by
  have := frontU_size s0 s1 n
  simpa using this
theorem udp_list (src dst s0 s1 : Int) (body : ByteArray) : (udpS src dst s0 s1 body).data.toList = (frontU s0 s1 (8 + body.size)).data.toList ++ ((bigS (fixU (sumU src dst s0 s1 body)) 2).data.toList ++ body.data.toList) := by
  simp only [udpS, app_list, List.append_assoc]
theorem sumU_list (src dst s0 s1 : Int) (body : ByteArray) : sumU src dst s0 s1 body = sumOf (((pseudoU src dst ((8 + body.size : Nat) : Int)).data.toList ++ (frontU s0 s1 (8 + body.size)).data.toList) ++ ([0, 0] ++ body.data.toList)) := by
  unfold sumU
  rw [z2_list, List.append_assoc]
theorem whole_ok (src dst s0 s1 : Int) (body : ByteArray) : wholeU src dst (udpS src dst s0 s1 body) = 0 := by
  unfold wholeU
  rw [udpS_size, udp_list, sumU_list, ← List.append_assoc]
  exact fill_fix _ _ (by rw [List.length_append, pseudoU_length, frontU_length])
/-- A text that begins as a message of UDP of its size, with another sum than 0 in it: it is one, or its sum is wrong. -/
theorem shaped (src dst s0 s1 x : Int) (hx : 1 ≤ x ∧ x ≤ 65535) (T : ByteArray) (B : List UInt8) (n : Nat) (hn : B.length = n) (h2 : 8 + n ≤ 2000) (hT : T.data.toList = (frontU s0 s1 (8 + n)).data.toList ++ ((bigS x 2).data.toList ++ B)) :
    T.size = 8 + n ∧ wrongU src dst T = if wholeU src dst T ≠ 0 then 4 else 0 := by
  have hz : T.size = 8 + n := by
    have : T.data.toList.length = 8 + n := by rw [hT, List.length_append, List.length_append, frontU_length, bigS_length, hn]; omega
    simpa using this
  have hF : (frontU s0 s1 (8 + n)).data.toList = ((bigS s0 2).data.toList ++ (bigS s1 2).data.toList) ++ (bigS ((8 + n : Nat) : Int) 2).data.toList := by
    simp only [frontU, app_list]
  have l4 : T.data.toList = ((bigS s0 2).data.toList ++ (bigS s1 2).data.toList) ++ ((bigS ((8 + n : Nat) : Int) 2).data.toList ++ ((bigS x 2).data.toList ++ B)) := by
    rw [hT, hF, List.append_assoc]
  have c4 : (T.extract 4 6).data.toList = (bigS ((8 + n : Nat) : Int) 2).data.toList := cut_at l4 (by rw [List.length_append, bigS_length, bigS_length]) (by rw [bigS_length])
  have c6 : (T.extract 6 8).data.toList = (bigS x 2).data.toList := cut_at hT (by rw [frontU_length]) (by rw [bigS_length])
  have e4 : numOf (T.extract 4 6) = ((8 + n : Nat) : Int) := by
    rw [numOf_list c4 (by omega), show (256 : Int) ^ 2 = 65536 from rfl]
    omega
  have nb : ¬ bare T := by
    intro h
    unfold bare at h
    rw [c6] at h
    have e := numOf_list (s := z2) (v := x) (n := 2) (by rw [z2_list, h]) (by omega)
    rw [show numOf z2 = 0 by decide, show (256 : Int) ^ 2 = 65536 from rfl] at e
    omega
  refine ⟨hz, ?_⟩
  unfold wrongU
  rw [if_neg (by omega), if_neg (by rw [e4, hz]; omega), if_neg (by omega)]
  by_cases hw : wholeU src dst T ≠ 0
  · rw [if_pos ⟨nb, hw⟩, if_pos hw]
  · rw [if_neg (fun h => hw h.2), if_neg hw]
theorem list_length (b : ByteArray) : b.data.toList.length = b.size := by simp
theorem sumU_range (src dst s0 s1 : Int) (body : ByteArray) : 0 ≤ sumU src dst s0 s1 body ∧ sumU src dst s0 s1 body ≤ 65535 := sumOf_range _
theorem u_right (src dst s0 s1 : Int) (body : ByteArray) (h2 : 8 + body.size ≤ 2000) : wrongU src dst (udpS src dst s0 s1 body) = 0 := by
  have h := (shaped src dst s0 s1 _ (fix_range _ (sumU_range src dst s0 s1 body)) (udpS src dst s0 s1 body) body.data.toList body.size (list_length body) h2 (udp_list src dst s0 s1 body)).2
  rw [h, if_neg (by rw [whole_ok]; decide)]
theorem u_back (src dst s0 s1 : Int) (body : ByteArray) (h0 : 0 ≤ s0 ∧ s0 ≤ 65535) (h1 : 0 ≤ s1 ∧ s1 ≤ 65535) (h2 : 8 + body.size ≤ 2000) : getU src dst (udpS src dst s0 s1 body) = (s0, s1, 0, 0, 0, body, 0) := by
  have hw := u_right src dst s0 s1 body h2
  have hl := udp_list src dst s0 s1 body
  have hF : (frontU s0 s1 (8 + body.size)).data.toList = ((bigS s0 2).data.toList ++ (bigS s1 2).data.toList) ++ (bigS ((8 + body.size : Nat) : Int) 2).data.toList := by
    simp only [frontU, app_list]
  generalize udpS src dst s0 s1 body = s at hw hl ⊢
  have l0 : s.data.toList = [] ++ ((bigS s0 2).data.toList ++ ((bigS s1 2).data.toList ++ ((bigS ((8 + body.size : Nat) : Int) 2).data.toList ++ ((bigS (fixU (sumU src dst s0 s1 body)) 2).data.toList ++ body.data.toList)))) := by
    rw [hl, hF]; simp only [List.append_assoc, List.nil_append]
  have l2 : s.data.toList = (bigS s0 2).data.toList ++ ((bigS s1 2).data.toList ++ ((bigS ((8 + body.size : Nat) : Int) 2).data.toList ++ ((bigS (fixU (sumU src dst s0 s1 body)) 2).data.toList ++ body.data.toList))) := by
    rw [hl, hF]; simp only [List.append_assoc]
  have l8 : s.data.toList = ((frontU s0 s1 (8 + body.size)).data.toList ++ (bigS (fixU (sumU src dst s0 s1 body)) 2).data.toList) ++ body.data.toList := by
    rw [hl]; simp only [List.append_assoc]
  have c0 : (s.extract 0 2).data.toList = (bigS s0 2).data.toList := cut_at l0 List.length_nil (by rw [bigS_length])
  have c2 : (s.extract 2 4).data.toList = (bigS s1 2).data.toList := cut_at l2 (by rw [bigS_length]) (by rw [bigS_length])
  have c8 : s.extract 8 s.size = body := ba_ext (cut_end l8 (by rw [List.length_append, frontU_length, bigS_length]))
  unfold getU
  rw [if_pos hw]
  unfold okU
  rw [c8, numOf_list c0 (by omega), numOf_list c2 (by omega), show (256 : Int) ^ 2 = 65536 from rfl, Int.emod_eq_of_lt (by omega) (by omega), Int.emod_eq_of_lt (by omega) (by omega)]
theorem err4U (src dst : Int) (s : ByteArray) (h : wrongU src dst s = 4) : (getU src dst s).2.2.2.2.2.2 = 4 := by
  unfold getU
  rw [h]
  rfl
theorem err4C (s : ByteArray) (h : wrongC s = 4) : (getC s).2.2.2.2.2.2 = 4 := by
  unfold getC
  rw [h]
  rfl
/-- A byte of the body turned: the sum is wrong. -/
theorem u_flip (src dst s0 s1 : Int) (body : ByteArray) (h2 : 8 + body.size ≤ 2000) (j : Nat) (hj : j < body.size) (m : Int) (hm : 0 ≤ m) (hm2 : m < 8) :
    wrongU src dst (bset (udpS src dst s0 s1 body) (8 + j) (Go.bits .xor .u8 (bt (udpS src dst s0 s1 body) ((8 + j : Nat) : Int)) (shl .u8 1 m))) = 4 := by
  have hl := udp_list src dst s0 s1 body
  have hz := udpS_size src dst s0 s1 body
  have h0 := whole_ok src dst s0 s1 body
  have hx := fix_range _ (sumU_range src dst s0 s1 body)
  generalize fixU (sumU src dst s0 s1 body) = x at hl hx
  generalize udpS src dst s0 s1 body = s at hl hz h0 ⊢
  obtain ⟨c, hc⟩ : ∃ c, UInt8.ofNat (Go.bits .xor .u8 (bt s ((8 + j : Nat) : Int)) (shl .u8 1 m)).toNat = c := ⟨_, rfl⟩
  have hL := set_list s (8 + j) (Go.bits .xor .u8 (bt s ((8 + j : Nat) : Int)) (shl .u8 1 m))
  have hZ := set_size8 s (8 + j) (Go.bits .xor .u8 (bt s ((8 + j : Nat) : Int)) (shl .u8 1 m))
  have hil : 8 + j < s.data.toList.length := by rw [list_length]; omega
  have hne := turned_ne (s := s) (i := 8 + j) (by omega) hil hm hm2
  rw [hc] at hL hne
  generalize bset s (8 + j) (Go.bits .xor .u8 (bt s ((8 + j : Nat) : Int)) (shl .u8 1 m)) = u at hL hZ ⊢
  have hu : u.data.toList = (frontU s0 s1 (8 + body.size)).data.toList ++ ((bigS x 2).data.toList ++ body.data.toList.set j c) := by
    rw [hL, hl, ← List.append_assoc, List.set_append_right _ _ (by rw [List.length_append, frontU_length, bigS_length]; omega), List.length_append, frontU_length, bigS_length, show 8 + j - (6 + 2) = j by omega, List.append_assoc]
  have h := (shaped src dst s0 s1 x hx u (body.data.toList.set j c) body.size (by rw [List.length_set, list_length]) h2 hu).2
  rw [h, if_pos]
  intro hw
  unfold wholeU at hw h0
  rw [hZ, hL] at hw
  have hp := pseudoU_length src dst (s.size : Int)
  rw [show (pseudoU src dst (s.size : Int)).data.toList ++ s.data.toList.set (8 + j) c = ((pseudoU src dst (s.size : Int)).data.toList ++ s.data.toList).set (12 + (8 + j)) c by
    rw [List.set_append_right _ _ (by omega), hp, Nat.add_sub_cancel_left]] at hw
  refine flip_sum _ (12 + (8 + j)) _ (by rw [List.length_append]; omega) ?_ h0 hw
  rw [List.getElem_append_right (by omega)]
  simp only [hp, Nat.add_sub_cancel_left]
  exact hne
theorem frontC_length (s2 s3 : Int) : (frontC s2 s3).data.toList.length = 2 := by
  have := frontC_size s2 s3
  simpa using this
theorem icmp_list (s2 s3 s4 : Int) (body : ByteArray) : (icmpS s2 s3 s4 body).data.toList = (frontC s2 s3).data.toList ++ ((bigS (sumC s2 s3 s4 body) 2).data.toList ++ (backC s4 body).data.toList) := by
  simp only [icmpS, app_list, List.append_assoc]
theorem icmp_ok (s2 s3 s4 : Int) (body : ByteArray) : sumOf (icmpS s2 s3 s4 body).data.toList = 0 := by
  rw [icmp_list]
  unfold sumC
  rw [z2_list]
  exact sum_fill _ _ (by rw [frontC_length])
theorem c_right (s2 s3 s4 : Int) (body : ByteArray) (h2 : 8 + body.size ≤ 2000) : wrongC (icmpS s2 s3 s4 body) = 0 := by
  unfold wrongC
  rw [icmpS_size, if_neg (by omega), if_neg (by omega), if_neg (by rw [icmp_ok]; decide)]
theorem one_byte (v : Int) (h : 0 ≤ v ∧ v ≤ 255) : (bigS v 1).data.toList = [UInt8.ofNat v.toNat] := by
  have e0 : (bigS v 0).data.toList = [] := by simp [bigS, bigL, strOfNums]
  rw [bigS_cons, e0, show (256 : Int) ^ 0 = 1 from rfl, Int.ediv_one, Int.emod_eq_of_lt (by omega) (by omega)]
theorem byte_num (v : Int) (h : 0 ≤ v ∧ v ≤ 255) : (((UInt8.ofNat v.toNat).toNat : Nat) : Int) = v := by
  rw [UInt8.toNat_ofNat', Nat.mod_eq_of_lt (by omega)]
  omega
theorem c_back (s2 s3 s4 : Int) (body : ByteArray) (h2 : 0 ≤ s2 ∧ s2 ≤ 255) (h3 : 0 ≤ s3 ∧ s3 ≤ 255) (h4 : 0 ≤ s4 ∧ s4 ≤ 4294967295) (hb : 8 + body.size ≤ 2000) : getC (icmpS s2 s3 s4 body) = (0, 0, s2, s3, s4, body, 0) := by
  have hw := c_right s2 s3 s4 body hb
  have hl := icmp_list s2 s3 s4 body
  have hB : (backC s4 body).data.toList = (bigS s4 4).data.toList ++ body.data.toList := by simp only [backC, app_list]
  have hF : (frontC s2 s3).data.toList = [UInt8.ofNat s2.toNat, UInt8.ofNat s3.toNat] := by
    simp only [frontC, app_list, one_byte s2 h2, one_byte s3 h3]; rfl
  generalize icmpS s2 s3 s4 body = s at hw hl ⊢
  have l0 : s.data.toList = [] ++ UInt8.ofNat s2.toNat :: (UInt8.ofNat s3.toNat :: ((bigS (sumC s2 s3 s4 body) 2).data.toList ++ (backC s4 body).data.toList)) := by
    rw [hl, hF]; rfl
  have l1 : s.data.toList = [UInt8.ofNat s2.toNat] ++ UInt8.ofNat s3.toNat :: ((bigS (sumC s2 s3 s4 body) 2).data.toList ++ (backC s4 body).data.toList) := by
    rw [hl, hF]; rfl
  have l4 : s.data.toList = ((frontC s2 s3).data.toList ++ (bigS (sumC s2 s3 s4 body) 2).data.toList) ++ ((bigS s4 4).data.toList ++ body.data.toList) := by
    rw [hl, hB]; simp only [List.append_assoc]
  have l8 : s.data.toList = (((frontC s2 s3).data.toList ++ (bigS (sumC s2 s3 s4 body) 2).data.toList) ++ (bigS s4 4).data.toList) ++ body.data.toList := by
    rw [l4]; simp only [List.append_assoc]
  have b0 : bt s 0 = s2 := by
    have := bt_at_list (i := 0) l0 List.length_nil
    rw [byte_num s2 h2] at this
    exact this
  have b1 : bt s 1 = s3 := by
    have := bt_at_list (i := 1) l1 rfl
    rw [byte_num s3 h3] at this
    exact this
  have c4 : (s.extract 4 8).data.toList = (bigS s4 4).data.toList := cut_at l4 (by rw [List.length_append, frontC_length, bigS_length]) (by rw [bigS_length])
  have c8 : s.extract 8 s.size = body := ba_ext (cut_end l8 (by rw [List.length_append, List.length_append, frontC_length, bigS_length, bigS_length]))
  unfold getC
  rw [if_pos hw]
  unfold okC
  rw [c8, numOf_list c4 (by omega), b0, b1, show (256 : Int) ^ 4 = 4294967296 from rfl, Int.emod_eq_of_lt (by omega) (by omega), Int.emod_eq_of_lt (by omega) (by omega)]
theorem c_flip (s2 s3 s4 : Int) (body : ByteArray) (h2 : 8 + body.size ≤ 2000) (j : Nat) (hj : j < body.size) (m : Int) (hm : 0 ≤ m) (hm2 : m < 8) :
    wrongC (bset (icmpS s2 s3 s4 body) (8 + j) (Go.bits .xor .u8 (bt (icmpS s2 s3 s4 body) ((8 + j : Nat) : Int)) (shl .u8 1 m))) = 4 := by
  have hz := icmpS_size s2 s3 s4 body
  have h0 := icmp_ok s2 s3 s4 body
  generalize icmpS s2 s3 s4 body = s at hz h0 ⊢
  have hil : 8 + j < s.data.toList.length := by rw [list_length]; omega
  have hne := turned_ne (s := s) (i := 8 + j) (by omega) hil hm hm2
  unfold wrongC
  rw [set_size8, set_list, if_neg (by omega), if_neg (by omega), if_pos (flip_sum _ (8 + j) _ hil hne h0)]
end Go.Proofs.Ytgolimfljndnmaa.QF
