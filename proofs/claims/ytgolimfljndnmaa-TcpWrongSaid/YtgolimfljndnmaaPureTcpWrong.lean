/- What is proved: the plain statement of TcpWrong: one thing wrong in bytes that are a segment: which error. Conditions: numbers of their kinds, sizes as the row gives them, nothing else. -/
import Derived.Test.YtgolimfljndnmaaQWTcpField
import Derived.Test.YtgolimfljndnmaaQWFlipLib
import Derived.Test.YtgolimfljndnmaaQWTcpAwake
import Derived.Test.YtgolimfljndnmaaQWPlaceLib
import Derived.Test.YtgolimfljndnmaaHWx9
import Derived.Test.YtgolimfljndnmaaHWx1
namespace Go.Proofs.Ytgolimfljndnmaa.Pure
open Go.RowKit Go.Proofs.Ytgolimfljndnmaa.QW Go.Proofs.Ytgolimfljndnmaa.HW Go.Proofs.YtgolimfljndnmaaW.PrintWords Go.Proofs.YtgolimfljndnmaaW.PrintLast Go.Proofs.YtgolimfljndnmaaW.PrintMore
set_option linter.unusedVariables false
set_option linter.unusedSimpArgs false
theorem set_list8 (s : ByteArray) (i : Nat) (v : Int) : (bset s i v).data.toList = s.data.toList.set i (UInt8.ofNat v.toNat) := by simp [bset]
theorem list_size (b : ByteArray) : b.data.toList.length = b.size := by simp
theorem byte_in {v : Int} (h : 0 ≤ v ∧ v ≤ 255) : (((UInt8.ofNat v.toNat).toNat : Nat) : Int) = v := by
  rw [UInt8.toNat_ofNat', Nat.mod_eq_of_lt (by omega)]
  omega
theorem set_same (s : ByteArray) (i : Nat) (v : Int) (hi : i < s.size) (hv : 0 ≤ v ∧ v ≤ 255) : bt (bset s i v) (i : Int) = v := by
  rw [bt_get _ i (by rw [bset_size]; exact hi)]
  have e : ∀ (l : List UInt8) (h : i < l.length), l = s.data.toList.set i (UInt8.ofNat v.toNat) → ((l[i]'h).toNat : Int) = v := fun l h hl => by
    subst hl
    rw [List.getElem_set_self]
    exact byte_in hv
  exact e _ _ (set_list8 s i v)
theorem set_else (s : ByteArray) (i j : Nat) (v : Int) (hij : i ≠ j) (hj : j < s.size) : bt (bset s i v) (j : Int) = bt s (j : Int) := by
  rw [bt_get _ j (by rw [bset_size]; exact hj), bt_get s j hj]
  have e : ∀ (l : List UInt8) (h : j < l.length), l = s.data.toList.set i (UInt8.ofNat v.toNat) → l[j]'h = s.data.toList[j]'(by rw [list_size]; exact hj) := fun l h hl => by
    subst hl
    rw [List.getElem_set_ne hij]
  rw [e _ _ (set_list8 s i v)]
theorem cut_byte (s : ByteArray) (n j : Nat) (hj : j < n) (hn : n ≤ s.size) : bt (s.extract 0 n) (j : Int) = bt s (j : Int) := by
  rw [bt_get _ j (by rw [ByteArray.size_extract]; omega), bt_get s j (by omega)]
  congr 2
  simp [ext_list]
theorem other_sum (src dst : Int) (s : ByteArray) (h0 : whole src dst s = 0) (i : Nat) (hi : i < s.size) (v : Int) (hv : 0 ≤ v ∧ v ≤ 255) (hne : v ≠ bt s (i : Int)) : whole src dst (bset s i v) ≠ 0 := by
  intro hw
  have hil : i < s.data.toList.length := by rw [list_size]; exact hi
  have hp : (pseudoT src dst 6 (s.size : Int)).data.toList.length = 12 := by
    have := pseudoT_size src dst 6 (s.size : Int)
    simpa using this
  unfold whole at hw h0
  rw [bset_size, set_list8] at hw
  rw [show (pseudoT src dst 6 (s.size : Int)).data.toList ++ s.data.toList.set i (UInt8.ofNat v.toNat) = ((pseudoT src dst 6 (s.size : Int)).data.toList ++ s.data.toList).set (12 + i) (UInt8.ofNat v.toNat) by
    rw [List.set_append_right _ _ (by omega), hp, Nat.add_sub_cancel_left]] at hw
  refine flip_sum _ (12 + i) _ (by rw [List.length_append]; omega) ?_ h0 hw
  rw [List.getElem_append_right (by omega)]
  simp only [hp, Nat.add_sub_cancel_left]
  intro h
  apply hne
  have e := congrArg (fun u : UInt8 => (u.toNat : Int)) h
  simp only [byte_in hv] at e
  rw [e, bt_get s i hi]
theorem or_one : Go.bits .or .u8 96 1 = 97 := by decide
theorem len_of12 {s : ByteArray} {x : Int} (h : bt s 12 = x) : ((lenT s : Nat) : Int) = x / 16 * 4 := by rw [lenT_int, h]
theorem empty_list : (⟨#[]⟩ : ByteArray).toList = [] := by rw [toList_data]
theorem err_got {src dst : Int} {s : ByteArray} {c : Int} (h : wrongT src dst s = c) (hc : c ≠ 0) : getT src dst s = errT c := by
  unfold getT
  rw [if_neg (by rw [h]; exact hc), h]
theorem wrong_ways (src dst : Int) (s : ByteArray) (hz : 24 ≤ s.size) (hz2 : s.size ≤ 1000) (h12 : bt s 12 = 96) (h13 : bt s 13 ≤ 63) (h0 : whole src dst s = 0) :
    getT src dst (s.extract 0 19) = errT 2 ∧ getT src dst (bset s 12 64) = errT 3 ∧ getT src dst (s.extract 0 22) = errT 2 ∧ getT src dst (bset s 12 (Go.bits .or .u8 (bt s 12) 1)) = errT 3 ∧ getT src dst (bset s 13 64) = errT 3 ∧ getT src dst (bset s 15 ((bt s 15 + 1) % 256)) = errT 4 := by
  refine ⟨err_got ?_ (by decide), err_got ?_ (by decide), err_got ?_ (by decide), err_got ?_ (by decide), err_got ?_ (by decide), err_got ?_ (by decide)⟩
  · have z : (s.extract 0 19).size = 19 := by rw [ByteArray.size_extract]; omega
    unfold wrongT
    rw [if_pos (by omega)]
  · have z := bset_size s 12 64
    have l := len_of12 (set_same s 12 64 (by omega) (by omega))
    unfold wrongT
    rw [if_neg (by omega), if_pos (by omega)]
  · have z : (s.extract 0 22).size = 22 := by rw [ByteArray.size_extract]; omega
    have b : bt (s.extract 0 22) 12 = 96 := (cut_byte s 22 12 (by omega) (by omega)).trans h12
    have l := len_of12 b
    unfold wrongT
    rw [if_neg (by omega), if_neg (by omega), if_pos (by omega)]
  · rw [h12, or_one]
    have z := bset_size s 12 97
    have b : bt (bset s 12 97) 12 = 97 := set_same s 12 97 (by omega) (by omega)
    have l := len_of12 b
    unfold wrongT
    rw [if_neg (by omega), if_neg (by omega), if_neg (by omega), if_pos (Or.inl (by rw [b]; decide))]
  · have z := bset_size s 13 64
    have b : bt (bset s 13 64) 12 = 96 := (set_else s 13 12 64 (by omega) (by omega)).trans h12
    have b3 : bt (bset s 13 64) 13 = 64 := set_same s 13 64 (by omega) (by omega)
    have l := len_of12 b
    unfold wrongT
    rw [if_neg (by omega), if_neg (by omega), if_neg (by omega), if_pos (Or.inr (by rw [b3]; decide))]
  · have hr := bt_range s 15
    obtain ⟨v, hv⟩ : ∃ v, (bt s 15 + 1) % 256 = v := ⟨_, rfl⟩
    have hb : 0 ≤ v ∧ v ≤ 255 ∧ v ≠ bt s 15 := by omega
    rw [hv]
    have z := bset_size s 15 v
    have b : bt (bset s 15 v) 12 = 96 := (set_else s 15 12 v (by omega) (by omega)).trans h12
    have b3 : bt (bset s 15 v) 13 = bt s 13 := set_else s 15 13 v (by omega) (by omega)
    have l := len_of12 b
    have hw := other_sum src dst s h0 15 (by omega) v ⟨hb.1, hb.2.1⟩ hb.2.2
    unfold wrongT
    rw [if_neg (by omega), if_neg (by omega), if_neg (by omega), if_neg (by rw [b, b3]; omega), if_neg (by omega), if_pos hw]
def o4 : ByteArray := ⟨#[1, 1, 1, 1]⟩
theorem o4_size : o4.size = 4 := rfl
theorem set_some (s : ByteArray) (i : Nat) (v : Int) (h : i < s.size) : gosem_cut_init.f s ((i : Nat) : Int) v = some (bset s i v) := by
  unfold gosem_cut_init.f
  rw [if_pos (by omega), Int.toNat_natCast]
theorem wrong_j0 (how : Int) (body : ByteArray) (hh : -9223372036854775808 ≤ how ∧ how ≤ 9223372036854775807) (hb : body.size ≤ 500) : Ev (fun k => rampartlaw04_TcpWrong.j0 k how (segT 1 2 5 80 0 0 0 0 o4 body) false) true := by
  have hc : chkT 5 80 0 0 o4 = true := by decide
  have hget := getT_segT 1 2 5 80 0 0 0 0 o4 body hc (by omega) (by omega) (by rw [o4_size]; omega)
  have hS := segT_size 1 2 5 80 0 0 0 0 o4 body
  have hl := seg_len 1 2 5 80 0 0 0 0 o4 body (by decide) (by decide)
  rw [o4_size] at hS hl
  generalize segT 1 2 5 80 0 0 0 0 o4 body = S at hget hS hl ⊢
  have hok : wrongT 1 2 S = 0 := by
    have h : (getT 1 2 S).2.2.2.2.2.2.2.2 = 0 := by rw [hget]
    unfold getT at h
    split at h
    · assumption
    · exact h
  obtain ⟨a1, a2, a3, a4, a5, a6, a7⟩ := wrongT_zero hok
  have h12 : bt S 12 = 96 := by
    have e := lenT_int S
    have hr := bt_range S 12
    omega
  obtain ⟨w0, w1, w2, w3, w4, w5⟩ := wrong_ways 1 2 S (by omega) (by omega) h12 a6 a7
  have s1 := set_some S 12 64 (by omega)
  have s3 := set_some S 12 (Go.bits .or .u8 (bt S 12) 1) (by omega)
  have s4 := set_some S 13 64 (by omega)
  have s5 := set_some S 15 ((bt S 15 + 1) % 256) (by omega)
  have hp := at_some how 6 (by omega) (by omega) hh
  have hb6 : 0 ≤ how % 6 ∧ how % 6 < 6 := by omega
  obtain ⟨K, q⟩ := tcpAwake_ev
  obtain ⟨K0, q0⟩ := get_ev 1 2 (S.extract 0 19) (by omega) (by omega)
  obtain ⟨K1, q1⟩ := get_ev 1 2 (bset S 12 64) (by omega) (by omega)
  obtain ⟨K2, q2⟩ := get_ev 1 2 (S.extract 0 22) (by omega) (by omega)
  obtain ⟨K3, q3⟩ := get_ev 1 2 (bset S 12 (Go.bits .or .u8 (bt S 12) 1)) (by omega) (by omega)
  obtain ⟨K4, q4⟩ := get_ev 1 2 (bset S 13 64) (by omega) (by omega)
  obtain ⟨K5, q5⟩ := get_ev 1 2 (bset S 15 ((bt S 15 + 1) % 256)) (by omega) (by omega)
  rw [w0] at q0
  rw [w1] at q1
  rw [w2] at q2
  rw [w3] at q3
  rw [w4] at q4
  rw [w5] at q5
  refine ⟨K + K0 + K1 + K2 + K3 + K4 + K5 + 1, fun k hk => ?_⟩
  obtain ⟨k, rfl⟩ : ∃ m, k = m + 1 := ⟨k - 1, by omega⟩
  have e : rampartlaw04_awake.f k = some true := q k (by omega)
  have e0 : tcp_Get.f k 1 2 (S.extract 0 19) = some (errT 2) := q0 k (by omega)
  have e1 : tcp_Get.f k 1 2 (bset S 12 64) = some (errT 3) := q1 k (by omega)
  have e2 : tcp_Get.f k 1 2 (S.extract 0 22) = some (errT 2) := q2 k (by omega)
  have e3 : tcp_Get.f k 1 2 (bset S 12 (Go.bits .or .u8 (bt S 12) 1)) = some (errT 3) := q3 k (by omega)
  have e4 : tcp_Get.f k 1 2 (bset S 13 64) = some (errT 3) := q4 k (by omega)
  have e5 : tcp_Get.f k 1 2 (bset S 15 ((bt S 15 + 1) % 256)) = some (errT 4) := q5 k (by omega)
  have f1 : gosem_cut_init.f S 12 64 = some (bset S 12 64) := s1
  have f3 : gosem_cut_init.f S 12 (Go.bits .or .u8 (bt S 12) 1) = some (bset S 12 (Go.bits .or .u8 (bt S 12) 1)) := s3
  have f4 : gosem_cut_init.f S 13 64 = some (bset S 13 64) := s4
  have f5 : gosem_cut_init.f S 15 ((bt S 15 + 1) % 256) = some (bset S 15 ((bt S 15 + 1) % 256)) := s5
  clear w0 w1 w2 w3 w4 w5 q0 q1 q2 q3 q4 q5 s1 s3 s4 s5
  simp only [rampartlaw04_TcpWrong.j0, Bool.false_eq_true, if_false]
  rw [hp, Option.bind_some]
  by_cases c0 : how % 6 = 0
  · rw [if_pos c0, if_pos (by decide), if_pos (show (19 : Int) ≤ (S.size : Int) by omega), e0, Option.bind_some, if_pos (show (errT 2).2.2.2.2.2.2.2.2 = 2 from rfl), if_pos (show (errT 2).2.2.2.2.2.2.2.1.toList = ([] : List UInt8) from empty_list), if_pos (show (errT 2).1 = 0 from rfl), e, Option.bind_some]
  rw [if_neg c0]
  by_cases c1 : how % 6 = 1
  · rw [if_pos c1, f1, Option.bind_some, e1, Option.bind_some, if_pos (show (errT 3).2.2.2.2.2.2.2.2 = 3 from rfl), if_pos (show (errT 3).2.2.2.2.2.2.2.1.toList = ([] : List UInt8) from empty_list), if_pos (show (errT 3).1 = 0 from rfl), e, Option.bind_some]
  rw [if_neg c1]
  by_cases c2 : how % 6 = 2
  · rw [if_pos c2, if_pos (by decide), if_pos (show (22 : Int) ≤ (S.size : Int) by omega), e2, Option.bind_some, if_pos (show (errT 2).2.2.2.2.2.2.2.2 = 2 from rfl), if_pos (show (errT 2).2.2.2.2.2.2.2.1.toList = ([] : List UInt8) from empty_list), if_pos (show (errT 2).1 = 0 from rfl), e, Option.bind_some]
  rw [if_neg c2]
  by_cases c3 : how % 6 = 3
  · rw [if_pos c3, if_pos (show (12 : Int) < (S.size : Int) by omega), f3, Option.bind_some, e3, Option.bind_some, if_pos (show (errT 3).2.2.2.2.2.2.2.2 = 3 from rfl), if_pos (show (errT 3).2.2.2.2.2.2.2.1.toList = ([] : List UInt8) from empty_list), if_pos (show (errT 3).1 = 0 from rfl), e, Option.bind_some]
  rw [if_neg c3]
  by_cases c4 : how % 6 = 4
  · rw [if_pos c4, f4, Option.bind_some, e4, Option.bind_some, if_pos (show (errT 3).2.2.2.2.2.2.2.2 = 3 from rfl), if_pos (show (errT 3).2.2.2.2.2.2.2.1.toList = ([] : List UInt8) from empty_list), if_pos (show (errT 3).1 = 0 from rfl), e, Option.bind_some]
  rw [if_neg c4, if_pos (show (15 : Int) < (S.size : Int) by omega), f5, Option.bind_some, e5, Option.bind_some, if_pos (show (errT 4).2.2.2.2.2.2.2.2 = 4 from rfl), if_pos (show (errT 4).2.2.2.2.2.2.2.1.toList = ([] : List UInt8) from empty_list), if_pos (show (errT 4).1 = 0 from rfl), e, Option.bind_some]
theorem TcpWrong : rampartlaw04_TcpWrong.Pure := by
  intro how body hh hb
  have hh := bounds_i64 hh
  obtain ⟨K, q⟩ := tcpAwake_ev
  by_cases b1 : (body.size : Int) > 500
  · refine ⟨K, ?_⟩
    have e : rampartlaw04_awake.f K = some true := q K (by omega)
    simp only [rampartlaw04_TcpWrong.f]
    rw [if_pos b1, e, Option.bind_some]
  obtain ⟨K1, q1⟩ := put_ev 1 2 5 80 0 0 0 0 o4 body (by omega) (by omega) (by omega) (by omega) (by rw [o4_size]; omega) hb
  have hput : putT 1 2 5 80 0 0 0 0 o4 body = (segT 1 2 5 80 0 0 0 0 o4 body, 0) := by
    unfold putT
    rw [if_pos (show chkT 5 80 0 0 o4 = true by decide), if_neg (by rw [o4_size]; omega)]
  rw [hput] at q1
  obtain ⟨K2, q2⟩ := wrong_j0 how body hh (by omega)
  have hS := segT_size 1 2 5 80 0 0 0 0 o4 body
  rw [o4_size] at hS
  have w : wrap64 (24 + (body.size : Int)) = ((24 + body.size : Nat) : Int) := by unfold wrap64; omega
  refine ⟨K1 + K2, ?_⟩
  generalize hk : K1 + K2 = k
  have e1 : tcp_Put.f k 1 2 5 80 0 0 0 0 (⟨#[1, 1, 1, 1]⟩ : ByteArray) body = some (segT 1 2 5 80 0 0 0 0 o4 body, 0) := q1 k (by omega)
  have e2 : rampartlaw04_TcpWrong.j0 k how (segT 1 2 5 80 0 0 0 0 o4 body) false = some true := q2 k (by omega)
  have hne : (((segT 1 2 5 80 0 0 0 0 o4 body).size : Int) != ((24 + body.size : Nat) : Int)) = false := by rw [hS]; simp
  simp only [rampartlaw04_TcpWrong.f]
  rw [if_neg b1, e1, Option.bind_some, if_pos rfl, w, hne]
  exact e2
end Go.Proofs.Ytgolimfljndnmaa.Pure
