/- What is proved: the plain statement of Ipv4Wrong: one thing wrong in bytes that are a datagram: which error. Conditions: numbers of their kinds, sizes as the row gives them, nothing else. -/
import Derived.Test.YtgolimfljndnmaaQVIpField
import Derived.Test.YtgolimfljndnmaaQVFlipLib
import Derived.Test.YtgolimfljndnmaaQVIpAwake
import Derived.Test.YtgolimfljndnmaaQVPlaceLib
import Derived.Test.YtgolimfljndnmaaHVx8
import Derived.Test.YtgolimfljndnmaaHVx1
namespace Go.Proofs.Ytgolimfljndnmaa.Pure
open Go.RowKit Go.Proofs.Ytgolimfljndnmaa.QV Go.Proofs.Ytgolimfljndnmaa.HV Go.Proofs.YtgolimfljndnmaaW.PrintWords Go.Proofs.YtgolimfljndnmaaW.PrintLast Go.Proofs.YtgolimfljndnmaaW.PrintMore
set_option linter.unusedVariables false
set_option linter.unusedSimpArgs false
theorem set_list8 (s : ByteArray) (i : Nat) (v : Int) : (bset s i v).data.toList = s.data.toList.set i (UInt8.ofNat v.toNat) := by simp [bset]
theorem list_size (b : ByteArray) : b.data.toList.length = b.size := by simp
theorem byte_in {v : Int} (h : 0 ≤ v ∧ v ≤ 255) : (((UInt8.ofNat v.toNat).toNat : Nat) : Int) = v := by
  rw [UInt8.toNat_ofNat', Nat.mod_eq_of_lt (by omega)]
  omega
theorem set_same (s : ByteArray) (i : Nat) (v : Int) (hi : i < s.size) (hv : 0 ≤ v ∧ v ≤ 255) : bt (bset s i v) (i : Int) = v := by
  rw [bt_get _ i (by rw [bset_size]; exact hi)]
  have e : ∀ (l : List UInt8) (h : i < l.length), l = s.data.toList.set i (UInt8.ofNat v.toNat) → ((l[i]'h).toNat : Int) = v := fun l h hl => by
    subst hl
    rw [List.getElem_set_self]
    exact byte_in hv
  exact e _ _ (set_list8 s i v)
theorem set_else (s : ByteArray) (i j : Nat) (v : Int) (hij : i ≠ j) (hj : j < s.size) : bt (bset s i v) (j : Int) = bt s (j : Int) := by
  rw [bt_get _ j (by rw [bset_size]; exact hj), bt_get s j hj]
  have e : ∀ (l : List UInt8) (h : j < l.length), l = s.data.toList.set i (UInt8.ofNat v.toNat) → l[j]'h = s.data.toList[j]'(by rw [list_size]; exact hj) := fun l h hl => by
    subst hl
    rw [List.getElem_set_ne hij]
  rw [e _ _ (set_list8 s i v)]
theorem cut_byte (s : ByteArray) (n j : Nat) (hj : j < n) (hn : n ≤ s.size) : bt (s.extract 0 n) (j : Int) = bt s (j : Int) := by
  rw [bt_get _ j (by rw [ByteArray.size_extract]; omega), bt_get s j (by omega)]
  congr 2
  simp [ext_list]
theorem all_bt (s : ByteArray) (h : 4 ≤ s.size) : allI s = bt s 2 * 256 + bt s 3 := by
  have hl : s.data.toList.length = s.size := list_size s
  have e : (s.extract 2 4).data.toList = [s.data.toList[2]'(by omega), s.data.toList[3]'(by omega)] := by
    rw [ext_list, List.drop_eq_getElem_cons (show 2 < s.data.toList.length by omega), List.drop_eq_getElem_cons (show 2 + 1 < s.data.toList.length by omega)]
    rfl
  have hz : (s.extract 2 4).size = 2 := by rw [ByteArray.size_extract]; omega
  have b2 : bt s 2 = _ := bt_get s 2 (by omega)
  have b3 : bt s 3 = _ := bt_get s 3 (by omega)
  unfold allI
  rw [numOf_short _ (by omega), e, b2, b3]
  simp [numL]
theorem or_128 (x : Int) (h : 0 ≤ x ∧ x ≤ 255) : Go.bits .or .u8 x 128 / 128 = 1 ∧ 0 ≤ Go.bits .or .u8 x 128 ∧ Go.bits .or .u8 x 128 ≤ 255 := by
  have key : ∀ b : Fin 256, Go.bits .or .u8 ((b.val : Nat) : Int) 128 / 128 = 1 ∧ 0 ≤ Go.bits .or .u8 ((b.val : Nat) : Int) 128 ∧ Go.bits .or .u8 ((b.val : Nat) : Int) 128 ≤ 255 := by decide +kernel
  have := key ⟨x.toNat, by omega⟩
  have e : ((x.toNat : Nat) : Int) = x := by omega
  simpa [e] using this
theorem pre_list (s : ByteArray) (n : Nat) : (s.extract 0 n).data.toList = s.data.toList.take n := by rw [ext_list]; simp
theorem other_sum (s : ByteArray) (m : Nat) (hm : m ≤ s.size) (h0 : sumOf (s.extract 0 m).data.toList = 0) (i : Nat) (hi : i < m) (v : Int) (hv : 0 ≤ v ∧ v ≤ 255) (hne : v ≠ bt s (i : Int)) : sumOf ((bset s i v).extract 0 m).data.toList ≠ 0 := by
  have hil : i < s.data.toList.length := by rw [list_size]; omega
  have e1 : ((bset s i v).extract 0 m).data.toList = ((s.extract 0 m).data.toList).set i (UInt8.ofNat v.toNat) := by
    rw [pre_list, pre_list, set_list8, List.take_set]
  have hlen : i < (s.extract 0 m).data.toList.length := by rw [pre_list, List.length_take, list_size]; omega
  rw [e1]
  refine flip_sum _ i _ hlen ?_ h0
  intro h
  apply hne
  have e2 : (s.extract 0 m).data.toList[i] = s.data.toList[i] := by
    have : ∀ (l : List UInt8) (hl : i < l.length), l = s.data.toList.take m → l[i] = s.data.toList[i] := fun l hl hq => by
      subst hq
      rw [List.getElem_take]
    exact this _ hlen (pre_list s m)
  rw [e2] at h
  have e := congrArg (fun u : UInt8 => (u.toNat : Int)) h
  simp only [byte_in hv] at e
  rw [e, bt_get s i (by omega)]
theorem empty_list : (⟨#[]⟩ : ByteArray).toList = [] := by rw [toList_data]
theorem err_got {s : ByteArray} {c : Int} (h : wrongI s = c) (hc : c ≠ 0) : getI s = errI c := by
  unfold getI
  rw [if_neg (by rw [h]; exact hc), h]
theorem len_of0 {s : ByteArray} {x : Int} (h : bt s 0 = x) : ((lenI s : Nat) : Int) = 4 * (x % 16) := by rw [lenI_int, h]
theorem wrong_ways (S : ByteArray) (n : Nat) (hn : 1 ≤ n ∧ n ≤ 500) (hz : S.size = 24 + n) (h0 : bt S 0 = 70) (ha : allI S = ((24 + n : Nat) : Int)) (h6 : bt S 6 / 128 = 0) (hs : sumOf (S.extract 0 24).data.toList = 0) :
    getI (bset S 0 102) = errI 3 ∧ getI (bset S 0 68) = errI 3 ∧ getI (S.extract 0 22) = errI 2 ∧ getI (bset (bset S 2 0) 3 23) = errI 3 ∧ getI (S.extract 0 (S.size - 1)) = errI 2 ∧ getI (bset S 6 (Go.bits .or .u8 (bt S 6) 128)) = errI 3 ∧ getI (bset S 8 ((bt S 8 + 1) % 256)) = errI 4 := by
  have ab := all_bt S (by omega)
  refine ⟨err_got ?_ (by decide), err_got ?_ (by decide), err_got ?_ (by decide), err_got ?_ (by decide), err_got ?_ (by decide), err_got ?_ (by decide), err_got ?_ (by decide)⟩
  · have z := bset_size S 0 102
    have b : bt (bset S 0 102) 0 = 102 := set_same S 0 102 (by omega) (by omega)
    unfold wrongI
    rw [if_neg (by omega), if_pos (Or.inl (by rw [b]; decide))]
  · have z := bset_size S 0 68
    have b : bt (bset S 0 68) 0 = 68 := set_same S 0 68 (by omega) (by omega)
    have l := len_of0 b
    unfold wrongI
    rw [if_neg (by omega), if_pos (Or.inr (by omega))]
  · have z : (S.extract 0 22).size = 22 := by rw [ByteArray.size_extract]; omega
    have b : bt (S.extract 0 22) 0 = 70 := (cut_byte S 22 0 (by omega) (by omega)).trans h0
    have l := len_of0 b
    unfold wrongI
    rw [if_neg (by omega), if_neg (by rw [b]; omega), if_pos (by omega)]
  · have z1 := bset_size S 2 0
    have z := bset_size (bset S 2 0) 3 23
    have b : bt (bset (bset S 2 0) 3 23) 0 = 70 := (set_else (bset S 2 0) 3 0 23 (by omega) (by omega)).trans ((set_else S 2 0 0 (by omega) (by omega)).trans h0)
    have b2 : bt (bset (bset S 2 0) 3 23) 2 = 0 := (set_else (bset S 2 0) 3 2 23 (by omega) (by omega)).trans (set_same S 2 0 (by omega) (by omega))
    have b3 : bt (bset (bset S 2 0) 3 23) 3 = 23 := set_same (bset S 2 0) 3 23 (by omega) (by omega)
    have l := len_of0 b
    have a := all_bt (bset (bset S 2 0) 3 23) (by omega)
    unfold wrongI
    rw [if_neg (by omega), if_neg (by rw [b]; omega), if_neg (by omega), if_pos (by omega)]
  · have z : (S.extract 0 (S.size - 1)).size = S.size - 1 := by rw [ByteArray.size_extract]; omega
    have b : bt (S.extract 0 (S.size - 1)) 0 = 70 := (cut_byte S (S.size - 1) 0 (by omega) (by omega)).trans h0
    have b2 : bt (S.extract 0 (S.size - 1)) 2 = bt S 2 := cut_byte S (S.size - 1) 2 (by omega) (by omega)
    have b3 : bt (S.extract 0 (S.size - 1)) 3 = bt S 3 := cut_byte S (S.size - 1) 3 (by omega) (by omega)
    have l := len_of0 b
    have a := all_bt (S.extract 0 (S.size - 1)) (by omega)
    rw [b2, b3, ← ab, ha] at a
    unfold wrongI
    rw [if_neg (by omega), if_neg (by rw [b]; omega), if_neg (by omega), if_neg (by omega), if_pos (by omega)]
  · have hr := bt_range S 6
    obtain ⟨o1, o2, o3⟩ := or_128 (bt S 6) hr
    generalize Go.bits .or .u8 (bt S 6) 128 = v at o1 o2 o3 ⊢
    have z := bset_size S 6 v
    have b : bt (bset S 6 v) 0 = 70 := (set_else S 6 0 v (by omega) (by omega)).trans h0
    have b2 : bt (bset S 6 v) 2 = bt S 2 := set_else S 6 2 v (by omega) (by omega)
    have b3 : bt (bset S 6 v) 3 = bt S 3 := set_else S 6 3 v (by omega) (by omega)
    have b6 : bt (bset S 6 v) 6 = v := set_same S 6 v (by omega) ⟨o2, o3⟩
    have l := len_of0 b
    have a := all_bt (bset S 6 v) (by omega)
    rw [b2, b3, ← ab, ha] at a
    unfold wrongI
    rw [if_neg (by omega), if_neg (by rw [b]; omega), if_neg (by omega), if_neg (by omega), if_neg (by omega), if_pos (by rw [b6]; exact o1)]
  · have hr := bt_range S 8
    obtain ⟨v, hv⟩ : ∃ v, (bt S 8 + 1) % 256 = v := ⟨_, rfl⟩
    have hb : 0 ≤ v ∧ v ≤ 255 ∧ v ≠ bt S 8 := by omega
    rw [hv]
    have z := bset_size S 8 v
    have b : bt (bset S 8 v) 0 = 70 := (set_else S 8 0 v (by omega) (by omega)).trans h0
    have b2 : bt (bset S 8 v) 2 = bt S 2 := set_else S 8 2 v (by omega) (by omega)
    have b3 : bt (bset S 8 v) 3 = bt S 3 := set_else S 8 3 v (by omega) (by omega)
    have b6 : bt (bset S 8 v) 6 = bt S 6 := set_else S 8 6 v (by omega) (by omega)
    have l := len_of0 b
    have l24 : lenI (bset S 8 v) = 24 := by omega
    have a := all_bt (bset S 8 v) (by omega)
    rw [b2, b3, ← ab, ha] at a
    have hw := other_sum S 24 (by omega) hs 8 (by omega) v ⟨hb.1, hb.2.1⟩ hb.2.2
    unfold wrongI
    rw [l24, if_neg (by omega), if_neg (by rw [b]; omega), if_neg (by omega), if_neg (by omega), if_neg (by omega), if_neg (by rw [b6]; omega), if_neg (by omega), if_pos hw]
theorem set_some (s : ByteArray) (i : Nat) (v : Int) (h : i < s.size) : gosem_cut_init.f s ((i : Nat) : Int) v = some (bset s i v) := by
  unfold gosem_cut_init.f
  rw [if_pos (by omega), Int.toNat_natCast]
theorem o4_size : (⟨#[1, 1, 1, 1]⟩ : ByteArray).size = 4 := rfl
def o4 : ByteArray := ⟨#[1, 1, 1, 1]⟩
theorem o4_z : o4.size = 4 := rfl
def dgI (body : ByteArray) : ByteArray := ipM 0 0 false false 0 5 17 1 2 o4 body (⟨#[]⟩ : ByteArray)
theorem dgI_all (body : ByteArray) (hb : 1 ≤ body.size ∧ body.size ≤ 500) : (dgI body).size = 24 + body.size ∧ bt (dgI body) 0 = 70 ∧ allI (dgI body) = ((24 + body.size : Nat) : Int) ∧ bt (dgI body) 6 / 128 = 0 ∧ sumOf ((dgI body).extract 0 24).data.toList = 0 := by
  have h0 := ip_bt0 0 0 false false 0 5 17 1 2 o4 body (⟨#[]⟩ : ByteArray) (by decide)
  have ha := ip_all 0 0 false false 0 5 17 1 2 o4 body (⟨#[]⟩ : ByteArray) (by decide) (by omega)
  have h6 := ip_bt6 0 0 false false 0 5 17 1 2 o4 body (⟨#[]⟩ : ByteArray) (by omega) (by omega)
  have hl := ip_headlist 0 0 false false 0 5 17 1 2 o4 body (⟨#[]⟩ : ByteArray)
  have hs := head_sum 0 0 false false 0 5 17 1 2 o4 body
  have hz := ipM_size 0 0 false false 0 5 17 1 2 o4 body (⟨#[]⟩ : ByteArray)
  rw [o4_z] at h0 ha hl hz
  refine ⟨by unfold dgI; rw [hz]; show 20 + 4 + body.size + 0 = _; omega, h0, ha, h6, ?_⟩
  unfold dgI
  rw [show (24 : Nat) = 20 + 4 from rfl, hl]
  exact hs
theorem wrong_j1 (how : Int) (body : ByteArray) (hh : -9223372036854775808 ≤ how ∧ how ≤ 9223372036854775807) (hb : 1 ≤ body.size ∧ body.size ≤ 500) : Ev (fun k => rampartlaw03_Ipv4Wrong.j1 k how (dgI body) false) true := by
  obtain ⟨hz, h0, ha, h6, hs⟩ := dgI_all body hb
  generalize dgI body = S at hz h0 ha h6 hs ⊢
  obtain ⟨w0, w1, w2, w3, w4, w5, w6⟩ := wrong_ways S body.size hb hz h0 ha h6 hs
  have f0 : gosem_cut_init.f S 0 102 = some (bset S 0 102) := set_some S 0 102 (by omega)
  have f1 : gosem_cut_init.f S 0 68 = some (bset S 0 68) := set_some S 0 68 (by omega)
  have f3 : gosem_cut_init.f S 2 0 = some (bset S 2 0) := set_some S 2 0 (by omega)
  have g3 : gosem_cut_init.f (bset S 2 0) 3 23 = some (bset (bset S 2 0) 3 23) := set_some (bset S 2 0) 3 23 (by rw [bset_size]; omega)
  have f5 : gosem_cut_init.f S 6 (Go.bits .or .u8 (bt S 6) 128) = some (bset S 6 (Go.bits .or .u8 (bt S 6) 128)) := set_some S 6 _ (by omega)
  have f6 : gosem_cut_init.f S 8 ((bt S 8 + 1) % 256) = some (bset S 8 ((bt S 8 + 1) % 256)) := set_some S 8 _ (by omega)
  have wl : wrap64 ((S.size : Int) - 1) = ((S.size - 1 : Nat) : Int) := by unfold wrap64; omega
  have hp := at_some how 7 (by omega) (by omega) hh
  have hb7 : 0 ≤ how % 7 ∧ how % 7 < 7 := by omega
  obtain ⟨K, q⟩ := ipAwake_ev
  obtain ⟨K0, q0⟩ := iget_ev (bset S 0 102)
  obtain ⟨K1, q1⟩ := iget_ev (bset S 0 68)
  obtain ⟨K2, q2⟩ := iget_ev (S.extract 0 22)
  obtain ⟨K3, q3⟩ := iget_ev (bset (bset S 2 0) 3 23)
  obtain ⟨K4, q4⟩ := iget_ev (S.extract 0 (S.size - 1))
  obtain ⟨K5, q5⟩ := iget_ev (bset S 6 (Go.bits .or .u8 (bt S 6) 128))
  obtain ⟨K6, q6⟩ := iget_ev (bset S 8 ((bt S 8 + 1) % 256))
  rw [w0] at q0
  rw [w1] at q1
  rw [w2] at q2
  rw [w3] at q3
  rw [w4] at q4
  rw [w5] at q5
  rw [w6] at q6
  refine ⟨K + K0 + K1 + K2 + K3 + K4 + K5 + K6 + 1, fun k hk => ?_⟩
  obtain ⟨k, rfl⟩ : ∃ m, k = m + 1 := ⟨k - 1, by omega⟩
  have e : rampartlaw03_awake.f k = some true := q k (by omega)
  have e0 : ipv4_Get.f k (bset S 0 102) = some (errI 3) := q0 k (by omega)
  have e1 : ipv4_Get.f k (bset S 0 68) = some (errI 3) := q1 k (by omega)
  have e2 : ipv4_Get.f k (S.extract 0 22) = some (errI 2) := q2 k (by omega)
  have e3 : ipv4_Get.f k (bset (bset S 2 0) 3 23) = some (errI 3) := q3 k (by omega)
  have e4 : ipv4_Get.f k (S.extract 0 (S.size - 1)) = some (errI 2) := q4 k (by omega)
  have e5 : ipv4_Get.f k (bset S 6 (Go.bits .or .u8 (bt S 6) 128)) = some (errI 3) := q5 k (by omega)
  have e6 : ipv4_Get.f k (bset S 8 ((bt S 8 + 1) % 256)) = some (errI 4) := q6 k (by omega)
  clear w0 w1 w2 w3 w4 w5 w6 q0 q1 q2 q3 q4 q5 q6 ha h6 hs
  simp only [rampartlaw03_Ipv4Wrong.j1, Bool.false_eq_true, if_false]
  rw [hp, Option.bind_some]
  by_cases c0 : how % 7 = 0
  · rw [if_pos c0, f0, Option.bind_some, e0, Option.bind_some, if_pos (show (errI 3).2.2.2.2.2.2.2.2.2.2.2 = 3 from rfl), if_pos (show (errI 3).2.2.2.2.2.2.2.2.2.2.1.toList = ([] : List UInt8) from empty_list), if_pos (show (errI 3).2.2.2.2.2.1 = 0 from rfl), e, Option.bind_some]
  rw [if_neg c0]
  by_cases c1 : how % 7 = 1
  · rw [if_pos c1, f1, Option.bind_some, e1, Option.bind_some, if_pos (show (errI 3).2.2.2.2.2.2.2.2.2.2.2 = 3 from rfl), if_pos (show (errI 3).2.2.2.2.2.2.2.2.2.2.1.toList = ([] : List UInt8) from empty_list), if_pos (show (errI 3).2.2.2.2.2.1 = 0 from rfl), e, Option.bind_some]
  rw [if_neg c1]
  by_cases c2 : how % 7 = 2
  · rw [if_pos c2, if_pos (by decide), if_pos (show (22 : Int) ≤ (S.size : Int) by omega), e2, Option.bind_some, if_pos (show (errI 2).2.2.2.2.2.2.2.2.2.2.2 = 2 from rfl), if_pos (show (errI 2).2.2.2.2.2.2.2.2.2.2.1.toList = ([] : List UInt8) from empty_list), if_pos (show (errI 2).2.2.2.2.2.1 = 0 from rfl), e, Option.bind_some]
  rw [if_neg c2]
  by_cases c3 : how % 7 = 3
  · rw [if_pos c3, f3, Option.bind_some, g3, Option.bind_some, e3, Option.bind_some, if_pos (show (errI 3).2.2.2.2.2.2.2.2.2.2.2 = 3 from rfl), if_pos (show (errI 3).2.2.2.2.2.2.2.2.2.2.1.toList = ([] : List UInt8) from empty_list), if_pos (show (errI 3).2.2.2.2.2.1 = 0 from rfl), e, Option.bind_some]
  rw [if_neg c3]
  by_cases c4 : how % 7 = 4
  · rw [if_pos c4, wl, if_pos (Int.natCast_nonneg _), if_pos (show ((S.size - 1 : Nat) : Int) ≤ (S.size : Int) by omega), Int.toNat_natCast, e4, Option.bind_some, if_pos (show (errI 2).2.2.2.2.2.2.2.2.2.2.2 = 2 from rfl), if_pos (show (errI 2).2.2.2.2.2.2.2.2.2.2.1.toList = ([] : List UInt8) from empty_list), if_pos (show (errI 2).2.2.2.2.2.1 = 0 from rfl), e, Option.bind_some]
  rw [if_neg c4]
  by_cases c5 : how % 7 = 5
  · rw [if_pos c5, if_pos (show (6 : Int) < (S.size : Int) by omega), f5, Option.bind_some, e5, Option.bind_some, if_pos (show (errI 3).2.2.2.2.2.2.2.2.2.2.2 = 3 from rfl), if_pos (show (errI 3).2.2.2.2.2.2.2.2.2.2.1.toList = ([] : List UInt8) from empty_list), if_pos (show (errI 3).2.2.2.2.2.1 = 0 from rfl), e, Option.bind_some]
  rw [if_neg c5, if_pos (show (8 : Int) < (S.size : Int) by omega), f6, Option.bind_some, e6, Option.bind_some, if_pos (show (errI 4).2.2.2.2.2.2.2.2.2.2.2 = 4 from rfl), if_pos (show (errI 4).2.2.2.2.2.2.2.2.2.2.1.toList = ([] : List UInt8) from empty_list), if_pos (show (errI 4).2.2.2.2.2.1 = 0 from rfl), e, Option.bind_some]
theorem Ipv4Wrong : rampartlaw03_Ipv4Wrong.Pure := by
  intro how body hh hb
  have hh := bounds_i64 hh
  obtain ⟨K, q⟩ := ipAwake_ev
  have aw : rampartlaw03_Ipv4Wrong.j0 (K + 1) how body true = some true := by
    have e : rampartlaw03_awake.f K = some true := q K (by omega)
    simp only [rampartlaw03_Ipv4Wrong.j0, if_true]
    rw [e, Option.bind_some]
  by_cases b1 : (body.size : Int) < 1
  · exact ⟨K + 1, by simp only [rampartlaw03_Ipv4Wrong.f]; rw [if_pos b1, aw]⟩
  by_cases b2 : (body.size : Int) > 500
  · exact ⟨K + 1, by simp only [rampartlaw03_Ipv4Wrong.f]; rw [if_neg b1, decide_eq_true b2, aw]⟩
  obtain ⟨K1, q1⟩ := iput_ev 0 0 false false 0 5 17 1 2 o4 body (by omega) (by omega)
  have hput : putI 0 0 false false 0 5 17 1 2 o4 body = (dgI body, 0) := by
    unfold putI
    rw [if_pos (show chkI 0 0 0 5 17 o4 = true by decide), if_neg (by omega)]
    congr 1
    apply ba_ext
    simp only [dgI, ipM, app_list, List.append_nil]
  rw [hput] at q1
  obtain ⟨K2, q2⟩ := wrong_j1 how body hh (by omega)
  have hS := (dgI_all body (by omega)).1
  have w : wrap64 (24 + (body.size : Int)) = ((24 + body.size : Nat) : Int) := by unfold wrap64; omega
  refine ⟨K1 + K2 + 1, ?_⟩
  generalize hk : K1 + K2 = k
  have e1 : ipv4_Put.f k 0 0 false false 0 5 17 1 2 (⟨#[1, 1, 1, 1]⟩ : ByteArray) body = some (dgI body, 0) := q1 k (by omega)
  have e2 : rampartlaw03_Ipv4Wrong.j1 k how (dgI body) false = some true := q2 k (by omega)
  have hne : (((dgI body).size : Int) != ((24 + body.size : Nat) : Int)) = false := by rw [hS]; simp
  simp only [rampartlaw03_Ipv4Wrong.f]
  rw [if_neg b1, decide_eq_false b2]
  simp only [rampartlaw03_Ipv4Wrong.j0, Bool.false_eq_true, if_false]
  rw [e1, Option.bind_some, if_pos rfl, w, hne]
  exact e2
end Go.Proofs.Ytgolimfljndnmaa.Pure
