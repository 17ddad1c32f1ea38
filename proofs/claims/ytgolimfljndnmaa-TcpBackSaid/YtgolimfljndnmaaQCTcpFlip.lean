/- What is proved: a segment with a byte turned is none, nor is it one between other ends; between the same two it is one either way round. Conditions: those that stand in each theorem. -/
import Derived.Test.YtgolimfljndnmaaQCTcpField
import Derived.Test.YtgolimfljndnmaaQCFlipLib
import Derived.Test.YtgolimfljndnmaaHCx9
namespace Go.Proofs.Ytgolimfljndnmaa.QC
open Go.RowKit Go.Proofs.Ytgolimfljndnmaa.HC Go.Proofs.YtgolimfljndnmaaW.PrintWords Go.Proofs.YtgolimfljndnmaaW.PrintLast Go.Proofs.YtgolimfljndnmaaW.PrintMore
set_option linter.unusedVariables false
set_option linter.unusedSimpArgs false
theorem getT_err (src dst : Int) (s : ByteArray) : (getT src dst s).2.2.2.2.2.2.2.2 = wrongT src dst s := by
  unfold getT
  by_cases h : wrongT src dst s = 0
  · rw [if_pos h, h]; rfl
  · rw [if_neg h]; rfl
theorem set_list (s : ByteArray) (i : Nat) (v : Int) : (bset s i v).data.toList = s.data.toList.set i (UInt8.ofNat v.toNat) := by simp [bset]
theorem turned_ne {s : ByteArray} {i : Nat} (hi : i < s.size) (hil : i < s.data.toList.length) {m : Int} (h0 : 0 ≤ m) (h1 : m < 8) : UInt8.ofNat (Go.bits .xor .u8 (bt s (i : Int)) (shl .u8 1 m)).toNat ≠ s.data.toList[i] := by
  have e := bt_get s i hi
  intro h
  have hr := bits8_range .xor (bt s (i : Int)) (shl .u8 1 m)
  have hx := xor_ne (s.data.toList[i]) m h0 h1
  rw [← e] at hx
  apply hx
  have := congrArg UInt8.toNat h
  rw [UInt8.toNat_ofNat', Nat.mod_eq_of_lt (by omega)] at this
  rw [e] at hr ⊢
  rw [e] at this
  omega
theorem pseudo_list (src dst p n : Int) : (pseudoT src dst p n).data.toList = (bigS src 4).data.toList ++ ((bigS dst 4).data.toList ++ (z1.data.toList ++ ((bigS p 1).data.toList ++ (bigS n 2).data.toList))) := by
  simp only [pseudoT, app_list, List.append_assoc]
theorem wsum_two (a b c : List UInt8) (ha : a.length % 2 = 0) (hb : b.length % 2 = 0) : wsum (a ++ (b ++ c)) 0 = wsum a 0 + wsum b 0 + wsum c 0 := by
  rw [wsum_append, wsum_append, wsum_even b _ 0 (by omega), wsum_even c _ 0 (by omega)]
  omega
theorem whole_wsum (src dst : Int) (s : ByteArray) : wsum ((pseudoT src dst 6 (s.size : Int)).data.toList ++ s.data.toList) 0 = wsum (bigS src 4).data.toList 0 + wsum (bigS dst 4).data.toList 0 + wsum (z1.data.toList ++ ((bigS 6 1).data.toList ++ ((bigS (s.size : Int) 2).data.toList ++ s.data.toList))) 0 := by
  rw [pseudo_list]
  simp only [List.append_assoc]
  exact wsum_two _ _ _ (by rw [bigS_length]) (by rw [bigS_length])
theorem whole_swap (src dst : Int) (s : ByteArray) : whole dst src s = whole src dst s := by
  have e : wsum ((pseudoT dst src 6 (s.size : Int)).data.toList ++ s.data.toList) 0 = wsum ((pseudoT src dst 6 (s.size : Int)).data.toList ++ s.data.toList) 0 := by
    rw [whole_wsum, whole_wsum, Int.add_comm (wsum (bigS dst 4).data.toList 0)]
  show 65535 - red _ = 65535 - red _
  rw [e]
theorem wrong_swap (src dst : Int) (s : ByteArray) : wrongT dst src s = wrongT src dst s := by
  unfold wrongT
  rw [whole_swap]
theorem get_swap (src dst : Int) (s : ByteArray) : getT dst src s = getT src dst s := by
  unfold getT
  rw [wrong_swap]
theorem flip_bad (src dst : Int) (s : ByteArray) (h0 : whole src dst s = 0) (i : Nat) (hi : i < s.size) (m : Int) (hm : 0 ≤ m) (hm2 : m < 8) : wrongT src dst (bset s i (Go.bits .xor .u8 (bt s (i : Int)) (shl .u8 1 m))) ≠ 0 := by
  intro h
  have hw := (wrongT_zero h).2.2.2.2.2.2
  have hil : i < s.data.toList.length := by simpa using hi
  have hp : (pseudoT src dst 6 (s.size : Int)).data.toList.length = 12 := by
    have := pseudoT_size src dst 6 (s.size : Int)
    simpa using this
  unfold whole at hw h0
  rw [bset_size, set_list] at hw
  have e : (pseudoT src dst 6 (s.size : Int)).data.toList ++ s.data.toList.set i (UInt8.ofNat (Go.bits .xor .u8 (bt s (i : Int)) (shl .u8 1 m)).toNat) = ((pseudoT src dst 6 (s.size : Int)).data.toList ++ s.data.toList).set (12 + i) (UInt8.ofNat (Go.bits .xor .u8 (bt s (i : Int)) (shl .u8 1 m)).toNat) := by
    rw [List.set_append_right _ _ (by omega), hp, Nat.add_sub_cancel_left]
  rw [e] at hw
  refine flip_sum _ (12 + i) _ (by rw [List.length_append]; omega) ?_ h0 hw
  rw [List.getElem_append_right (by omega)]
  simp only [hp, Nat.add_sub_cancel_left]
  exact turned_ne hi hil hm hm2
theorem wsum_big4 (v : Int) : wsum (bigS v 4).data.toList 0 = (v / 16777216 % 256) * 256 + v / 65536 % 256 + (v / 256 % 256) * 256 + v % 256 := by
  have e0 : (bigS v 0).data.toList = [] := by simp [bigS, bigL, strOfNums]
  have t : ∀ x : Int, ((UInt8.ofNat (x % 256).toNat).toNat : Int) = x % 256 := fun x => by
    rw [UInt8.toNat_ofNat', Nat.mod_eq_of_lt (by omega)]
    omega
  have w0 : wt 0 = 256 := rfl
  have w1 : wt (0 + 1) = 1 := rfl
  have w2 : wt (0 + 1 + 1) = 256 := rfl
  have w3 : wt (0 + 1 + 1 + 1) = 1 := rfl
  rw [bigS_cons, bigS_cons, bigS_cons, bigS_cons, e0]
  simp only [wsum, t, w0, w1, w2, w3]
  rw [show (256 : Int) ^ 3 = 16777216 from rfl, show (256 : Int) ^ 2 = 65536 from rfl, show (256 : Int) ^ 1 = 256 from rfl, show (256 : Int) ^ 0 = 1 from rfl, Int.ediv_one]
  omega
theorem nat_xor_one (a : Nat) : a ^^^ 1 = if a % 2 = 0 then a + 1 else a - 1 := by
  apply Nat.eq_of_testBit_eq
  intro j
  rw [Nat.testBit_xor]
  cases j with
  | zero =>
    by_cases h : a % 2 = 0
    · rw [if_pos h, Nat.testBit_zero, Nat.testBit_zero, Nat.testBit_zero, decide_eq_false (show ¬ a % 2 = 1 by omega), decide_eq_true (show (a + 1) % 2 = 1 by omega)]; rfl
    · rw [if_neg h, Nat.testBit_zero, Nat.testBit_zero, Nat.testBit_zero, decide_eq_true (show a % 2 = 1 by omega), decide_eq_false (show ¬ (a - 1) % 2 = 1 by omega)]; rfl
  | succ j =>
    have h1 : Nat.testBit 1 (j + 1) = false := by simp [Nat.testBit_succ]
    rw [h1, Bool.xor_false, Nat.testBit_succ, Nat.testBit_succ]
    congr 1
    by_cases h : a % 2 = 0
    · rw [if_pos h]; omega
    · rw [if_neg h]; omega
theorem xor_one32 (v : Int) (h0 : 0 ≤ v) (h1 : v ≤ 4294967295) : Go.bits .xor .u32 v 1 = if v % 2 = 0 then v + 1 else v - 1 := by
  obtain ⟨a, rfl⟩ := Int.eq_ofNat_of_zero_le h0
  have ha : a < 2 ^ 32 := by omega
  have hx : a ^^^ 1 < 2 ^ 32 := Nat.xor_lt_two_pow ha (by decide)
  have e : Go.bits .xor .u32 (a : Int) 1 = ((a ^^^ 1 : Nat) : Int) := by
    rw [show (1 : Int) = ((1 : Nat) : Int) from rfl]
    have ha' : a % 2 ^ IntKind.u32.bits = a := Nat.mod_eq_of_lt ha
    have h1' : 1 % 2 ^ IntKind.u32.bits = 1 := Nat.mod_eq_of_lt (show (1 : Nat) < 2 ^ 32 by decide)
    simp only [Go.bits, BitVec.ofInt_natCast, BitVec.toNat_xor, BitVec.toNat_ofNat, ha', h1']
    rw [IntKind.wrap_u32]
    omega
  rw [e, nat_xor_one]
  by_cases h : a % 2 = 0
  · rw [if_pos h, if_pos (by omega)]; omega
  · rw [if_neg h, if_neg (by omega)]; omega
theorem even_div {v : Int} (h : v % 2 = 0) : (v + 1) / 16777216 = v / 16777216 ∧ (v + 1) / 65536 = v / 65536 ∧ (v + 1) / 256 = v / 256 ∧ (v + 1) % 256 = v % 256 + 1 := ⟨by omega, by omega, by omega, by omega⟩
theorem odd_div {v : Int} (h : ¬ v % 2 = 0) : (v - 1) / 16777216 = v / 16777216 ∧ (v - 1) / 65536 = v / 65536 ∧ (v - 1) / 256 = v / 256 ∧ (v - 1) % 256 = v % 256 - 1 := ⟨by omega, by omega, by omega, by omega⟩
theorem off_up {q r x y : Int} (h0 : (q + r + x + y) % 65535 = 0) (h1 : (q + (r + 1) + x + y) % 65535 = 0) : False := by omega
theorem off_down {q r x y : Int} (h0 : (q + r + x + y) % 65535 = 0) (h1 : (q + (r - 1) + x + y) % 65535 = 0) : False := by omega
theorem ends_bad (src dst : Int) (s : ByteArray) (hs : 0 ≤ src ∧ src ≤ 4294967295) (h : wrongT src dst s = 0) : wrongT (Go.bits .xor .u32 src 1) dst s = 4 := by
  obtain ⟨a1, a2, a3, a4, a5, a6, a7⟩ := wrongT_zero h
  have hx := xor_one32 src hs.1 hs.2
  have hw : whole (Go.bits .xor .u32 src 1) dst s ≠ 0 := by
    intro hw
    unfold whole at hw a7
    have y0 := sum_zero a7
    have y1 := sum_zero hw
    rw [whole_wsum, wsum_big4 src] at y0
    rw [whole_wsum, wsum_big4 (Go.bits .xor .u32 src 1), hx] at y1
    generalize wsum (bigS dst 4).data.toList 0 = x at y0 y1
    generalize wsum (z1.data.toList ++ ((bigS 6 1).data.toList ++ ((bigS (s.size : Int) 2).data.toList ++ s.data.toList))) 0 = y at y0 y1
    by_cases hp : src % 2 = 0
    · obtain ⟨d1, d2, d3, d4⟩ := even_div hp
      rw [if_pos hp, d1, d2, d3, d4] at y1
      exact off_up y0 y1
    · obtain ⟨d1, d2, d3, d4⟩ := odd_div hp
      rw [if_neg hp, d1, d2, d3, d4] at y1
      exact off_down y0 y1
  unfold wrongT
  rw [if_neg (by omega), if_neg (by omega), if_neg (by omega), if_neg (by omega), if_neg (by omega), if_pos hw]
end Go.Proofs.Ytgolimfljndnmaa.QC
