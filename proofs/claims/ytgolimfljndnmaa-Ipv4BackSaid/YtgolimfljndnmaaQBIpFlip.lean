/- What is proved: a datagram with a byte of its head turned (but of its first), or cut, is none. Conditions: those that stand in each theorem. -/
import Derived.Test.YtgolimfljndnmaaQBIpField
import Derived.Test.YtgolimfljndnmaaQBFlipLib
import Derived.Test.YtgolimfljndnmaaHBx8
namespace Go.Proofs.Ytgolimfljndnmaa.QB
open Go.RowKit Go.Proofs.Ytgolimfljndnmaa.HB Go.Proofs.YtgolimfljndnmaaW.PrintWords Go.Proofs.YtgolimfljndnmaaW.PrintLast Go.Proofs.YtgolimfljndnmaaW.PrintMore
set_option linter.unusedVariables false
set_option linter.unusedSimpArgs false
theorem getI_err (s : ByteArray) : (getI s).2.2.2.2.2.2.2.2.2.2.2 = wrongI s := by
  unfold getI
  by_cases h : wrongI s = 0
  · rw [if_pos h, h]; rfl
  · rw [if_neg h]; rfl
theorem pre_list (s : ByteArray) (n : Nat) : (s.extract 0 n).data.toList = s.data.toList.take n := by rw [ext_list]; simp
theorem cut_cut (s : ByteArray) (j a b : Nat) (h : b ≤ j) (hab : a ≤ b) : (s.extract 0 j).extract a b = s.extract a b := by
  apply ba_ext
  rw [ext_list, pre_list, ext_list s a b, List.drop_take, List.take_take, Nat.min_eq_left (by omega)]
theorem set_byte {s : ByteArray} {i : Nat} {v : Int} (h : i ≠ 0) (h0 : 0 < s.size) : bt (bset s i v) 0 = bt s 0 := by
  have e1 := bt_get s 0 h0
  have e2 := bt_get (bset s i v) 0 (by rw [bset_size]; exact h0)
  rw [show ((0 : Nat) : Int) = 0 from rfl] at e1 e2
  rw [e1, e2]
  have hl : (bset s i v).data.toList = s.data.toList.set i (UInt8.ofNat v.toNat) := by simp [bset]
  simp only [hl]
  rw [List.getElem_set_ne h]
theorem set_list (s : ByteArray) (i : Nat) (v : Int) : (bset s i v).data.toList = s.data.toList.set i (UInt8.ofNat v.toNat) := by simp [bset]
theorem turned_ne {s : ByteArray} {i : Nat} (hi : i < s.size) (hil : i < s.data.toList.length) {m : Int} (h0 : 0 ≤ m) (h1 : m < 8) : UInt8.ofNat (Go.bits .xor .u8 (bt s (i : Int)) (shl .u8 1 m)).toNat ≠ s.data.toList[i] := by
  have e := bt_get s i hi
  intro h
  have hr := bits8_range .xor (bt s (i : Int)) (shl .u8 1 m)
  have hx := xor_ne (s.data.toList[i]) m h0 h1
  rw [← e] at hx
  apply hx
  have := congrArg UInt8.toNat h
  rw [UInt8.toNat_ofNat', Nat.mod_eq_of_lt (by omega)] at this
  rw [e] at hr ⊢
  rw [e] at this
  omega
section
variable (s0 s1 : Int) (s2 s3 : Bool) (s4 s5 s6 s7 s8 : Int) (o body : ByteArray)
theorem ip_cut_bad (hc : chkI s0 s1 s4 s5 s6 o = true) (hb : body.size ≤ 2000) (j : Nat) (hj : j < 20 + o.size + body.size) : wrongI ((ipM s0 s1 s2 s3 s4 s5 s6 s7 s8 o body (⟨#[]⟩ : ByteArray)).extract 0 j) ≠ 0 := by
  obtain ⟨c1, c2, c3, c4, c5, c6, d1, d2, e1, e2, e3, f1, f2⟩ := chkI_all hc
  intro h
  obtain ⟨a1, a2, a3, a4, a5, a6, a7, a8, a9⟩ := wrongI_zero h
  have hz : ((ipM s0 s1 s2 s3 s4 s5 s6 s7 s8 o body (⟨#[]⟩ : ByteArray)).extract 0 j).size = j := by
    rw [ByteArray.size_extract, ipM_size]
    have : (⟨#[]⟩ : ByteArray).size = 0 := rfl
    omega
  rw [hz] at a1 a6
  have ha : allI ((ipM s0 s1 s2 s3 s4 s5 s6 s7 s8 o body (⟨#[]⟩ : ByteArray)).extract 0 j) = ((20 + o.size + body.size : Nat) : Int) := by
    unfold allI
    rw [cut_cut _ j 2 4 (by omega) (by omega)]
    exact ip_all s0 s1 s2 s3 s4 s5 s6 s7 s8 o body (⟨#[]⟩ : ByteArray) f1 hb
  rw [ha] at a6
  omega
theorem ip_flip_bad (hc : chkI s0 s1 s4 s5 s6 o = true) (i : Nat) (h1 : 1 ≤ i) (hi : i < 20 + o.size) (m : Int) (hm : 0 ≤ m) (hm2 : m < 8) :
    wrongI (bset (ipM s0 s1 s2 s3 s4 s5 s6 s7 s8 o body (⟨#[]⟩ : ByteArray)) i (Go.bits .xor .u8 (bt (ipM s0 s1 s2 s3 s4 s5 s6 s7 s8 o body (⟨#[]⟩ : ByteArray)) (i : Int)) (shl .u8 1 m))) ≠ 0 := by
  obtain ⟨c1, c2, c3, c4, c5, c6, d1, d2, e1, e2, e3, f1, f2⟩ := chkI_all hc
  have hS := ipM_size s0 s1 s2 s3 s4 s5 s6 s7 s8 o body (⟨#[]⟩ : ByteArray)
  have hl := ip_len s0 s1 s2 s3 s4 s5 s6 s7 s8 o body (⟨#[]⟩ : ByteArray) f1 f2
  have hh := ip_headlist s0 s1 s2 s3 s4 s5 s6 s7 s8 o body (⟨#[]⟩ : ByteArray)
  rw [pre_list] at hh
  have hs0 := head_sum s0 s1 s2 s3 s4 s5 s6 s7 s8 o body
  have hhz := headI_size s0 s1 s2 s3 s4 s5 s6 s7 s8 o body.size
  generalize ipM s0 s1 s2 s3 s4 s5 s6 s7 s8 o body (⟨#[]⟩ : ByteArray) = S at *
  generalize headI s0 s1 s2 s3 s4 s5 s6 s7 s8 o body.size = H at *
  intro h
  obtain ⟨a1, a2, a3, a4, a5, a6, a7, a8, a9⟩ := wrongI_zero h
  have hsz : i < S.size := by omega
  have hlen : lenI (bset S i (Go.bits .xor .u8 (bt S (i : Int)) (shl .u8 1 m))) = 20 + o.size := by
    rw [← hl]
    unfold lenI
    rw [set_byte (by omega) (by omega)]
  rw [hlen, pre_list, set_list, List.take_set, hh] at a9
  have hHl : H.data.toList.length = 20 + o.size := by simp; omega
  have hiH : i < H.data.toList.length := by omega
  have hget : H.data.toList[i] = S.data.toList[i]'(by simpa using hsz) := by
    simp only [← hh, List.getElem_take]
  refine flip_sum H.data.toList i _ hiH ?_ hs0 a9
  rw [hget]
  exact turned_ne hsz (by simpa using hsz) hm hm2
end
end Go.Proofs.Ytgolimfljndnmaa.QB
