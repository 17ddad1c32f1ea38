/- What is proved: what Put of segments makes is got again, field by field. Conditions: those that stand in each theorem. -/
import Derived.Test.YtgolimfljndnmaaQWFieldLib
import Derived.Test.YtgolimfljndnmaaQWTcpGet
namespace Go.Proofs.Ytgolimfljndnmaa.QW
open Go.RowKit Go.Proofs.Ytgolimfljndnmaa.HW Go.Proofs.YtgolimfljndnmaaW.PrintWords Go.Proofs.YtgolimfljndnmaaW.PrintLast Go.Proofs.YtgolimfljndnmaaW.PrintMore
set_option linter.unusedVariables false
set_option linter.unusedSimpArgs false
theorem chkT_all {s0 s1 s4 s5 : Int} {o : ByteArray} (h : chkT s0 s1 s4 s5 o = true) : 0 ≤ s0 ∧ s0 ≤ 65535 ∧ 0 ≤ s1 ∧ s1 ≤ 65535 ∧ 0 ≤ s5 ∧ s5 ≤ 65535 ∧ 0 ≤ s4 ∧ s4 ≤ 63 ∧ o.size ≤ 40 ∧ o.size % 4 = 0 := by
  unfold chkT at h
  simpa only [decide_eq_true_eq] using h
section
variable (src dst s0 s1 s2 s3 s4 s5 : Int) (o body : ByteArray)
theorem segT_list : (segT src dst s0 s1 s2 s3 s4 s5 o body).data.toList = (bigS s0 2).data.toList ++ ((bigS s1 2).data.toList ++ ((bigS s2 4).data.toList ++ ((bigS s3 4).data.toList ++ ((bigS (((20 + o.size) / 4 * 16 : Nat) : Int) 1).data.toList ++ ((bigS s4 1).data.toList ++ ((bigS s5 2).data.toList ++
    ((bigS (sumT src dst s0 s1 s2 s3 s4 s5 o body) 2).data.toList ++ (z2.data.toList ++ (o.data.toList ++ body.data.toList))))))))) := by
  simp only [segT, frontT, backT, app_list, List.append_assoc]
theorem big_one (v : Int) : ∃ c : UInt8, (bigS v 1).data.toList = [c] ∧ (c.toNat : Int) = v % 256 := by
  have e0 : (bigS v 0).data.toList = [] := by simp [bigS, bigL, strOfNums]
  refine ⟨_, by rw [bigS_cons, e0], ?_⟩
  rw [show (256 : Int) ^ 0 = 1 from rfl, Int.ediv_one, UInt8.toNat_ofNat', Nat.mod_eq_of_lt (by omega)]
  omega
theorem list_len (s : ByteArray) : s.data.toList.length = s.size := by simp
theorem z2_len : z2.data.toList.length = 2 := rfl
theorem seg_bt12 (ho : o.size ≤ 40) : bt (segT src dst s0 s1 s2 s3 s4 s5 o body) 12 = (((20 + o.size) / 4 * 16 : Nat) : Int) := by
  obtain ⟨c, hc, hv⟩ := big_one (((20 + o.size) / 4 * 16 : Nat) : Int)
  have h := segT_list src dst s0 s1 s2 s3 s4 s5 o body
  rw [hc] at h
  have := bt_at_list (s := segT src dst s0 s1 s2 s3 s4 s5 o body) (a := (bigS s0 2).data.toList ++ ((bigS s1 2).data.toList ++ ((bigS s2 4).data.toList ++ (bigS s3 4).data.toList))) (c := c) (by rw [h]; simp only [List.append_assoc, List.cons_append, List.nil_append]; rfl) (i := 12) (by simp only [List.length_append, bigS_length])
  rw [show ((12 : Nat) : Int) = 12 from rfl] at this
  rw [this, hv]
  omega
theorem seg_bt13 (h0 : 0 ≤ s4) (h1 : s4 ≤ 63) : bt (segT src dst s0 s1 s2 s3 s4 s5 o body) 13 = s4 := by
  obtain ⟨c, hc, hv⟩ := big_one s4
  have h := segT_list src dst s0 s1 s2 s3 s4 s5 o body
  rw [hc] at h
  have := bt_at_list (s := segT src dst s0 s1 s2 s3 s4 s5 o body) (a := (bigS s0 2).data.toList ++ ((bigS s1 2).data.toList ++ ((bigS s2 4).data.toList ++ ((bigS s3 4).data.toList ++ (bigS (((20 + o.size) / 4 * 16 : Nat) : Int) 1).data.toList)))) (c := c) (by rw [h]; simp only [List.append_assoc, List.cons_append, List.nil_append]; rfl) (i := 13) (by simp only [List.length_append, bigS_length])
  rw [show ((13 : Nat) : Int) = 13 from rfl] at this
  rw [this, hv]
  omega
theorem seg_len (ho : o.size ≤ 40) (h4 : o.size % 4 = 0) : lenT (segT src dst s0 s1 s2 s3 s4 s5 o body) = 20 + o.size := by
  have := lenT_int (segT src dst s0 s1 s2 s3 s4 s5 o body)
  rw [seg_bt12 src dst s0 s1 s2 s3 s4 s5 o body ho] at this
  omega
theorem seg_whole : whole src dst (segT src dst s0 s1 s2 s3 s4 s5 o body) = 0 := by
  unfold whole
  rw [segT_size]
  have := sum_fill ((pseudoT src dst 6 ((20 + o.size + body.size : Nat) : Int)).data.toList ++ (frontT s0 s1 s2 s3 s4 s5 o.size).data.toList) (backT o body).data.toList (by rw [List.length_append, list_len, list_len, pseudoT_size, frontT_size])
  simp only [segT, app_list, List.append_assoc] at this ⊢
  exact this
theorem getT_segT (hc : chkT s0 s1 s4 s5 o = true) (h2 : 0 ≤ s2 ∧ s2 ≤ 4294967295) (h3 : 0 ≤ s3 ∧ s3 ≤ 4294967295) (hz : 20 + o.size + body.size ≤ 2000) : getT src dst (segT src dst s0 s1 s2 s3 s4 s5 o body) = (s0, s1, s2, s3, s4, s5, o, body, 0) := by
  obtain ⟨c1, c2, c3, c4, c5, c6, c7, c8, c9, c10⟩ := chkT_all hc
  have hL := segT_list src dst s0 s1 s2 s3 s4 s5 o body
  have hl := seg_len src dst s0 s1 s2 s3 s4 s5 o body c9 c10
  have hs := segT_size src dst s0 s1 s2 s3 s4 s5 o body
  have h12 := seg_bt12 src dst s0 s1 s2 s3 s4 s5 o body c9
  have h13 := seg_bt13 src dst s0 s1 s2 s3 s4 s5 o body c7 c8
  have hw : wrongT src dst (segT src dst s0 s1 s2 s3 s4 s5 o body) = 0 := by
    unfold wrongT
    rw [hs, hl, h12, h13, seg_whole, if_neg (by omega), if_neg (by omega), if_neg (by omega), if_neg (by omega), if_neg (by omega), if_neg (by simp)]
  unfold getT okT
  rw [if_pos hw, hl, h13]
  have o1 : (segT src dst s0 s1 s2 s3 s4 s5 o body).extract 20 (20 + o.size) = o := ba_ext (cut_at (a := (bigS s0 2).data.toList ++ ((bigS s1 2).data.toList ++ ((bigS s2 4).data.toList ++ ((bigS s3 4).data.toList ++ ((bigS (((20 + o.size) / 4 * 16 : Nat) : Int) 1).data.toList ++ ((bigS s4 1).data.toList ++ ((bigS s5 2).data.toList ++ ((bigS (sumT src dst s0 s1 s2 s3 s4 s5 o body) 2).data.toList ++ z2.data.toList)))))))) (c := body.data.toList) (by rw [hL]; simp only [List.append_assoc]) (by simp only [List.length_append, bigS_length, z2_len]) (by simp))
  have o2 : (segT src dst s0 s1 s2 s3 s4 s5 o body).extract (20 + o.size) (segT src dst s0 s1 s2 s3 s4 s5 o body).size = body := ba_ext (cut_end (a := (bigS s0 2).data.toList ++ ((bigS s1 2).data.toList ++ ((bigS s2 4).data.toList ++ ((bigS s3 4).data.toList ++ ((bigS (((20 + o.size) / 4 * 16 : Nat) : Int) 1).data.toList ++ ((bigS s4 1).data.toList ++ ((bigS s5 2).data.toList ++ ((bigS (sumT src dst s0 s1 s2 s3 s4 s5 o body) 2).data.toList ++ (z2.data.toList ++ o.data.toList))))))))) (by rw [hL]; simp only [List.append_assoc]) (by simp only [List.length_append, bigS_length, z2_len]; simp; omega))
  have n1 : numOf ((segT src dst s0 s1 s2 s3 s4 s5 o body).extract 0 2) = s0 := by
    rw [numOf_list (v := s0) (n := 2) (cut_at (a := []) (i := 0) (j := 2) (by rw [hL]; rfl) rfl (by rw [bigS_length])) (by omega), show (256 : Int) ^ 2 = 65536 from rfl]
    omega
  have n2 : numOf ((segT src dst s0 s1 s2 s3 s4 s5 o body).extract 2 4) = s1 := by
    rw [numOf_list (v := s1) (n := 2) (cut_at (a := (bigS s0 2).data.toList) hL (by rw [bigS_length]) (by rw [bigS_length])) (by omega), show (256 : Int) ^ 2 = 65536 from rfl]
    omega
  have n3 : numOf ((segT src dst s0 s1 s2 s3 s4 s5 o body).extract 4 8) = s2 := by
    rw [numOf_list (v := s2) (n := 4) (cut_at (a := (bigS s0 2).data.toList ++ (bigS s1 2).data.toList) (by rw [hL]; simp only [List.append_assoc]; rfl) (by simp only [List.length_append, bigS_length]) (by rw [bigS_length])) (by omega), show (256 : Int) ^ 4 = 4294967296 from rfl]
    omega
  have n4 : numOf ((segT src dst s0 s1 s2 s3 s4 s5 o body).extract 8 12) = s3 := by
    rw [numOf_list (v := s3) (n := 4) (cut_at (a := (bigS s0 2).data.toList ++ ((bigS s1 2).data.toList ++ (bigS s2 4).data.toList)) (by rw [hL]; simp only [List.append_assoc]; rfl) (by simp only [List.length_append, bigS_length]) (by rw [bigS_length])) (by omega), show (256 : Int) ^ 4 = 4294967296 from rfl]
    omega
  have n5 : numOf ((segT src dst s0 s1 s2 s3 s4 s5 o body).extract 14 16) = s5 := by
    rw [numOf_list (v := s5) (n := 2) (cut_at (a := (bigS s0 2).data.toList ++ ((bigS s1 2).data.toList ++ ((bigS s2 4).data.toList ++ ((bigS s3 4).data.toList ++ ((bigS (((20 + o.size) / 4 * 16 : Nat) : Int) 1).data.toList ++ (bigS s4 1).data.toList))))) (by rw [hL]; simp only [List.append_assoc]; rfl) (by simp only [List.length_append, bigS_length]) (by rw [bigS_length])) (by omega), show (256 : Int) ^ 2 = 65536 from rfl]
    omega
  rw [o1, o2, n1, n2, n3, n4, n5, Int.emod_eq_of_lt h2.1 (by omega), Int.emod_eq_of_lt h3.1 (by omega)]
end
end Go.Proofs.Ytgolimfljndnmaa.QW
