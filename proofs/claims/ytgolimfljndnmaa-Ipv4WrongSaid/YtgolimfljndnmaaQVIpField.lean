/- What is proved: what Put of datagrams makes is got again, field by field, whatever stands behind it. Conditions: those that stand in each theorem. -/
import Derived.Test.YtgolimfljndnmaaQVFieldLib
import Derived.Test.YtgolimfljndnmaaQVIpGet
namespace Go.Proofs.Ytgolimfljndnmaa.QV
open Go.RowKit Go.Proofs.Ytgolimfljndnmaa.HV Go.Proofs.YtgolimfljndnmaaW.PrintWords Go.Proofs.YtgolimfljndnmaaW.PrintLast Go.Proofs.YtgolimfljndnmaaW.PrintMore
set_option linter.unusedVariables false
set_option linter.unusedSimpArgs false
theorem big_one (v : Int) : ∃ c : UInt8, (bigS v 1).data.toList = [c] ∧ (c.toNat : Int) = v % 256 := by
  have e0 : (bigS v 0).data.toList = [] := by simp [bigS, bigL, strOfNums]
  refine ⟨_, by rw [bigS_cons, e0], ?_⟩
  rw [show (256 : Int) ^ 0 = 1 from rfl, Int.ediv_one, UInt8.toNat_ofNat', Nat.mod_eq_of_lt (by omega)]
  omega
theorem big_two (v : Int) : ∃ c d : UInt8, (bigS v 2).data.toList = [c, d] ∧ (c.toNat : Int) = v / 256 % 256 ∧ (d.toNat : Int) = v % 256 := by
  obtain ⟨d, hd, hv⟩ := big_one v
  refine ⟨_, d, by rw [bigS_cons, hd], ?_, hv⟩
  rw [show (256 : Int) ^ 1 = 256 from rfl, UInt8.toNat_ofNat', Nat.mod_eq_of_lt (by omega)]
  omega
theorem list_len (s : ByteArray) : s.data.toList.length = s.size := by simp
theorem nat_and_pow (a i : Nat) : a &&& 2 ^ i = (a.testBit i).toNat * 2 ^ i := by
  apply Nat.eq_of_testBit_eq
  intro j
  rw [Nat.testBit_and, Nat.testBit_two_pow]
  by_cases h : i = j
  · subst h
    cases hb : a.testBit i
    · simp
    · simp
  · cases hb : a.testBit i
    · simp [h]
    · simp [h, Nat.testBit_two_pow]
theorem and_bit (i : Nat) (hi : i < 62) (a : Nat) (ha : a < 2 ^ 62) : (Go.bits .and .i64 (a : Int) ((2 ^ i : Nat) : Int) != 0) = decide (a / 2 ^ i % 2 = 1) := by
  have hb : (2 ^ i : Nat) < 2 ^ 63 := Nat.pow_lt_pow_right (by decide) (by omega)
  rw [(bits_nat .i64 63 (by decide) wraps64 a (2 ^ i) (by omega) hb).1, nat_and_pow, Nat.testBit_eq_decide_div_mod_eq]
  have hp : 0 < 2 ^ i := Nat.two_pow_pos i
  by_cases h : a / 2 ^ i % 2 = 1
  · rw [decide_eq_true h]
    simp only [Bool.toNat_true, Nat.one_mul]
    rw [bne_iff_ne]
    omega
  · rw [decide_eq_false h]
    simp
theorem cut_more (s2 s3 : Bool) (s4 : Int) (h0 : 0 ≤ s4) (h1 : s4 ≤ 65528) : (Go.bits .and .i64 (cutI s2 s3 s4) 8192 != 0) = s2 := by
  have hr := cutI_range s2 s3 s4 h0 h1
  obtain ⟨a, ha⟩ := Int.eq_ofNat_of_zero_le hr.1
  have := and_bit 13 (by decide) a (by omega)
  rw [show ((2 ^ 13 : Nat) : Int) = 8192 from rfl, ← ha] at this
  rw [this]
  unfold cutI at ha
  cases s2 <;> cases s3 <;> simp only [Bool.false_eq_true, if_false, if_true] at ha
  · exact decide_eq_false (by omega)
  · exact decide_eq_false (by omega)
  · exact decide_eq_true (by omega)
  · exact decide_eq_true (by omega)
theorem cut_keep (s2 s3 : Bool) (s4 : Int) (h0 : 0 ≤ s4) (h1 : s4 ≤ 65528) : (Go.bits .and .i64 (cutI s2 s3 s4) 16384 != 0) = s3 := by
  have hr := cutI_range s2 s3 s4 h0 h1
  obtain ⟨a, ha⟩ := Int.eq_ofNat_of_zero_le hr.1
  have := and_bit 14 (by decide) a (by omega)
  rw [show ((2 ^ 14 : Nat) : Int) = 16384 from rfl, ← ha] at this
  rw [this]
  unfold cutI at ha
  cases s2 <;> cases s3 <;> simp only [Bool.false_eq_true, if_false, if_true] at ha
  · exact decide_eq_false (by omega)
  · exact decide_eq_true (by omega)
  · exact decide_eq_false (by omega)
  · exact decide_eq_true (by omega)
theorem cut_off (s2 s3 : Bool) (s4 : Int) (h0 : 0 ≤ s4) (h1 : s4 ≤ 65528) (h8 : s4 % 8 = 0) : wrap64 ((Go.bits .and .i64 (cutI s2 s3 s4) 8191) * 8) = s4 := by
  have hr := cutI_range s2 s3 s4 h0 h1
  have hm : Go.bits .and .i64 (cutI s2 s3 s4) 8191 = cutI s2 s3 s4 % 8192 := bits_mask .i64 63 (by decide) wraps64 13 (by decide) _ hr.1 (by omega)
  rw [hm]
  have : cutI s2 s3 s4 % 8192 = s4 / 8 := by
    unfold cutI
    cases s2 <;> cases s3 <;> simp only [Bool.false_eq_true, if_false, if_true] <;> omega
  rw [this]
  unfold wrap64
  omega
section
variable (s0 s1 : Int) (s2 s3 : Bool) (s4 s5 s6 s7 s8 : Int) (o body more : ByteArray)
def ipM : ByteArray := headI s0 s1 s2 s3 s4 s5 s6 s7 s8 o body.size ++ body ++ more
theorem ipM_size : (ipM s0 s1 s2 s3 s4 s5 s6 s7 s8 o body more).size = 20 + o.size + body.size + more.size := by
  simp only [ipM, ByteArray.size_append, headI_size]
theorem ipM_list : (ipM s0 s1 s2 s3 s4 s5 s6 s7 s8 o body more).data.toList = (bigS ((64 + (20 + o.size) / 4 : Nat) : Int) 1).data.toList ++ ((bigS s0 1).data.toList ++ ((bigS ((20 + o.size + body.size : Nat) : Int) 2).data.toList ++ ((bigS s1 2).data.toList ++ ((bigS (cutI s2 s3 s4) 2).data.toList ++ ((bigS s5 1).data.toList ++ ((bigS s6 1).data.toList ++
    ((bigS (sumI s0 s1 s2 s3 s4 s5 s6 s7 s8 o body.size) 2).data.toList ++ ((bigS s7 4).data.toList ++ ((bigS s8 4).data.toList ++ (o.data.toList ++ (body.data.toList ++ more.data.toList))))))))))) := by
  simp only [ipM, headI, frontI, backI, app_list, List.append_assoc]
theorem ip_bt0 (ho : o.size ≤ 40) : bt (ipM s0 s1 s2 s3 s4 s5 s6 s7 s8 o body more) 0 = ((64 + (20 + o.size) / 4 : Nat) : Int) := by
  obtain ⟨c, hc, hv⟩ := big_one ((64 + (20 + o.size) / 4 : Nat) : Int)
  have h := ipM_list s0 s1 s2 s3 s4 s5 s6 s7 s8 o body more
  rw [hc] at h
  have := bt_at_list (s := ipM s0 s1 s2 s3 s4 s5 s6 s7 s8 o body more) (a := []) (c := c) (by rw [h]; rfl) (i := 0) rfl
  rw [show ((0 : Nat) : Int) = 0 from rfl] at this
  rw [this, hv]
  omega
theorem ip_bt1 (h0 : 0 ≤ s0) (h1 : s0 ≤ 255) : bt (ipM s0 s1 s2 s3 s4 s5 s6 s7 s8 o body more) 1 = s0 := by
  obtain ⟨c, hc, hv⟩ := big_one s0
  have h := ipM_list s0 s1 s2 s3 s4 s5 s6 s7 s8 o body more
  rw [hc] at h
  have := bt_at_list (s := ipM s0 s1 s2 s3 s4 s5 s6 s7 s8 o body more) (a := (bigS ((64 + (20 + o.size) / 4 : Nat) : Int) 1).data.toList) (c := c) h (i := 1) (by rw [bigS_length])
  rw [show ((1 : Nat) : Int) = 1 from rfl] at this
  rw [this, hv]
  omega
theorem ip_bt6 (h0 : 0 ≤ s4) (h1 : s4 ≤ 65528) : bt (ipM s0 s1 s2 s3 s4 s5 s6 s7 s8 o body more) 6 / 128 = 0 := by
  obtain ⟨c, d, hc, hv, _⟩ := big_two (cutI s2 s3 s4)
  have hr := cutI_range s2 s3 s4 h0 h1
  have h := ipM_list s0 s1 s2 s3 s4 s5 s6 s7 s8 o body more
  rw [hc] at h
  have := bt_at_list (s := ipM s0 s1 s2 s3 s4 s5 s6 s7 s8 o body more) (a := (bigS ((64 + (20 + o.size) / 4 : Nat) : Int) 1).data.toList ++ ((bigS s0 1).data.toList ++ ((bigS ((20 + o.size + body.size : Nat) : Int) 2).data.toList ++ (bigS s1 2).data.toList))) (c := c) (by rw [h]; simp only [List.append_assoc, List.cons_append, List.nil_append]; rfl) (i := 6) (by simp only [List.length_append, bigS_length])
  rw [show ((6 : Nat) : Int) = 6 from rfl] at this
  rw [this, hv]
  omega
theorem ip_bt8 (h0 : 0 ≤ s5) (h1 : s5 ≤ 255) : bt (ipM s0 s1 s2 s3 s4 s5 s6 s7 s8 o body more) 8 = s5 := by
  obtain ⟨c, hc, hv⟩ := big_one s5
  have h := ipM_list s0 s1 s2 s3 s4 s5 s6 s7 s8 o body more
  rw [hc] at h
  have := bt_at_list (s := ipM s0 s1 s2 s3 s4 s5 s6 s7 s8 o body more) (a := (bigS ((64 + (20 + o.size) / 4 : Nat) : Int) 1).data.toList ++ ((bigS s0 1).data.toList ++ ((bigS ((20 + o.size + body.size : Nat) : Int) 2).data.toList ++ ((bigS s1 2).data.toList ++ (bigS (cutI s2 s3 s4) 2).data.toList)))) (c := c) (by rw [h]; simp only [List.append_assoc, List.cons_append, List.nil_append]; rfl) (i := 8) (by simp only [List.length_append, bigS_length])
  rw [show ((8 : Nat) : Int) = 8 from rfl] at this
  rw [this, hv]
  omega
theorem ip_bt9 (h0 : 0 ≤ s6) (h1 : s6 ≤ 255) : bt (ipM s0 s1 s2 s3 s4 s5 s6 s7 s8 o body more) 9 = s6 := by
  obtain ⟨c, hc, hv⟩ := big_one s6
  have h := ipM_list s0 s1 s2 s3 s4 s5 s6 s7 s8 o body more
  rw [hc] at h
  have := bt_at_list (s := ipM s0 s1 s2 s3 s4 s5 s6 s7 s8 o body more) (a := (bigS ((64 + (20 + o.size) / 4 : Nat) : Int) 1).data.toList ++ ((bigS s0 1).data.toList ++ ((bigS ((20 + o.size + body.size : Nat) : Int) 2).data.toList ++ ((bigS s1 2).data.toList ++ ((bigS (cutI s2 s3 s4) 2).data.toList ++ (bigS s5 1).data.toList))))) (c := c) (by rw [h]; simp only [List.append_assoc, List.cons_append, List.nil_append]; rfl) (i := 9) (by simp only [List.length_append, bigS_length])
  rw [show ((9 : Nat) : Int) = 9 from rfl] at this
  rw [this, hv]
  omega
theorem ip_len (ho : o.size ≤ 40) (h4 : o.size % 4 = 0) : lenI (ipM s0 s1 s2 s3 s4 s5 s6 s7 s8 o body more) = 20 + o.size := by
  have := lenI_int (ipM s0 s1 s2 s3 s4 s5 s6 s7 s8 o body more)
  rw [ip_bt0 s0 s1 s2 s3 s4 s5 s6 s7 s8 o body more ho] at this
  omega
theorem ip_all (ho : o.size ≤ 40) (hb : body.size ≤ 2000) : allI (ipM s0 s1 s2 s3 s4 s5 s6 s7 s8 o body more) = ((20 + o.size + body.size : Nat) : Int) := by
  unfold allI
  rw [numOf_list (v := ((20 + o.size + body.size : Nat) : Int)) (n := 2) (cut_at (a := (bigS ((64 + (20 + o.size) / 4 : Nat) : Int) 1).data.toList ++ (bigS s0 1).data.toList) (by rw [ipM_list]; simp only [List.append_assoc]; rfl) (by simp only [List.length_append, bigS_length]) (by rw [bigS_length])) (by omega), show (256 : Int) ^ 2 = 65536 from rfl]
  omega
theorem ip_cut (h0 : 0 ≤ s4) (h1 : s4 ≤ 65528) : cutOf (ipM s0 s1 s2 s3 s4 s5 s6 s7 s8 o body more) = cutI s2 s3 s4 := by
  have hr := cutI_range s2 s3 s4 h0 h1
  unfold cutOf
  rw [numOf_list (v := cutI s2 s3 s4) (n := 2) (cut_at (a := (bigS ((64 + (20 + o.size) / 4 : Nat) : Int) 1).data.toList ++ ((bigS s0 1).data.toList ++ ((bigS ((20 + o.size + body.size : Nat) : Int) 2).data.toList ++ (bigS s1 2).data.toList))) (by rw [ipM_list]; simp only [List.append_assoc]; rfl) (by simp only [List.length_append, bigS_length]) (by rw [bigS_length])) (by omega), show (256 : Int) ^ 2 = 65536 from rfl]
  omega
theorem head_sum : sumOf (headI s0 s1 s2 s3 s4 s5 s6 s7 s8 o body.size).data.toList = 0 := by
  have := sum_fill (frontI s0 s1 s2 s3 s4 s5 s6 o.size body.size).data.toList (backI s7 s8 o).data.toList (by rw [list_len, frontI_size])
  have e : [0, 0] ++ (backI s7 s8 o).data.toList = z2.data.toList ++ (backI s7 s8 o).data.toList := rfl
  rw [e] at this
  simp only [headI, app_list, List.append_assoc]
  exact this
theorem ip_headlist : ((ipM s0 s1 s2 s3 s4 s5 s6 s7 s8 o body more).extract 0 (20 + o.size)).data.toList = (headI s0 s1 s2 s3 s4 s5 s6 s7 s8 o body.size).data.toList :=
  cut_at (a := []) (c := body.data.toList ++ more.data.toList) (by simp only [ipM, app_list, List.append_assoc, List.nil_append]) rfl (by rw [list_len, headI_size]; omega)
theorem getI_ip (hc : chkI s0 s1 s4 s5 s6 o = true) (h7 : 0 ≤ s7 ∧ s7 ≤ 4294967295) (h8 : 0 ≤ s8 ∧ s8 ≤ 4294967295) (hb : body.size ≤ 2000) : getI (ipM s0 s1 s2 s3 s4 s5 s6 s7 s8 o body more) = (s0, s1, s2, s3, s4, s5, s6, s7, s8, o, body, 0) := by
  obtain ⟨c1, c2, c3, c4, c5, c6, d1, d2, e1, e2, e3, f1, f2⟩ := chkI_all hc
  have hL := ipM_list s0 s1 s2 s3 s4 s5 s6 s7 s8 o body more
  have hl := ip_len s0 s1 s2 s3 s4 s5 s6 s7 s8 o body more f1 f2
  have hs := ipM_size s0 s1 s2 s3 s4 s5 s6 s7 s8 o body more
  have hb0 := ip_bt0 s0 s1 s2 s3 s4 s5 s6 s7 s8 o body more f1
  have ha := ip_all s0 s1 s2 s3 s4 s5 s6 s7 s8 o body more f1 hb
  have hw : wrongI (ipM s0 s1 s2 s3 s4 s5 s6 s7 s8 o body more) = 0 := by
    unfold wrongI
    rw [hs, hl, hb0, ha, ip_bt6 s0 s1 s2 s3 s4 s5 s6 s7 s8 o body more e1 e2, ip_headlist, head_sum, if_neg (by omega), if_neg (by omega), if_neg (by omega), if_neg (by omega), if_neg (by omega), if_neg (by omega), if_neg (by omega), if_neg (by simp)]
  unfold getI okI
  rw [if_pos hw, hl, ha, Int.toNat_natCast, ip_bt1 s0 s1 s2 s3 s4 s5 s6 s7 s8 o body more c1 c2, ip_bt8 s0 s1 s2 s3 s4 s5 s6 s7 s8 o body more c3 c4, ip_bt9 s0 s1 s2 s3 s4 s5 s6 s7 s8 o body more c5 c6, ip_cut s0 s1 s2 s3 s4 s5 s6 s7 s8 o body more e1 e2, cut_more s2 s3 s4 e1 e2, cut_keep s2 s3 s4 e1 e2, cut_off s2 s3 s4 e1 e2 e3]
  have o1 : (ipM s0 s1 s2 s3 s4 s5 s6 s7 s8 o body more).extract 20 (20 + o.size) = o := ba_ext (cut_at (a := (bigS ((64 + (20 + o.size) / 4 : Nat) : Int) 1).data.toList ++ ((bigS s0 1).data.toList ++ ((bigS ((20 + o.size + body.size : Nat) : Int) 2).data.toList ++ ((bigS s1 2).data.toList ++ ((bigS (cutI s2 s3 s4) 2).data.toList ++ ((bigS s5 1).data.toList ++ ((bigS s6 1).data.toList ++
    ((bigS (sumI s0 s1 s2 s3 s4 s5 s6 s7 s8 o body.size) 2).data.toList ++ ((bigS s7 4).data.toList ++ (bigS s8 4).data.toList))))))))) (c := body.data.toList ++ more.data.toList) (by rw [hL]; simp only [List.append_assoc]) (by simp only [List.length_append, bigS_length]) (by rw [list_len]))
  have o2 : (ipM s0 s1 s2 s3 s4 s5 s6 s7 s8 o body more).extract (20 + o.size) (20 + o.size + body.size) = body := ba_ext (cut_at (a := (headI s0 s1 s2 s3 s4 s5 s6 s7 s8 o body.size).data.toList) (c := more.data.toList) (by simp only [ipM, app_list, List.append_assoc]) (by rw [list_len, headI_size]) (by rw [list_len]))
  have n1 : numOf ((ipM s0 s1 s2 s3 s4 s5 s6 s7 s8 o body more).extract 4 6) = s1 := by
    rw [numOf_list (v := s1) (n := 2) (cut_at (a := (bigS ((64 + (20 + o.size) / 4 : Nat) : Int) 1).data.toList ++ ((bigS s0 1).data.toList ++ (bigS ((20 + o.size + body.size : Nat) : Int) 2).data.toList)) (by rw [hL]; simp only [List.append_assoc]; rfl) (by simp only [List.length_append, bigS_length]) (by rw [bigS_length])) (by omega), show (256 : Int) ^ 2 = 65536 from rfl]
    omega
  have n2 : numOf ((ipM s0 s1 s2 s3 s4 s5 s6 s7 s8 o body more).extract 12 16) = s7 := by
    rw [numOf_list (v := s7) (n := 4) (cut_at (a := (bigS ((64 + (20 + o.size) / 4 : Nat) : Int) 1).data.toList ++ ((bigS s0 1).data.toList ++ ((bigS ((20 + o.size + body.size : Nat) : Int) 2).data.toList ++ ((bigS s1 2).data.toList ++ ((bigS (cutI s2 s3 s4) 2).data.toList ++ ((bigS s5 1).data.toList ++ ((bigS s6 1).data.toList ++
    (bigS (sumI s0 s1 s2 s3 s4 s5 s6 s7 s8 o body.size) 2).data.toList))))))) (by rw [hL]; simp only [List.append_assoc]; rfl) (by simp only [List.length_append, bigS_length]) (by rw [bigS_length])) (by omega), show (256 : Int) ^ 4 = 4294967296 from rfl]
    omega
  have n3 : numOf ((ipM s0 s1 s2 s3 s4 s5 s6 s7 s8 o body more).extract 16 20) = s8 := by
    rw [numOf_list (v := s8) (n := 4) (cut_at (a := (bigS ((64 + (20 + o.size) / 4 : Nat) : Int) 1).data.toList ++ ((bigS s0 1).data.toList ++ ((bigS ((20 + o.size + body.size : Nat) : Int) 2).data.toList ++ ((bigS s1 2).data.toList ++ ((bigS (cutI s2 s3 s4) 2).data.toList ++ ((bigS s5 1).data.toList ++ ((bigS s6 1).data.toList ++
    ((bigS (sumI s0 s1 s2 s3 s4 s5 s6 s7 s8 o body.size) 2).data.toList ++ (bigS s7 4).data.toList)))))))) (by rw [hL]; simp only [List.append_assoc]; rfl) (by simp only [List.length_append, bigS_length]) (by rw [bigS_length])) (by omega), show (256 : Int) ^ 4 = 4294967296 from rfl]
    omega
  rw [o1, o2, n1, n2, n3, Int.emod_eq_of_lt h7.1 (by omega), Int.emod_eq_of_lt h8.1 (by omega)]
end
end Go.Proofs.Ytgolimfljndnmaa.QV
