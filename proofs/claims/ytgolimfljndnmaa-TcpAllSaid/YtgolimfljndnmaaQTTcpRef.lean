/- What is proved: the document's Put and Get of segments are the program's, in closed form. Conditions: those that stand in each theorem. -/
import Derived.Test.YtgolimfljndnmaaQTTcpGet
import Derived.Test.YtgolimfljndnmaaQTRefSum
import Derived.Test.YtgolimfljndnmaaHTx10
import Derived.Test.YtgolimfljndnmaaHTx12
import Derived.Test.YtgolimfljndnmaaHTx13
namespace Go.Proofs.Ytgolimfljndnmaa.QT
open Go.RowKit Go.Proofs.Ytgolimfljndnmaa.HT Go.Proofs.YtgolimfljndnmaaW.PrintWords Go.Proofs.YtgolimfljndnmaaW.PrintLast Go.Proofs.YtgolimfljndnmaaW.PrintMore
set_option linter.unusedVariables false
set_option linter.unusedSimpArgs false
theorem rsum_run (k : Nat) (src dst n : Int) (s t1 t2 t3 t4 : ByteArray) (v : Int) (w1 : wrap64 src = src) (w2 : wrap64 dst = dst)
    (e1 : rampartref01_Big.f k src 4 = some t1) (e2 : rampartref01_Big.f k dst 4 = some t2) (e3 : rampartref01_Big.f k n 2 = some t3) (e4 : rampartref01_Big.f k (s.size : Int) 2 = some t4) (e5 : rampartref01_Of.f k (t1 ++ t2 ++ t3 ++ t4 ++ s) = some v)
    (z : t1.size ≤ 8 ∧ t2.size ≤ 8 ∧ t3.size ≤ 8 ∧ t4.size ≤ 8 ∧ s.size ≤ 100000) : rampartref04_Sum.f k src dst n s = some v := by
  obtain ⟨y1, y2, y3, y4, y5⟩ := z
  have b1 : t1.size + t2.size ≤ 9223372036854775807 := room (by omega)
  have b2 : (t1 ++ t2).size + t3.size ≤ 9223372036854775807 := room (by simp only [ByteArray.size_append]; omega)
  have b3 : (t1 ++ t2 ++ t3).size + t4.size ≤ 9223372036854775807 := room (by simp only [ByteArray.size_append]; omega)
  have b4 : (t1 ++ t2 ++ t3 ++ t4).size + s.size ≤ 9223372036854775807 := room (by simp only [ByteArray.size_append]; omega)
  simp only [rampartref04_Sum.f]
  rw [w1, w2, e1, Option.bind_some, e2, Option.bind_some, if_pos b1, e3, Option.bind_some, if_pos b2, e4, Option.bind_some, if_pos b3, if_pos b4, e5, Option.bind_some]
theorem six_list : (bigS 6 2).data.toList = z1.data.toList ++ (bigS 6 1).data.toList := by decide +kernel
theorem rsum_ev (src dst : Int) (s : ByteArray) (hs : 0 ≤ src ∧ src ≤ 4294967295) (hd : 0 ≤ dst ∧ dst ≤ 4294967295) (hz : s.size ≤ 100000) : Ev (fun k => rampartref04_Sum.f k src dst 6 s) (whole src dst s) := by
  obtain ⟨K1, q1⟩ := rbig_ev_nat src 4 (by omega)
  obtain ⟨K2, q2⟩ := rbig_ev_nat dst 4 (by omega)
  obtain ⟨K3, q3⟩ := rbig_ev_nat 6 2 (by omega)
  obtain ⟨K4, q4⟩ := rbig_ev_nat (s.size : Int) 2 (by omega)
  obtain ⟨K5, q5⟩ := rof_ev (bigS src 4 ++ bigS dst 4 ++ bigS 6 2 ++ bigS (s.size : Int) 2 ++ s) (by simp only [ByteArray.size_append, bigS_size]; omega)
  refine ⟨K1 + K2 + K3 + K4 + K5, fun k hk => ?_⟩
  have e := rsum_run k src dst 6 s _ _ _ _ _ (wrap_u32 hs) (wrap_u32 hd) (q1 k (by omega)) (q2 k (by omega)) (q3 k (by omega)) (q4 k (by omega)) (q5 k (by omega)) (by simp only [bigS_size]; omega)
  have : (bigS src 4 ++ bigS dst 4 ++ bigS 6 2 ++ bigS (s.size : Int) 2 ++ s).data.toList = (pseudoT src dst 6 (s.size : Int)).data.toList ++ s.data.toList := by
    simp only [pseudoT, app_list, six_list, List.append_assoc]
  rw [this] at e
  exact e
theorem rput_run (k : Nat) (src dst s0 s1 s2 s3 s4 s5 : Int) (o body t1 t2 t3 t4 t5 t6 t7 tv : ByteArray) (v w2 w3 wo bg : Int) (hc : chkT s0 s1 s4 s5 o = true)
    (hbg : wrap64 (1980 - (o.size : Int)) = bg) (hbig : ¬ (body.size : Int) > bg) (hw2 : wrap64 s2 = w2) (hw3 : wrap64 s3 = w3) (hwo : wrap64 (wrap64 (Int.tdiv (wrap64 (20 + (o.size : Int))) 4) * 16) = wo)
    (e1 : rampartref01_Big.f k s0 2 = some t1) (e2 : rampartref01_Big.f k s1 2 = some t2) (e3 : rampartref01_Big.f k w2 4 = some t3) (e4 : rampartref01_Big.f k w3 4 = some t4) (e5 : rampartref01_Big.f k wo 1 = some t5) (e6 : rampartref01_Big.f k s4 1 = some t6) (e7 : rampartref01_Big.f k s5 2 = some t7)
    (e9 : rampartref04_Sum.f k src dst 6 (t1 ++ t2 ++ t3 ++ t4 ++ t5 ++ t6 ++ t7 ++ (⟨#[0, 0]⟩ : ByteArray) ++ ((⟨#[0, 0]⟩ : ByteArray) ++ o ++ body)) = some v) (e10 : rampartref01_Big.f k v 2 = some tv)
    (z : t1.size ≤ 8 ∧ t2.size ≤ 8 ∧ t3.size ≤ 8 ∧ t4.size ≤ 8 ∧ t5.size ≤ 8 ∧ t6.size ≤ 8 ∧ t7.size ≤ 8 ∧ tv.size ≤ 8 ∧ o.size ≤ 40 ∧ body.size ≤ 2000) :
    rampartref04_Put.f k src dst s0 s1 s2 s3 s4 s5 o body = some (t1 ++ t2 ++ t3 ++ t4 ++ t5 ++ t6 ++ t7 ++ tv ++ ((⟨#[0, 0]⟩ : ByteArray) ++ o ++ body), 0) := by
  obtain ⟨y1, y2, y3, y4, y5, y6, y7, y8, y9, y10⟩ := z
  have zz : (⟨#[0, 0]⟩ : ByteArray).size = 2 := rfl
  have b1 : t1.size + t2.size ≤ 9223372036854775807 := room (by omega)
  have b2 : (t1 ++ t2).size + t3.size ≤ 9223372036854775807 := room (by simp only [ByteArray.size_append]; omega)
  have b3 : (t1 ++ t2 ++ t3).size + t4.size ≤ 9223372036854775807 := room (by simp only [ByteArray.size_append]; omega)
  have b4 : (t1 ++ t2 ++ t3 ++ t4).size + t5.size ≤ 9223372036854775807 := room (by simp only [ByteArray.size_append]; omega)
  have b5 : (t1 ++ t2 ++ t3 ++ t4 ++ t5).size + t6.size ≤ 9223372036854775807 := room (by simp only [ByteArray.size_append]; omega)
  have b6 : (t1 ++ t2 ++ t3 ++ t4 ++ t5 ++ t6).size + t7.size ≤ 9223372036854775807 := room (by simp only [ByteArray.size_append]; omega)
  have b7 : 2 + o.size ≤ 9223372036854775807 := room (by omega)
  have b8 : ((⟨#[0, 0]⟩ : ByteArray) ++ o).size + body.size ≤ 9223372036854775807 := room (by rw [ByteArray.size_append, zz]; omega)
  have c1 : (t1 ++ t2 ++ t3 ++ t4 ++ t5 ++ t6 ++ t7).size + 2 ≤ 9223372036854775807 := room (by simp only [ByteArray.size_append]; omega)
  have c2 : (t1 ++ t2 ++ t3 ++ t4 ++ t5 ++ t6 ++ t7 ++ (⟨#[0, 0]⟩ : ByteArray)).size + ((⟨#[0, 0]⟩ : ByteArray) ++ o ++ body).size ≤ 9223372036854775807 := room (by simp only [ByteArray.size_append, zz]; omega)
  have b9 : (t1 ++ t2 ++ t3 ++ t4 ++ t5 ++ t6 ++ t7).size + tv.size ≤ 9223372036854775807 := room (by simp only [ByteArray.size_append]; omega)
  have b10 : (t1 ++ t2 ++ t3 ++ t4 ++ t5 ++ t6 ++ t7 ++ tv).size + ((⟨#[0, 0]⟩ : ByteArray) ++ o ++ body).size ≤ 9223372036854775807 := room (by simp only [ByteArray.size_append, zz]; omega)
  simp only [rampartref04_Put.f]
  rw [ref_check_some, Option.bind_some, if_pos hc, hbg, if_neg hbig, e1, Option.bind_some, e2, Option.bind_some, if_pos b1, hw2, e3, Option.bind_some, if_pos b2, hw3, e4, Option.bind_some, if_pos b3,
    hwo, e5, Option.bind_some, if_pos b4, e6, Option.bind_some, if_pos b5, e7, Option.bind_some, if_pos b6, if_pos b7, if_pos b8, if_pos c1, if_pos c2, e9, Option.bind_some, e10, Option.bind_some, if_pos b9, if_pos b10]
theorem roff_word (n : Nat) (h : n ≤ 40) : wrap64 (wrap64 (Int.tdiv (wrap64 (20 + (n : Int))) 4) * 16) = (((20 + n) / 4 * 16 : Nat) : Int) := by
  rw [show wrap64 (20 + (n : Int)) = ((20 + n : Nat) : Int) by unfold wrap64; omega]
  exact off_word n h
theorem rput_ev (src dst s0 s1 s2 s3 s4 s5 : Int) (o body : ByteArray) (hs : 0 ≤ src ∧ src ≤ 4294967295) (hd : 0 ≤ dst ∧ dst ≤ 4294967295) (h2 : 0 ≤ s2 ∧ s2 ≤ 4294967295) (h3 : 0 ≤ s3 ∧ s3 ≤ 4294967295) (hb : body.size ≤ 140737488351232) :
    Ev (fun k => rampartref04_Put.f k src dst s0 s1 s2 s3 s4 s5 o body) (putT src dst s0 s1 s2 s3 s4 s5 o body) := by
  by_cases hc : chkT s0 s1 s4 s5 o = true
  · have hop := chkT_opts hc
    have hbg : wrap64 (1980 - (o.size : Int)) = 1980 - (o.size : Int) := by unfold wrap64; omega
    by_cases hbig : 20 + o.size + body.size > 2000
    · refine ⟨0, fun k _ => ?_⟩
      simp only [rampartref04_Put.f, putT]
      rw [ref_check_some, Option.bind_some, if_pos hc, hbg, if_pos (show (body.size : Int) > 1980 - (o.size : Int) by omega), if_pos hc, if_pos hbig]
    · obtain ⟨K1, q1⟩ := rbig_ev_nat s0 2 (by omega)
      obtain ⟨K2, q2⟩ := rbig_ev_nat s1 2 (by omega)
      obtain ⟨K3, q3⟩ := rbig_ev_nat s2 4 (by omega)
      obtain ⟨K4, q4⟩ := rbig_ev_nat s3 4 (by omega)
      obtain ⟨K5, q5⟩ := rbig_ev_nat (((20 + o.size) / 4 * 16 : Nat) : Int) 1 (by omega)
      obtain ⟨K6, q6⟩ := rbig_ev_nat s4 1 (by omega)
      obtain ⟨K7, q7⟩ := rbig_ev_nat s5 2 (by omega)
      have hsz : (frontT s0 s1 s2 s3 s4 s5 o.size ++ z2 ++ backT o body).size = 20 + o.size + body.size := by
        simp only [ByteArray.size_append, frontT_size, z2_size, backT_size]
        omega
      obtain ⟨K9, q9⟩ := rsum_ev src dst (frontT s0 s1 s2 s3 s4 s5 o.size ++ z2 ++ backT o body) hs hd (by rw [hsz]; omega)
      have hwh : whole src dst (frontT s0 s1 s2 s3 s4 s5 o.size ++ z2 ++ backT o body) = sumT src dst s0 s1 s2 s3 s4 s5 o body := by
        unfold whole sumT
        rw [hsz]
        simp only [app_list, List.append_assoc]
      rw [hwh] at q9
      obtain ⟨K10, q10⟩ := rbig_ev_nat (sumT src dst s0 s1 s2 s3 s4 s5 o body) 2 (by omega)
      refine ⟨K1 + K2 + K3 + K4 + K5 + K6 + K7 + K9 + K10, fun k hk => ?_⟩
      have e := rput_run k src dst s0 s1 s2 s3 s4 s5 o body _ _ _ _ _ _ _ _ _ _ _ _ _ hc hbg (show ¬ (body.size : Int) > 1980 - (o.size : Int) by omega) (wrap_u32 h2) (wrap_u32 h3) (roff_word o.size hop.1)
        (q1 k (by omega)) (q2 k (by omega)) (q3 k (by omega)) (q4 k (by omega)) (q5 k (by omega)) (q6 k (by omega)) (q7 k (by omega)) (q9 k (by omega)) (q10 k (by omega)) (by simp only [bigS_size]; omega)
      simp only [putT]
      rw [if_pos hc, if_neg hbig]
      exact e
  · refine ⟨0, fun k _ => ?_⟩
    simp only [rampartref04_Put.f, putT]
    rw [ref_check_some, Option.bind_some, if_neg hc, if_neg hc]
theorem rget_run (k : Nat) (src dst : Int) (s : ByteArray) (v1 v2 v3 v4 v5 : Int) (m : Nat) (hb : ¬ (s.size : Int) > 2000) (hw : rampartref04_Sum.f k src dst 6 s = some 0) (h20 : 20 ≤ s.size) (hm : 20 ≤ m) (hm2 : m ≤ s.size)
    (e1 : rampartref01_Num.f k (s.extract 0 2) = some v1) (e2 : rampartref01_Num.f k (s.extract 2 4) = some v2) (e3 : rampartref01_Num.f k (s.extract 4 8) = some v3) (e4 : rampartref01_Num.f k (s.extract 8 12) = some v4) (e5 : rampartref01_Num.f k (s.extract 14 16) = some v5) :
    rampartref04_Get.j0 (k + 1) src dst s (m : Int) false = some (v1, v2, v3 % 4294967296, v4 % 4294967296, wrap64 (bt s 13), v5, s.extract 20 m, s.extract m s.size, 0) := by
  simp only [rampartref04_Get.j0, Bool.false_eq_true, if_false]
  rw [if_neg hb, hw, Option.bind_some, if_pos rfl, if_pos (show (0 : Nat) ≤ 2 by decide), if_pos (show (2 : Int) ≤ (s.size : Int) by omega), e1, Option.bind_some, if_pos (show (2 : Nat) ≤ 4 by decide), if_pos (show (4 : Int) ≤ (s.size : Int) by omega), e2, Option.bind_some,
    if_pos (show (4 : Nat) ≤ 8 by decide), if_pos (show (8 : Int) ≤ (s.size : Int) by omega), e3, Option.bind_some, if_pos (show (8 : Nat) ≤ 12 by decide), if_pos (show (12 : Int) ≤ (s.size : Int) by omega), e4, Option.bind_some, if_pos (show (13 : Int) < (s.size : Int) by omega), if_pos (show (14 : Nat) ≤ 16 by decide), if_pos (show (16 : Int) ≤ (s.size : Int) by omega), e5, Option.bind_some,
    if_pos (show (20 : Int) ≤ (m : Int) by omega), if_pos (show (m : Int) ≤ (s.size : Int) by omega), if_pos (Int.natCast_nonneg _), Int.toNat_natCast]
theorem rnum_ext (s : ByteArray) (a b : Nat) (h : b - a ≤ 8) : Ev (fun k => rampartref01_Num.f k (s.extract a b)) (numOf (s.extract a b)) := rnum_ev _ (by simp; omega)
theorem word_d (s : ByteArray) : wrap64 (wrap64 (bt s 12 / 16) * 4) = ((lenT s : Nat) : Int) := by
  rw [lenT_int]
  have := bt_range s 12
  unfold wrap64
  omega
theorem rget_j0 (src dst : Int) (s : ByteArray) (hs : 0 ≤ src ∧ src ≤ 4294967295) (hd : 0 ≤ dst ∧ dst ≤ 4294967295) (h20 : 20 ≤ s.size) (hm : 20 ≤ lenT s) (hm2 : lenT s ≤ s.size) :
    Ev (fun k => rampartref04_Get.j0 k src dst s ((lenT s : Nat) : Int) false) (if s.size > 2000 then errT 5 else if whole src dst s = 0 then okT s else errT 4) := by
  by_cases hb : s.size > 2000
  · refine ⟨1, fun k hk => ?_⟩
    obtain ⟨k, rfl⟩ : ∃ m, k = m + 1 := ⟨k - 1, by omega⟩
    simp only [rampartref04_Get.j0, Bool.false_eq_true, if_false]
    rw [if_pos (show (s.size : Int) > 2000 by omega), if_pos hb]
    rfl
  · obtain ⟨K0, q0⟩ := rsum_ev src dst s hs hd (by omega)
    obtain ⟨K1, q1⟩ := rnum_ext s 0 2 (by omega)
    obtain ⟨K2, q2⟩ := rnum_ext s 2 4 (by omega)
    obtain ⟨K3, q3⟩ := rnum_ext s 4 8 (by omega)
    obtain ⟨K4, q4⟩ := rnum_ext s 8 12 (by omega)
    obtain ⟨K5, q5⟩ := rnum_ext s 14 16 (by omega)
    refine ⟨K0 + K1 + K2 + K3 + K4 + K5 + 1, fun k hk => ?_⟩
    obtain ⟨k, rfl⟩ : ∃ m, k = m + 1 := ⟨k - 1, by omega⟩
    have e0 : rampartref04_Sum.f k src dst 6 s = some (whole src dst s) := q0 k (by omega)
    rw [if_neg hb]
    by_cases hz : whole src dst s = 0
    · rw [if_pos hz]
      rw [hz] at e0
      have := rget_run k src dst s _ _ _ _ _ (lenT s) (show ¬ (s.size : Int) > 2000 by omega) e0 h20 hm hm2 (q1 k (by omega)) (q2 k (by omega)) (q3 k (by omega)) (q4 k (by omega)) (q5 k (by omega))
      rw [word_c] at this
      exact this
    · rw [if_neg hz]
      simp only [rampartref04_Get.j0, Bool.false_eq_true, if_false]
      rw [if_neg (show ¬ (s.size : Int) > 2000 by omega), e0, Option.bind_some, if_neg hz]
      rfl
theorem rget_ev (src dst : Int) (s : ByteArray) (hs : 0 ≤ src ∧ src ≤ 4294967295) (hd : 0 ≤ dst ∧ dst ≤ 4294967295) : Ev (fun k => rampartref04_Get.f k src dst s) (getT src dst s) := by
  have hl := lenT_int s
  have hb := bt_range s 12
  unfold getT wrongT
  by_cases h1 : s.size < 20
  · rw [if_pos h1]
    refine ⟨0, fun k _ => ?_⟩
    simp only [rampartref04_Get.f]
    rw [if_pos (show (s.size : Int) < 20 by omega)]
    rfl
  · rw [if_neg h1]
    by_cases h2 : lenT s < 20
    · rw [if_pos h2]
      refine ⟨0, fun k _ => ?_⟩
      simp only [rampartref04_Get.f]
      rw [if_neg (show ¬ (s.size : Int) < 20 by omega), if_pos (show (12 : Int) < (s.size : Int) by omega), word_d, if_pos (show ((lenT s : Nat) : Int) < 20 by omega)]
      rfl
    · rw [if_neg h2]
      by_cases h3 : s.size < lenT s
      · rw [if_pos h3]
        refine ⟨0, fun k _ => ?_⟩
        simp only [rampartref04_Get.f]
        rw [if_neg (show ¬ (s.size : Int) < 20 by omega), if_pos (show (12 : Int) < (s.size : Int) by omega), word_d, if_neg (show ¬ ((lenT s : Nat) : Int) < 20 by omega), if_pos (show (s.size : Int) < ((lenT s : Nat) : Int) by omega)]
        rfl
      · rw [if_neg h3]
        by_cases h4 : bt s 12 % 16 = 0
        · by_cases h5 : bt s 13 > 63
          · rw [if_pos (show bt s 12 % 16 ≠ 0 ∨ bt s 13 > 63 from .inr h5)]
            refine ⟨1, fun k hk => ?_⟩
            obtain ⟨k, rfl⟩ : ∃ m, k = m + 1 := ⟨k - 1, by omega⟩
            simp only [rampartref04_Get.f]
            rw [if_neg (show ¬ (s.size : Int) < 20 by omega), if_pos (show (12 : Int) < (s.size : Int) by omega), word_d, if_neg (show ¬ ((lenT s : Nat) : Int) < 20 by omega), if_neg (show ¬ (s.size : Int) < ((lenT s : Nat) : Int) by omega), and15, if_pos h4, if_pos (show (13 : Int) < (s.size : Int) by omega), decide_eq_true h5]
            simp only [rampartref04_Get.j0, if_true]
            rfl
          · rw [if_neg (show ¬ (bt s 12 % 16 ≠ 0 ∨ bt s 13 > 63) by rintro (h | h) <;> omega)]
            have H := rget_j0 src dst s hs hd (by omega) (by omega) (by omega)
            have hv : (if (if s.size > 2000 then (5 : Int) else if whole src dst s ≠ 0 then 4 else 0) = 0 then okT s else errT (if s.size > 2000 then 5 else if whole src dst s ≠ 0 then 4 else 0)) = (if s.size > 2000 then errT 5 else if whole src dst s = 0 then okT s else errT 4) := by
              by_cases hbb : s.size > 2000
              · rw [if_pos hbb, if_neg (by decide), if_pos hbb]
              · rw [if_neg hbb, if_neg hbb]
                by_cases hz : whole src dst s = 0
                · rw [if_neg (show ¬ (whole src dst s ≠ 0) from fun h => h hz), if_pos rfl, if_pos hz]
                · rw [if_pos hz, if_neg (by decide), if_neg hz]
            rw [hv]
            refine Ev.congr (fun k => ?_) H
            simp only [rampartref04_Get.f]
            rw [if_neg (show ¬ (s.size : Int) < 20 by omega), if_pos (show (12 : Int) < (s.size : Int) by omega), word_d, if_neg (show ¬ ((lenT s : Nat) : Int) < 20 by omega), if_neg (show ¬ (s.size : Int) < ((lenT s : Nat) : Int) by omega), and15, if_pos h4, if_pos (show (13 : Int) < (s.size : Int) by omega), decide_eq_false h5]
        · rw [if_pos (show bt s 12 % 16 ≠ 0 ∨ bt s 13 > 63 from .inl h4)]
          refine ⟨1, fun k hk => ?_⟩
          obtain ⟨k, rfl⟩ : ∃ m, k = m + 1 := ⟨k - 1, by omega⟩
          simp only [rampartref04_Get.f]
          rw [if_neg (show ¬ (s.size : Int) < 20 by omega), if_pos (show (12 : Int) < (s.size : Int) by omega), word_d, if_neg (show ¬ ((lenT s : Nat) : Int) < 20 by omega), if_neg (show ¬ (s.size : Int) < ((lenT s : Nat) : Int) by omega), and15, if_neg h4]
          simp only [rampartref04_Get.j0, if_true]
          rfl
theorem same_some (s : GotT) : rampartref04_Same.f s.1 s.2.1 s.2.2.1 s.2.2.2.1 s.2.2.2.2.1 s.2.2.2.2.2.1 s.2.2.2.2.2.2.1 s.1 s.2.1 s.2.2.1 s.2.2.2.1 s.2.2.2.2.1 s.2.2.2.2.2.1 s.2.2.2.2.2.2.1 = some true := by
  simp [rampartref04_Same.f]
end Go.Proofs.Ytgolimfljndnmaa.QT
