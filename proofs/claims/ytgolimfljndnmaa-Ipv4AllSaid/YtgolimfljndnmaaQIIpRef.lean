/- What is proved: the document's Put and Get of datagrams are the program's, in closed form. Conditions: those that stand in each theorem. -/
import Derived.Test.YtgolimfljndnmaaQIIpGet
import Derived.Test.YtgolimfljndnmaaQIRefSum
import Derived.Test.YtgolimfljndnmaaHIx9
import Derived.Test.YtgolimfljndnmaaHIx11
import Derived.Test.YtgolimfljndnmaaHIx12
import Derived.Test.YtgolimfljndnmaaHIx7
namespace Go.Proofs.Ytgolimfljndnmaa.QI
open Go.RowKit Go.Proofs.Ytgolimfljndnmaa.HI Go.Proofs.YtgolimfljndnmaaW.PrintWords Go.Proofs.YtgolimfljndnmaaW.PrintLast Go.Proofs.YtgolimfljndnmaaW.PrintMore
set_option linter.unusedVariables false
set_option linter.unusedSimpArgs false
theorem ite_and {c d : Prop} [Decidable c] [Decidable d] {x : Option Bool} (h : c → x = some (decide d)) : (if c then x else some false) = some (decide (c ∧ d)) := by
  by_cases hc : c
  · rw [if_pos hc, h hc]; congr 1; rw [Bool.eq_iff_iff]; simp [hc]
  · rw [if_neg hc]; congr 1; rw [Bool.eq_iff_iff]; simp [hc]
theorem rcheck_some (s0 s1 : Int) (s2 s3 : Bool) (s4 s5 s6 s7 s8 : Int) (o : ByteArray) : rampartref03_Check.f s0 s1 s2 s3 s4 s5 s6 s7 s8 o = some (chkI s0 s1 s4 s5 s6 o) := by
  have hR : chkI s0 s1 s4 s5 s6 o = decide (s0 ≥ 0 ∧ s0 ≤ 255 ∧ s5 ≥ 0 ∧ s5 ≤ 255 ∧ s6 ≥ 0 ∧ s6 ≤ 255 ∧ s1 ≥ 0 ∧ s1 ≤ 65535 ∧ s4 ≥ 0 ∧ s4 ≤ 65528 ∧ Int.tmod s4 8 = 0 ∧ (o.size : Int) ≤ 40 ∧ (o.size : Int) % 4 = 0) := by
    unfold chkI
    rw [Bool.eq_iff_iff]
    simp only [decide_eq_true_eq]
    by_cases h : 0 ≤ s4
    · rw [tmod8 h]; omega
    · constructor
      · intro hh; exact absurd hh.2.2.2.2.2.2.2.2.1 h
      · intro hh; exact absurd hh.2.2.2.2.2.2.2.2.1 h
  rw [hR]
  simp only [rampartref03_Check.f]
  refine ite_and fun _ => ite_and fun _ => ite_and fun _ => ite_and fun _ => ite_and fun _ => ite_and fun _ => ite_and fun _ => ite_and fun _ => ite_and fun _ => ite_and fun _ => ite_and fun _ => ite_and fun _ => ?_
  congr 1
theorem riput_run (k : Nat) (s0 s1 : Int) (s2 s3 : Bool) (s4 s5 s6 s7 s8 sz cut : Int) (o body t1 t2 t3 t4 t5 t6 t7 ta tb tv : ByteArray) (v n1 n3 w7 w8 : Int)
    (h1 : wrap64 (64 + (wrap64 (Int.tdiv sz 4))) = n1) (h3 : wrap64 (sz + (body.size : Int)) = n3) (h7 : wrap64 s7 = w7) (h8 : wrap64 s8 = w8)
    (e1 : rampartref01_Big.f k n1 1 = some t1) (e2 : rampartref01_Big.f k s0 1 = some t2) (e3 : rampartref01_Big.f k n3 2 = some t3) (e4 : rampartref01_Big.f k s1 2 = some t4) (e5 : rampartref01_Big.f k cut 2 = some t5) (e6 : rampartref01_Big.f k s5 1 = some t6) (e7 : rampartref01_Big.f k s6 1 = some t7)
    (ea : rampartref01_Big.f k w7 4 = some ta) (eb : rampartref01_Big.f k w8 4 = some tb) (es : rampartref01_Of.f k (t1 ++ t2 ++ t3 ++ t4 ++ t5 ++ t6 ++ t7 ++ (⟨#[0, 0]⟩ : ByteArray) ++ (ta ++ tb ++ o)) = some v) (ev : rampartref01_Big.f k v 2 = some tv)
    (z : t1.size ≤ 8 ∧ t2.size ≤ 8 ∧ t3.size ≤ 8 ∧ t4.size ≤ 8 ∧ t5.size ≤ 8 ∧ t6.size ≤ 8 ∧ t7.size ≤ 8 ∧ ta.size ≤ 8 ∧ tb.size ≤ 8 ∧ tv.size ≤ 8 ∧ o.size ≤ 40 ∧ body.size ≤ 2000) :
    rampartref03_Put.j1 (k + 1) body sz cut s0 s1 s2 s3 s4 s5 s6 s7 s8 o = some (t1 ++ t2 ++ t3 ++ t4 ++ t5 ++ t6 ++ t7 ++ tv ++ (ta ++ tb ++ o) ++ body, 0) := by
  obtain ⟨y1, y2, y3, y4, y5, y6, y7, ya, yb, yv, yo, yy⟩ := z
  have zz : (⟨#[0, 0]⟩ : ByteArray).size = 2 := rfl
  have b1 : t1.size + t2.size ≤ 9223372036854775807 := room (by omega)
  have b2 : (t1 ++ t2).size + t3.size ≤ 9223372036854775807 := room (by simp only [ByteArray.size_append]; omega)
  have b3 : (t1 ++ t2 ++ t3).size + t4.size ≤ 9223372036854775807 := room (by simp only [ByteArray.size_append]; omega)
  have b4 : (t1 ++ t2 ++ t3 ++ t4).size + t5.size ≤ 9223372036854775807 := room (by simp only [ByteArray.size_append]; omega)
  have b5 : (t1 ++ t2 ++ t3 ++ t4 ++ t5).size + t6.size ≤ 9223372036854775807 := room (by simp only [ByteArray.size_append]; omega)
  have b6 : (t1 ++ t2 ++ t3 ++ t4 ++ t5 ++ t6).size + t7.size ≤ 9223372036854775807 := room (by simp only [ByteArray.size_append]; omega)
  have c1 : ta.size + tb.size ≤ 9223372036854775807 := room (by omega)
  have c2 : (ta ++ tb).size + o.size ≤ 9223372036854775807 := room (by simp only [ByteArray.size_append]; omega)
  have c3 : (t1 ++ t2 ++ t3 ++ t4 ++ t5 ++ t6 ++ t7).size + 2 ≤ 9223372036854775807 := room (by simp only [ByteArray.size_append]; omega)
  have c4 : (t1 ++ t2 ++ t3 ++ t4 ++ t5 ++ t6 ++ t7 ++ (⟨#[0, 0]⟩ : ByteArray)).size + (ta ++ tb ++ o).size ≤ 9223372036854775807 := room (by simp only [ByteArray.size_append, zz]; omega)
  have d1 : (t1 ++ t2 ++ t3 ++ t4 ++ t5 ++ t6 ++ t7).size + tv.size ≤ 9223372036854775807 := room (by simp only [ByteArray.size_append]; omega)
  have d2 : (t1 ++ t2 ++ t3 ++ t4 ++ t5 ++ t6 ++ t7 ++ tv).size + (ta ++ tb ++ o).size ≤ 9223372036854775807 := room (by simp only [ByteArray.size_append]; omega)
  have d3 : (t1 ++ t2 ++ t3 ++ t4 ++ t5 ++ t6 ++ t7 ++ tv ++ (ta ++ tb ++ o)).size + body.size ≤ 9223372036854775807 := room (by simp only [ByteArray.size_append]; omega)
  simp only [rampartref03_Put.j1]
  rw [h1, e1, Option.bind_some, e2, Option.bind_some, if_pos b1, h3, e3, Option.bind_some, if_pos b2, e4, Option.bind_some, if_pos b3, e5, Option.bind_some, if_pos b4, e6, Option.bind_some, if_pos b5, e7, Option.bind_some, if_pos b6,
    h7, ea, Option.bind_some, h8, eb, Option.bind_some, if_pos c1, if_pos c2, if_pos c3, if_pos c4, es, Option.bind_some, ev, Option.bind_some, if_pos d1, if_pos d2, if_pos d3]
theorem rword_one (n : Nat) (h : n ≤ 40) : wrap64 (64 + (wrap64 (Int.tdiv (wrap64 (20 + (n : Int))) 4))) = ((64 + (20 + n) / 4 : Nat) : Int) := by
  have hw : wrap64 (Int.tdiv (wrap64 (20 + (n : Int))) 4) = (((20 + n) / 4 : Nat) : Int) := by
    rw [show wrap64 (20 + (n : Int)) = ((20 + n : Nat) : Int) by unfold wrap64; omega, Int.tdiv_eq_ediv_of_nonneg (by omega)]
    unfold wrap64
    omega
  rw [hw]
  unfold wrap64
  omega
theorem rj1_ev (s0 s1 : Int) (s2 s3 : Bool) (s4 s5 s6 s7 s8 : Int) (o body : ByteArray) (h7 : 0 ≤ s7 ∧ s7 ≤ 4294967295) (h8 : 0 ≤ s8 ∧ s8 ≤ 4294967295) (hc : chkI s0 s1 s4 s5 s6 o = true) (hbig : ¬ body.size > 2000) :
    Ev (fun k => rampartref03_Put.j1 k body (wrap64 (20 + (o.size : Int))) (cutI s2 s3 s4) s0 s1 s2 s3 s4 s5 s6 s7 s8 o) (headI s0 s1 s2 s3 s4 s5 s6 s7 s8 o body.size ++ body, 0) := by
  obtain ⟨g1, g2, g3, g4, g5, g6, g7, g8, g9, g10, g11, g12, g13⟩ := chkI_all hc
  obtain ⟨K1, q1⟩ := rbig_ev_nat ((64 + (20 + o.size) / 4 : Nat) : Int) 1 (by omega)
  obtain ⟨K2, q2⟩ := rbig_ev_nat s0 1 (by omega)
  obtain ⟨K3, q3⟩ := rbig_ev_nat ((20 + o.size + body.size : Nat) : Int) 2 (by omega)
  obtain ⟨K4, q4⟩ := rbig_ev_nat s1 2 (by omega)
  obtain ⟨K5, q5⟩ := rbig_ev_nat (cutI s2 s3 s4) 2 (by omega)
  obtain ⟨K6, q6⟩ := rbig_ev_nat s5 1 (by omega)
  obtain ⟨K7, q7⟩ := rbig_ev_nat s6 1 (by omega)
  obtain ⟨Ka, qa⟩ := rbig_ev_nat s7 4 (by omega)
  obtain ⟨Kb, qb⟩ := rbig_ev_nat s8 4 (by omega)
  obtain ⟨Ks, qs⟩ := rof_ev (frontI s0 s1 s2 s3 s4 s5 s6 o.size body.size ++ z2 ++ backI s7 s8 o) (by simp only [ByteArray.size_append, frontI_size, z2_size, backI_size]; omega)
  have hl : sumOf (frontI s0 s1 s2 s3 s4 s5 s6 o.size body.size ++ z2 ++ backI s7 s8 o).data.toList = sumI s0 s1 s2 s3 s4 s5 s6 s7 s8 o body.size := by
    unfold sumI
    simp only [app_list, List.append_assoc]
  rw [hl] at qs
  obtain ⟨Kv, qv⟩ := rbig_ev_nat (sumI s0 s1 s2 s3 s4 s5 s6 s7 s8 o body.size) 2 (by omega)
  refine ⟨K1 + K2 + K3 + K4 + K5 + K6 + K7 + Ka + Kb + Ks + Kv + 1, fun k hk => ?_⟩
  obtain ⟨k, rfl⟩ : ∃ m, k = m + 1 := ⟨k - 1, by omega⟩
  exact riput_run k s0 s1 s2 s3 s4 s5 s6 s7 s8 (wrap64 (20 + (o.size : Int))) (cutI s2 s3 s4) o body _ _ _ _ _ _ _ _ _ _ _ _ _ _ _ (rword_one o.size g12) (word_len o.size body.size g12 (by omega)) (wrap_u32 h7) (wrap_u32 h8)
        (q1 k (by omega)) (q2 k (by omega)) (q3 k (by omega)) (q4 k (by omega)) (q5 k (by omega)) (q6 k (by omega)) (q7 k (by omega)) (qa k (by omega)) (qb k (by omega)) (qs k (by omega)) (qv k (by omega)) (by simp only [bigS_size]; omega)
theorem riput_ev (s0 s1 : Int) (s2 s3 : Bool) (s4 s5 s6 s7 s8 : Int) (o body : ByteArray) (h7 : 0 ≤ s7 ∧ s7 ≤ 4294967295) (h8 : 0 ≤ s8 ∧ s8 ≤ 4294967295) :
    Ev (fun k => rampartref03_Put.f k s0 s1 s2 s3 s4 s5 s6 s7 s8 o body) (putI s0 s1 s2 s3 s4 s5 s6 s7 s8 o body) := by
  by_cases hc : chkI s0 s1 s4 s5 s6 o = true
  · obtain ⟨g1, g2, g3, g4, g5, g6, g7, g8, g9, g10, g11, g12, g13⟩ := chkI_all hc
    by_cases hbig : body.size > 2000
    · refine ⟨0, fun k _ => ?_⟩
      simp only [rampartref03_Put.f, putI]
      rw [rcheck_some, Option.bind_some, if_pos hc, if_pos (show (body.size : Int) > 2000 by omega), if_pos hc, if_pos hbig]
    · obtain ⟨K, q⟩ := rj1_ev s0 s1 s2 s3 s4 s5 s6 s7 s8 o body h7 h8 hc hbig
      refine ⟨K + 2, fun k hk => ?_⟩
      obtain ⟨k, rfl⟩ : ∃ m, k = m + 1 := ⟨k - 1, by omega⟩
      have e : rampartref03_Put.j1 k body (wrap64 (20 + (o.size : Int))) (cutI s2 s3 s4) s0 s1 s2 s3 s4 s5 s6 s7 s8 o = some (headI s0 s1 s2 s3 s4 s5 s6 s7 s8 o body.size ++ body, 0) := q k (by omega)
      have hw : wrap64 (Int.tdiv s4 8) = s4 / 8 := by
        rw [Int.tdiv_eq_ediv_of_nonneg g9]
        unfold wrap64
        omega
      have b0 : 0 ≤ s4 / 8 := by omega
      have b1 : s4 / 8 ≤ 8191 := by omega
      simp only [rampartref03_Put.f, putI]
      rw [rcheck_some, Option.bind_some, if_pos hc, if_neg (show ¬ (body.size : Int) > 2000 by omega), if_pos hc, if_neg hbig, hw, ← e]
      unfold cutI
      generalize s4 / 8 = x at b0 b1
      have w1 : wrap64 (x + 16384) = x + 16384 := by unfold wrap64; omega
      have w2 : wrap64 (x + 8192) = x + 8192 := by unfold wrap64; omega
      have w3 : wrap64 (x + 16384 + 8192) = x + 16384 + 8192 := by unfold wrap64; omega
      have w4 : x + 0 + 0 = x := by omega
      have w5 : x + 16384 + 0 = x + 16384 := by omega
      have w6 : x + 0 + 8192 = x + 8192 := by omega
      cases s2 <;> cases s3 <;> simp only [rampartref03_Put.j0, Bool.false_eq_true, if_false, if_true, w1, w2, w3, w4, w5, w6]
  · refine ⟨0, fun k _ => ?_⟩
    simp only [rampartref03_Put.f, putI]
    rw [rcheck_some, Option.bind_some, if_neg hc, if_neg hc]
theorem rnum_ext (s : ByteArray) (a b : Nat) (h : b - a ≤ 8) : Ev (fun k => rampartref01_Num.f k (s.extract a b)) (numOf (s.extract a b)) := rnum_ev _ (by simp; omega)
theorem cut_top (s : ByteArray) (h : 8 ≤ s.size) : (cutOf s ≥ 32768) = (bt s 6 / 128 = 1) := by
  have h6 := bt_get s 6 (by omega)
  have h7 := bt_get s 7 (by omega)
  have b7 := bt_range s 7
  have b6 := bt_range s 6
  have : cutOf s = bt s 6 * 256 + bt s 7 := by
    unfold cutOf
    rw [numOf_short _ (by simp; omega), ext_list]
    have hd : s.data.toList.drop 6 = s.data.toList[6]'(by simpa using (by omega : 6 < s.size)) :: s.data.toList[7]'(by simpa using (by omega : 7 < s.size)) :: s.data.toList.drop 8 := by
      rw [List.drop_eq_getElem_cons (by simpa using (by omega : 6 < s.size)), List.drop_eq_getElem_cons (by simpa using (by omega : 7 < s.size))]
    rw [hd]
    simp only [Nat.reduceSub, List.take_succ_cons, List.take_zero]
    rw [numL_cons, numL_cons]
    rw [show ((6 : Nat) : Int) = 6 from rfl] at h6
    rw [show ((7 : Nat) : Int) = 7 from rfl] at h7
    rw [h6, h7]
    simp [numL]
  rw [this]
  apply propext
  omega
theorem riget_run (k : Nat) (s : ByteArray) (al cut : Int) (v1 v2 v3 : Int) (m : Nat) (h20 : 20 ≤ s.size) (hm : 20 ≤ m) (hm2 : m ≤ s.size) (ha : (m : Int) ≤ al) (ha2 : al ≤ (s.size : Int)) (hcut : ¬ cut ≥ 32768) (hw : wrap64 (al - (m : Int)) = al - (m : Int)) (hbig : ¬ al - (m : Int) > 2000) (hs : rampartref01_Of.f k (s.extract 0 m) = some 0)
    (e1 : rampartref01_Num.f k (s.extract 4 6) = some v1) (e2 : rampartref01_Num.f k (s.extract 12 16) = some v2) (e3 : rampartref01_Num.f k (s.extract 16 20) = some v3) :
    rampartref03_Get.j0 (k + 1) s (m : Int) al cut false = some (wrap64 (bt s 1), v1, ((Go.bits .and .i64 cut 8192) != 0), ((Go.bits .and .i64 cut 16384) != 0), wrap64 ((Go.bits .and .i64 cut 8191) * 8), wrap64 (bt s 8), wrap64 (bt s 9), v2 % 4294967296, v3 % 4294967296, s.extract 20 m, s.extract m al.toNat, 0) := by
  simp only [rampartref03_Get.j0, Bool.false_eq_true, if_false]
  rw [if_neg (show ¬ (s.size : Int) < (m : Int) by omega), if_neg (show ¬ al < (m : Int) by omega), if_neg (show ¬ (s.size : Int) < al by omega), if_neg hcut, hw, if_neg hbig, if_pos (Int.natCast_nonneg _), if_pos (show (m : Int) ≤ (s.size : Int) by omega), Int.toNat_natCast, hs, Option.bind_some, if_pos rfl,
    if_pos (show (1 : Int) < (s.size : Int) by omega), if_pos (show (4 : Nat) ≤ 6 by decide), if_pos (show (6 : Int) ≤ (s.size : Int) by omega), e1, Option.bind_some, if_pos (show (8 : Int) < (s.size : Int) by omega), if_pos (show (9 : Int) < (s.size : Int) by omega), if_pos (show (12 : Nat) ≤ 16 by decide), if_pos (show (16 : Int) ≤ (s.size : Int) by omega), e2, Option.bind_some,
    if_pos (show (16 : Nat) ≤ 20 by decide), if_pos (show (20 : Int) ≤ (s.size : Int) by omega), e3, Option.bind_some, if_pos (show (20 : Int) ≤ (m : Int) by omega), if_pos ha, if_pos ha2]
theorem rlen_word (s : ByteArray) : wrap64 (4 * (wrap64 (Go.bits .and .u8 (bt s 0) 15))) = ((lenI s : Nat) : Int) := by
  have hb := bt_range s 0
  rw [u8_and15 _ hb.1 (by omega), lenI_int]
  unfold wrap64
  omega
theorem riget_j0 (s : ByteArray) (h1 : ¬ s.size < 20) (b : Bool) (hb : b = decide (bt s 0 / 16 ≠ 4 ∨ lenI s < 20)) : Ev (fun k => rampartref03_Get.j0 k s ((lenI s : Nat) : Int) (allI s) (cutOf s) b) (getI s) := by
  have hal := allI_range s
  have hle := lenI_le s
  unfold getI wrongI
  rw [if_neg h1]
  by_cases h2 : bt s 0 / 16 ≠ 4 ∨ lenI s < 20
  · rw [if_pos h2]
    rw [hb, decide_eq_true h2]
    refine ⟨1, fun k hk => ?_⟩
    obtain ⟨k, rfl⟩ : ∃ m, k = m + 1 := ⟨k - 1, by omega⟩
    simp only [rampartref03_Get.j0, if_true]
    rfl
  rw [if_neg h2, hb, decide_eq_false h2]
  by_cases h3 : s.size < lenI s
  · rw [if_pos h3]
    refine ⟨1, fun k hk => ?_⟩
    obtain ⟨k, rfl⟩ : ∃ m, k = m + 1 := ⟨k - 1, by omega⟩
    simp only [rampartref03_Get.j0, Bool.false_eq_true, if_false]
    rw [if_pos (show (s.size : Int) < ((lenI s : Nat) : Int) by omega)]
    rfl
  rw [if_neg h3]
  by_cases h4 : allI s < (lenI s : Int)
  · rw [if_pos h4]
    refine ⟨1, fun k hk => ?_⟩
    obtain ⟨k, rfl⟩ : ∃ m, k = m + 1 := ⟨k - 1, by omega⟩
    simp only [rampartref03_Get.j0, Bool.false_eq_true, if_false]
    rw [if_neg (show ¬ (s.size : Int) < ((lenI s : Nat) : Int) by omega), if_pos h4]
    rfl
  rw [if_neg h4]
  by_cases h5 : (s.size : Int) < allI s
  · rw [if_pos h5]
    refine ⟨1, fun k hk => ?_⟩
    obtain ⟨k, rfl⟩ : ∃ m, k = m + 1 := ⟨k - 1, by omega⟩
    simp only [rampartref03_Get.j0, Bool.false_eq_true, if_false]
    rw [if_neg (show ¬ (s.size : Int) < ((lenI s : Nat) : Int) by omega), if_neg h4, if_pos h5]
    rfl
  rw [if_neg h5]
  have ct := cut_top s (by omega)
  by_cases h6 : bt s 6 / 128 = 1
  · rw [if_pos h6]
    refine ⟨1, fun k hk => ?_⟩
    obtain ⟨k, rfl⟩ : ∃ m, k = m + 1 := ⟨k - 1, by omega⟩
    simp only [rampartref03_Get.j0, Bool.false_eq_true, if_false]
    rw [if_neg (show ¬ (s.size : Int) < ((lenI s : Nat) : Int) by omega), if_neg h4, if_neg h5, if_pos (by rw [ct]; exact h6)]
    rfl
  rw [if_neg h6]
  have hcut : ¬ cutOf s ≥ 32768 := by rw [ct]; exact h6
  have hw : wrap64 (allI s - (lenI s : Int)) = allI s - (lenI s : Int) := by unfold wrap64; omega
  by_cases h7 : allI s - (lenI s : Int) > 2000
  · rw [if_pos h7]
    refine ⟨1, fun k hk => ?_⟩
    obtain ⟨k, rfl⟩ : ∃ m, k = m + 1 := ⟨k - 1, by omega⟩
    simp only [rampartref03_Get.j0, Bool.false_eq_true, if_false]
    rw [if_neg (show ¬ (s.size : Int) < ((lenI s : Nat) : Int) by omega), if_neg h4, if_neg h5, if_neg hcut, hw, if_pos h7]
    rfl
  rw [if_neg h7]
  obtain ⟨K0, q0⟩ := rof_ev (s.extract 0 (lenI s)) (by simp only [ByteArray.size_extract]; omega)
  obtain ⟨K1, q1⟩ := rnum_ext s 4 6 (by omega)
  obtain ⟨K2, q2⟩ := rnum_ext s 12 16 (by omega)
  obtain ⟨K3, q3⟩ := rnum_ext s 16 20 (by omega)
  refine ⟨K0 + K1 + K2 + K3 + 1, fun k hk => ?_⟩
  obtain ⟨k, rfl⟩ : ∃ m, k = m + 1 := ⟨k - 1, by omega⟩
  have e0 : rampartref01_Of.f k (s.extract 0 (lenI s)) = some (sumOf (s.extract 0 (lenI s)).data.toList) := q0 k (by omega)
  by_cases h8 : sumOf (s.extract 0 (lenI s)).data.toList = 0
  · rw [if_neg (show ¬ (sumOf (s.extract 0 (lenI s)).data.toList ≠ 0) from fun h => h h8), if_pos rfl]
    rw [h8] at e0
    have := riget_run k s (allI s) (cutOf s) _ _ _ (lenI s) (by omega) (by omega) (by omega) (by omega) (by omega) hcut hw h7 e0 (q1 k (by omega)) (q2 k (by omega)) (q3 k (by omega))
    rw [word_bt, word_bt, word_bt] at this
    exact this
  · rw [if_pos h8, if_neg (by decide)]
    simp only [rampartref03_Get.j0, Bool.false_eq_true, if_false]
    rw [if_neg (show ¬ (s.size : Int) < ((lenI s : Nat) : Int) by omega), if_neg h4, if_neg h5, if_neg hcut, hw, if_neg h7, if_pos (Int.natCast_nonneg _), if_pos (show ((lenI s : Nat) : Int) ≤ (s.size : Int) by omega), Int.toNat_natCast, e0, Option.bind_some, if_neg h8]
    rfl
theorem riget_ev (s : ByteArray) : Ev (fun k => rampartref03_Get.f k s) (getI s) := by
  by_cases h1 : s.size < 20
  · have hw : wrongI s = 2 := by
      unfold wrongI
      rw [if_pos h1]
    refine ⟨0, fun k _ => ?_⟩
    simp only [rampartref03_Get.f, getI]
    rw [if_pos (show (s.size : Int) < 20 by omega), if_neg (by rw [hw]; decide), hw]
    rfl
  · obtain ⟨K1, q1⟩ := rnum_ext s 2 4 (by omega)
    obtain ⟨K2, q2⟩ := rnum_ext s 6 8 (by omega)
    obtain ⟨K3, q3⟩ := riget_j0 s h1 _ rfl
    refine ⟨K1 + K2 + K3, fun k hk => ?_⟩
    have e1 : rampartref01_Num.f k (s.extract 2 4) = some (allI s) := q1 k (by omega)
    have e2 : rampartref01_Num.f k (s.extract 6 8) = some (cutOf s) := q2 k (by omega)
    have e3 : rampartref03_Get.j0 k s ((lenI s : Nat) : Int) (allI s) (cutOf s) (decide (bt s 0 / 16 ≠ 4 ∨ lenI s < 20)) = some (getI s) := q3 k (by omega)
    simp only [rampartref03_Get.f]
    rw [if_neg (show ¬ (s.size : Int) < 20 by omega), if_pos (show (0 : Int) < (s.size : Int) by omega), if_pos (show (2 : Nat) ≤ 4 by decide), if_pos (show (4 : Int) ≤ (s.size : Int) by omega), e1, Option.bind_some, if_pos (show (6 : Nat) ≤ 8 by decide), if_pos (show (8 : Int) ≤ (s.size : Int) by omega), e2, Option.bind_some]
    simp only [rlen_word]
    rw [← e3]
    by_cases h4 : bt s 0 / 16 = 4
    · rw [if_pos h4]
      congr 1
      rw [Bool.eq_iff_iff]; simp only [decide_eq_true_eq]; omega
    · rw [if_neg h4, decide_eq_true (show bt s 0 / 16 ≠ 4 ∨ lenI s < 20 from .inl h4)]
theorem isame_some (a b c d e f g h i j : _) : rampartref03_Same.f a b c d e f g h i j a b c d e f g h i j = some true := by
  simp [rampartref03_Same.f]
end Go.Proofs.Ytgolimfljndnmaa.QI
