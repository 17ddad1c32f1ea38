/- What is proved: the document's Put and Get of UDP and ICMP are the program's, in closed form. Conditions: those that stand in each theorem. -/
import Derived.Test.YtgolimfljndnmaaQDDg
import Derived.Test.YtgolimfljndnmaaQDRefSum
import Derived.Test.YtgolimfljndnmaaHDx11
import Derived.Test.YtgolimfljndnmaaHDx15
import Derived.Test.YtgolimfljndnmaaHDx13
import Derived.Test.YtgolimfljndnmaaHDx16
namespace Go.Proofs.Ytgolimfljndnmaa.QD
open Go.RowKit Go.Proofs.Ytgolimfljndnmaa.HD Go.Proofs.YtgolimfljndnmaaW.PrintWords Go.Proofs.YtgolimfljndnmaaW.PrintLast Go.Proofs.YtgolimfljndnmaaW.PrintMore
set_option linter.unusedVariables false
set_option linter.unusedSimpArgs false
theorem rsum_run (k : Nat) (src dst n : Int) (s t1 t2 t3 t4 : ByteArray) (v : Int) (w1 : wrap64 src = src) (w2 : wrap64 dst = dst)
    (e1 : rampartref01_Big.f k src 4 = some t1) (e2 : rampartref01_Big.f k dst 4 = some t2) (e3 : rampartref01_Big.f k n 2 = some t3) (e4 : rampartref01_Big.f k (s.size : Int) 2 = some t4) (e5 : rampartref01_Of.f k (t1 ++ t2 ++ t3 ++ t4 ++ s) = some v)
    (z : t1.size ≤ 8 ∧ t2.size ≤ 8 ∧ t3.size ≤ 8 ∧ t4.size ≤ 8 ∧ s.size ≤ 100000) : rampartref04_Sum.f k src dst n s = some v := by
  obtain ⟨y1, y2, y3, y4, y5⟩ := z
  have b1 : t1.size + t2.size ≤ 9223372036854775807 := room (by omega)
  have b2 : (t1 ++ t2).size + t3.size ≤ 9223372036854775807 := room (by simp only [ByteArray.size_append]; omega)
  have b3 : (t1 ++ t2 ++ t3).size + t4.size ≤ 9223372036854775807 := room (by simp only [ByteArray.size_append]; omega)
  have b4 : (t1 ++ t2 ++ t3 ++ t4).size + s.size ≤ 9223372036854775807 := room (by simp only [ByteArray.size_append]; omega)
  simp only [rampartref04_Sum.f]
  rw [w1, w2, e1, Option.bind_some, e2, Option.bind_some, if_pos b1, e3, Option.bind_some, if_pos b2, e4, Option.bind_some, if_pos b3, if_pos b4, e5, Option.bind_some]
theorem seventeen_list : (bigS 17 2).data.toList = z1.data.toList ++ (bigS 17 1).data.toList := by decide +kernel
theorem rsum_ev (src dst : Int) (s : ByteArray) (hs : 0 ≤ src ∧ src ≤ 4294967295) (hd : 0 ≤ dst ∧ dst ≤ 4294967295) (hz : s.size ≤ 100000) : Ev (fun k => rampartref04_Sum.f k src dst 17 s) (wholeU src dst s) := by
  obtain ⟨K1, q1⟩ := rbig_ev_nat src 4 (by omega)
  obtain ⟨K2, q2⟩ := rbig_ev_nat dst 4 (by omega)
  obtain ⟨K3, q3⟩ := rbig_ev_nat 17 2 (by omega)
  obtain ⟨K4, q4⟩ := rbig_ev_nat (s.size : Int) 2 (by omega)
  obtain ⟨K5, q5⟩ := rof_ev (bigS src 4 ++ bigS dst 4 ++ bigS 17 2 ++ bigS (s.size : Int) 2 ++ s) (by simp only [ByteArray.size_append, bigS_size]; omega)
  refine ⟨K1 + K2 + K3 + K4 + K5, fun k hk => ?_⟩
  have e := rsum_run k src dst 17 s _ _ _ _ _ (wrap_u32 hs) (wrap_u32 hd) (q1 k (by omega)) (q2 k (by omega)) (q3 k (by omega)) (q4 k (by omega)) (q5 k (by omega)) (by simp only [bigS_size]; omega)
  have : (bigS src 4 ++ bigS dst 4 ++ bigS 17 2 ++ bigS (s.size : Int) 2 ++ s).data.toList = (pseudoU src dst (s.size : Int)).data.toList ++ s.data.toList := by
    simp only [pseudoU, app_list, seventeen_list, List.append_assoc]
  rw [this] at e
  exact e
theorem ruput_run (k : Nat) (src dst s0 s1 s2 s3 s4 : Int) (body t1 t2 t3 tv : ByteArray) (v n : Int) (hn : wrap64 (8 + (body.size : Int)) = n) (hbig : ¬ (body.size : Int) > 1992)
    (e1 : rampartref01_Big.f k s0 2 = some t1) (e2 : rampartref01_Big.f k s1 2 = some t2) (e3 : rampartref01_Big.f k n 2 = some t3) (es : rampartref04_Sum.f k src dst 17 (t1 ++ t2 ++ t3 ++ (⟨#[0, 0]⟩ : ByteArray) ++ body) = some v) (ev : rampartref01_Big.f k (fixU v) 2 = some tv)
    (z : t1.size ≤ 8 ∧ t2.size ≤ 8 ∧ t3.size ≤ 8 ∧ tv.size ≤ 8 ∧ body.size ≤ 2000) : rampartref05_PutUDP.j0 (k + 1) src dst body false s0 s1 s2 s3 s4 = some (t1 ++ t2 ++ t3 ++ tv ++ body, 0) := by
  obtain ⟨y1, y2, y3, yv, yb⟩ := z
  have zz : (⟨#[0, 0]⟩ : ByteArray).size = 2 := rfl
  have b1 : t1.size + t2.size ≤ 9223372036854775807 := room (by omega)
  have b2 : (t1 ++ t2).size + t3.size ≤ 9223372036854775807 := room (by simp only [ByteArray.size_append]; omega)
  have c1 : (t1 ++ t2 ++ t3).size + 2 ≤ 9223372036854775807 := room (by simp only [ByteArray.size_append]; omega)
  have c2 : (t1 ++ t2 ++ t3 ++ (⟨#[0, 0]⟩ : ByteArray)).size + body.size ≤ 9223372036854775807 := room (by simp only [ByteArray.size_append, zz]; omega)
  have b3 : (t1 ++ t2 ++ t3).size + tv.size ≤ 9223372036854775807 := room (by simp only [ByteArray.size_append]; omega)
  have b4 : (t1 ++ t2 ++ t3 ++ tv).size + body.size ≤ 9223372036854775807 := room (by simp only [ByteArray.size_append]; omega)
  simp only [rampartref05_PutUDP.j0, Bool.false_eq_true, if_false]
  rw [if_neg hbig, e1, Option.bind_some, e2, Option.bind_some, if_pos b1, hn, e3, Option.bind_some, if_pos b2, if_pos c1, if_pos c2, es, Option.bind_some]
  by_cases hv : v = 0
  · rw [if_pos hv]
    rw [show fixU v = 65535 from if_pos hv] at ev
    rw [ev, Option.bind_some, if_pos b3, if_pos b4]
  · rw [if_neg hv]
    rw [show fixU v = v from if_neg hv] at ev
    rw [ev, Option.bind_some, if_pos b3, if_pos b4]
theorem ruput_j0 (src dst s0 s1 s2 s3 s4 : Int) (body : ByteArray) (hs : 0 ≤ src ∧ src ≤ 4294967295) (hd : 0 ≤ dst ∧ dst ≤ 4294967295) (hb : body.size ≤ 140737488351232) :
    Ev (fun k => rampartref05_PutUDP.j0 k src dst body false s0 s1 s2 s3 s4) (if 8 + body.size > 2000 then ((⟨#[]⟩ : ByteArray), 5) else (udpS src dst s0 s1 body, 0)) := by
  by_cases hbig : 8 + body.size > 2000
  · refine ⟨1, fun k hk => ?_⟩
    obtain ⟨k, rfl⟩ : ∃ m, k = m + 1 := ⟨k - 1, by omega⟩
    simp only [rampartref05_PutUDP.j0, Bool.false_eq_true, if_false]
    rw [if_pos (show (body.size : Int) > 1992 by omega), if_pos hbig]
  · rw [if_neg hbig]
    obtain ⟨K1, q1⟩ := rbig_ev_nat s0 2 (by omega)
    obtain ⟨K2, q2⟩ := rbig_ev_nat s1 2 (by omega)
    obtain ⟨K3, q3⟩ := rbig_ev_nat ((8 + body.size : Nat) : Int) 2 (by omega)
    have hsz : (frontU s0 s1 (8 + body.size) ++ z2 ++ body).size = 8 + body.size := by
      simp only [ByteArray.size_append, frontU_size, z2_size]
    obtain ⟨Ks, qs⟩ := rsum_ev src dst (frontU s0 s1 (8 + body.size) ++ z2 ++ body) hs hd (by rw [hsz]; omega)
    have hw : wholeU src dst (frontU s0 s1 (8 + body.size) ++ z2 ++ body) = sumU src dst s0 s1 body := by
      unfold wholeU sumU
      rw [hsz]
      simp only [app_list, List.append_assoc]
    rw [hw] at qs
    obtain ⟨Kv, qv⟩ := rbig_ev_nat (fixU (sumU src dst s0 s1 body)) 2 (by omega)
    refine ⟨K1 + K2 + K3 + Ks + Kv + 1, fun k hk => ?_⟩
    obtain ⟨k, rfl⟩ : ∃ m, k = m + 1 := ⟨k - 1, by omega⟩
    exact ruput_run k src dst s0 s1 s2 s3 s4 body _ _ _ _ _ _ (word8 body.size hb) (show ¬ (body.size : Int) > 1992 by omega) (q1 k (by omega)) (q2 k (by omega)) (q3 k (by omega)) (qs k (by omega)) (qv k (by omega)) (by simp only [bigS_size]; omega)
theorem ruput_ev (src dst s0 s1 s2 s3 s4 : Int) (body : ByteArray) (hs : 0 ≤ src ∧ src ≤ 4294967295) (hd : 0 ≤ dst ∧ dst ≤ 4294967295) (hb : body.size ≤ 140737488351232) :
    Ev (fun k => rampartref05_PutUDP.f k src dst s0 s1 s2 s3 s4 body) (putU src dst s0 s1 body) := by
  have no : ¬ (0 ≤ s0 ∧ s0 ≤ 65535 ∧ 0 ≤ s1 ∧ s1 ≤ 65535) → putU src dst s0 s1 body = ((⟨#[]⟩ : ByteArray), 1) := fun h => if_neg (by unfold twoIn; simpa using h)
  have bad : Ev (fun k => rampartref05_PutUDP.j0 k src dst body true s0 s1 s2 s3 s4) ((⟨#[]⟩ : ByteArray), 1) := by
    refine ⟨1, fun k hk => ?_⟩
    obtain ⟨k, rfl⟩ : ∃ m, k = m + 1 := ⟨k - 1, by omega⟩
    simp only [rampartref05_PutUDP.j0, if_true]
  by_cases h1 : s0 < 0
  · rw [no (by omega)]
    exact Ev.congr (fun k => by simp only [rampartref05_PutUDP.f]; rw [if_pos h1]) bad
  by_cases h2 : s0 > 65535
  · rw [no (by omega)]
    exact Ev.congr (fun k => by simp only [rampartref05_PutUDP.f]; rw [if_neg h1, if_pos h2]) bad
  by_cases h3 : s1 < 0
  · rw [no (by omega)]
    exact Ev.congr (fun k => by simp only [rampartref05_PutUDP.f]; rw [if_neg h1, if_neg h2, if_pos h3]) bad
  by_cases h4 : s1 > 65535
  · rw [no (by omega)]
    exact Ev.congr (fun k => by simp only [rampartref05_PutUDP.f]; rw [if_neg h1, if_neg h2, if_neg h3, decide_eq_true h4]) bad
  · have hy : twoIn 65535 s0 s1 = true := decide_eq_true (by omega)
    have hp : putU src dst s0 s1 body = (if 8 + body.size > 2000 then ((⟨#[]⟩ : ByteArray), 5) else (udpS src dst s0 s1 body, 0)) := if_pos hy
    rw [hp]
    exact Ev.congr (fun k => by simp only [rampartref05_PutUDP.f]; rw [if_neg h1, if_neg h2, if_neg h3, decide_eq_false h4]) (ruput_j0 src dst s0 s1 s2 s3 s4 body hs hd hb)
theorem rcput_run (k : Nat) (s0 s1 s2 s3 s4 : Int) (body t1 t2 t4 tv : ByteArray) (v w4 : Int) (hbig : ¬ (body.size : Int) > 1992) (hw : wrap64 s4 = w4)
    (e1 : rampartref01_Big.f k s2 1 = some t1) (e2 : rampartref01_Big.f k s3 1 = some t2) (e4 : rampartref01_Big.f k w4 4 = some t4) (es : rampartref01_Of.f k (t1 ++ t2 ++ (⟨#[0, 0]⟩ : ByteArray) ++ (t4 ++ body)) = some v) (ev : rampartref01_Big.f k v 2 = some tv)
    (z : t1.size ≤ 8 ∧ t2.size ≤ 8 ∧ t4.size ≤ 8 ∧ tv.size ≤ 8 ∧ body.size ≤ 2000) : rampartref05_PutICMP.j0 (k + 1) body false s0 s1 s2 s3 s4 = some (t1 ++ t2 ++ tv ++ (t4 ++ body), 0) := by
  obtain ⟨y1, y2, y4, yv, yb⟩ := z
  have zz : (⟨#[0, 0]⟩ : ByteArray).size = 2 := rfl
  have b1 : t1.size + t2.size ≤ 9223372036854775807 := room (by omega)
  have b2 : t4.size + body.size ≤ 9223372036854775807 := room (by omega)
  have c1 : (t1 ++ t2).size + 2 ≤ 9223372036854775807 := room (by simp only [ByteArray.size_append]; omega)
  have c2 : (t1 ++ t2 ++ (⟨#[0, 0]⟩ : ByteArray)).size + (t4 ++ body).size ≤ 9223372036854775807 := room (by simp only [ByteArray.size_append, zz]; omega)
  have b3 : (t1 ++ t2).size + tv.size ≤ 9223372036854775807 := room (by simp only [ByteArray.size_append]; omega)
  have b4 : (t1 ++ t2 ++ tv).size + (t4 ++ body).size ≤ 9223372036854775807 := room (by simp only [ByteArray.size_append]; omega)
  simp only [rampartref05_PutICMP.j0, Bool.false_eq_true, if_false]
  rw [if_neg hbig, e1, Option.bind_some, e2, Option.bind_some, if_pos b1, hw, e4, Option.bind_some, if_pos b2, if_pos c1, if_pos c2, es, Option.bind_some, ev, Option.bind_some, if_pos b3, if_pos b4]
theorem rcput_j0 (s0 s1 s2 s3 s4 : Int) (body : ByteArray) (h4 : 0 ≤ s4 ∧ s4 ≤ 4294967295) :
    Ev (fun k => rampartref05_PutICMP.j0 k body false s0 s1 s2 s3 s4) (if 8 + body.size > 2000 then ((⟨#[]⟩ : ByteArray), 5) else (icmpS s2 s3 s4 body, 0)) := by
  by_cases hbig : 8 + body.size > 2000
  · refine ⟨1, fun k hk => ?_⟩
    obtain ⟨k, rfl⟩ : ∃ m, k = m + 1 := ⟨k - 1, by omega⟩
    simp only [rampartref05_PutICMP.j0, Bool.false_eq_true, if_false]
    rw [if_pos (show (body.size : Int) > 1992 by omega), if_pos hbig]
  · rw [if_neg hbig]
    obtain ⟨K1, q1⟩ := rbig_ev_nat s2 1 (by omega)
    obtain ⟨K2, q2⟩ := rbig_ev_nat s3 1 (by omega)
    obtain ⟨K4, q4⟩ := rbig_ev_nat s4 4 (by omega)
    obtain ⟨Ks, qs⟩ := rof_ev (frontC s2 s3 ++ z2 ++ backC s4 body) (by simp only [ByteArray.size_append, frontC_size, z2_size, backC_size]; omega)
    have hw : sumOf (frontC s2 s3 ++ z2 ++ backC s4 body).data.toList = sumC s2 s3 s4 body := by
      unfold sumC
      simp only [app_list, List.append_assoc]
    rw [hw] at qs
    obtain ⟨Kv, qv⟩ := rbig_ev_nat (sumC s2 s3 s4 body) 2 (by omega)
    refine ⟨K1 + K2 + K4 + Ks + Kv + 1, fun k hk => ?_⟩
    obtain ⟨k, rfl⟩ : ∃ m, k = m + 1 := ⟨k - 1, by omega⟩
    exact rcput_run k s0 s1 s2 s3 s4 body _ _ _ _ _ _ (show ¬ (body.size : Int) > 1992 by omega) (wrap_u32 h4) (q1 k (by omega)) (q2 k (by omega)) (q4 k (by omega)) (qs k (by omega)) (qv k (by omega)) (by simp only [bigS_size]; omega)
theorem rcput_ev (s0 s1 s2 s3 s4 : Int) (body : ByteArray) (h4 : 0 ≤ s4 ∧ s4 ≤ 4294967295) : Ev (fun k => rampartref05_PutICMP.f k s0 s1 s2 s3 s4 body) (putC s2 s3 s4 body) := by
  have no : ¬ (0 ≤ s2 ∧ s2 ≤ 255 ∧ 0 ≤ s3 ∧ s3 ≤ 255) → putC s2 s3 s4 body = ((⟨#[]⟩ : ByteArray), 1) := fun h => if_neg (by unfold twoIn; simpa using h)
  have bad : Ev (fun k => rampartref05_PutICMP.j0 k body true s0 s1 s2 s3 s4) ((⟨#[]⟩ : ByteArray), 1) := by
    refine ⟨1, fun k hk => ?_⟩
    obtain ⟨k, rfl⟩ : ∃ m, k = m + 1 := ⟨k - 1, by omega⟩
    simp only [rampartref05_PutICMP.j0, if_true]
  by_cases h1 : s2 < 0
  · rw [no (by omega)]
    exact Ev.congr (fun k => by simp only [rampartref05_PutICMP.f]; rw [if_pos h1]) bad
  by_cases h2 : s2 > 255
  · rw [no (by omega)]
    exact Ev.congr (fun k => by simp only [rampartref05_PutICMP.f]; rw [if_neg h1, if_pos h2]) bad
  by_cases h3 : s3 < 0
  · rw [no (by omega)]
    exact Ev.congr (fun k => by simp only [rampartref05_PutICMP.f]; rw [if_neg h1, if_neg h2, if_pos h3]) bad
  by_cases h5 : s3 > 255
  · rw [no (by omega)]
    exact Ev.congr (fun k => by simp only [rampartref05_PutICMP.f]; rw [if_neg h1, if_neg h2, if_neg h3, decide_eq_true h5]) bad
  · have hy : twoIn 255 s2 s3 = true := decide_eq_true (by omega)
    have hp : putC s2 s3 s4 body = (if 8 + body.size > 2000 then ((⟨#[]⟩ : ByteArray), 5) else (icmpS s2 s3 s4 body, 0)) := if_pos hy
    rw [hp]
    exact Ev.congr (fun k => by simp only [rampartref05_PutICMP.f]; rw [if_neg h1, if_neg h2, if_neg h3, decide_eq_false h5]) (rcput_j0 s0 s1 s2 s3 s4 body h4)
theorem rnum_ext (s : ByteArray) (a b : Nat) (h : b - a ≤ 8) : Ev (fun k => rampartref01_Num.f k (s.extract a b)) (numOf (s.extract a b)) := rnum_ev _ (by simp; omega)
theorem two_bytes (s : ByteArray) (h : 8 ≤ s.size) : (numOf (s.extract 6 8) = 0) = bare s := by
  unfold bare
  rw [numOf_short _ (by simp; omega), ext_list]
  have hd : s.data.toList.drop 6 = s.data.toList[6]'(by simpa using (by omega : 6 < s.size)) :: s.data.toList[7]'(by simpa using (by omega : 7 < s.size)) :: s.data.toList.drop 8 := by
    rw [List.drop_eq_getElem_cons (by simpa using (by omega : 6 < s.size)), List.drop_eq_getElem_cons (by simpa using (by omega : 7 < s.size))]
  rw [hd]
  simp only [Nat.reduceSub, List.take_succ_cons, List.take_zero]
  generalize s.data.toList[6]'(by simpa using (by omega : 6 < s.size)) = c
  generalize s.data.toList[7]'(by simpa using (by omega : 7 < s.size)) = d
  rw [numL_cons, numL_cons]
  apply propext
  have hc := c.toNat_lt
  have hd := d.toNat_lt
  have e : ∀ x : UInt8, x = 0 ↔ x.toNat = 0 := fun x => ⟨fun h => by rw [h]; rfl, fun h => UInt8.toNat_inj.mp h⟩
  simp only [numL, List.foldl_nil, List.length_cons, List.length_nil, List.cons.injEq, and_true, e]
  omega
theorem ruget_j1 (s : ByteArray) (h8 : 8 ≤ s.size) : Ev (fun k => rampartref05_GetUDP.j1 k s false) (okU s) := by
  obtain ⟨K1, q1⟩ := rnum_ext s 0 2 (by omega)
  obtain ⟨K2, q2⟩ := rnum_ext s 2 4 (by omega)
  refine ⟨K1 + K2 + 1, fun k hk => ?_⟩
  obtain ⟨k, rfl⟩ : ∃ m, k = m + 1 := ⟨k - 1, by omega⟩
  have e1 : rampartref01_Num.f k (s.extract 0 2) = some (numOf (s.extract 0 2)) := q1 k (by omega)
  have e2 : rampartref01_Num.f k (s.extract 2 4) = some (numOf (s.extract 2 4)) := q2 k (by omega)
  simp only [rampartref05_GetUDP.j1, Bool.false_eq_true, if_false]
  rw [if_pos (show (0 : Nat) ≤ 2 by decide), if_pos (show (2 : Int) ≤ (s.size : Int) by omega), e1, Option.bind_some, if_pos (show (2 : Nat) ≤ 4 by decide), if_pos (show (4 : Int) ≤ (s.size : Int) by omega), e2, Option.bind_some, if_pos (show (8 : Int) ≤ (s.size : Int) by omega)]
  rfl
theorem ruget_j0 (src dst : Int) (s : ByteArray) (hs : 0 ≤ src ∧ src ≤ 4294967295) (hd : 0 ≤ dst ∧ dst ≤ 4294967295) (h8 : 8 ≤ s.size) (hn : numOf (s.extract 4 6) = (s.size : Int)) : Ev (fun k => rampartref05_GetUDP.j0 k src dst s (s.size : Int) false) (getU src dst s) := by
  unfold getU wrongU
  rw [if_neg (show ¬ s.size < 8 by omega), if_neg (show ¬ (numOf (s.extract 4 6) ≠ (s.size : Int)) from fun h => h hn)]
  by_cases h3 : s.size > 2000
  · refine ⟨1, fun k hk => ?_⟩
    obtain ⟨k, rfl⟩ : ∃ m, k = m + 1 := ⟨k - 1, by omega⟩
    simp only [rampartref05_GetUDP.j0, Bool.false_eq_true, if_false]
    rw [if_pos (show (s.size : Int) > 2000 by omega), if_pos h3, if_neg (by decide)]
    rfl
  rw [if_neg h3]
  obtain ⟨K1, q1⟩ := rnum_ext s 6 8 (by omega)
  obtain ⟨K2, q2⟩ := rsum_ev src dst s hs hd (by omega)
  obtain ⟨K3, q3⟩ := ruget_j1 s h8
  have tb := two_bytes s h8
  refine ⟨K1 + K2 + K3 + 2, fun k hk => ?_⟩
  obtain ⟨k, rfl⟩ : ∃ m, k = m + 2 := ⟨k - 2, by omega⟩
  have e1 : rampartref01_Num.f (k + 1) (s.extract 6 8) = some (numOf (s.extract 6 8)) := q1 (k + 1) (by omega)
  have e2 : rampartref04_Sum.f (k + 1) src dst 17 s = some (wholeU src dst s) := q2 (k + 1) (by omega)
  have e3 : rampartref05_GetUDP.j1 (k + 1) s false = some (okU s) := q3 (k + 1) (by omega)
  rw [show k + 2 = (k + 1) + 1 from rfl]
  simp only [rampartref05_GetUDP.j0, Bool.false_eq_true, if_false]
  rw [if_neg (show ¬ (s.size : Int) > 2000 by omega), if_pos (show (6 : Nat) ≤ 8 by decide), if_pos (show (8 : Int) ≤ (s.size : Int) by omega), e1, Option.bind_some]
  by_cases hb : bare s
  · rw [if_pos (by rw [tb]; exact hb), e3, if_neg (show ¬ (¬ bare s ∧ wholeU src dst s ≠ 0) from fun h => h.1 hb), if_pos rfl]
  · rw [if_neg (by rw [tb]; exact hb), e2, Option.bind_some]
    by_cases hz : wholeU src dst s = 0
    · rw [show (wholeU src dst s != 0) = false by simp [hz], e3, if_neg (show ¬ (¬ bare s ∧ wholeU src dst s ≠ 0) from fun h => h.2 hz), if_pos rfl]
    · rw [show (wholeU src dst s != 0) = true by simp [hz], if_pos (show ¬ bare s ∧ wholeU src dst s ≠ 0 from ⟨hb, hz⟩), if_neg (by decide)]
      simp only [rampartref05_GetUDP.j1, if_true]
      rfl
theorem ruget_ev (src dst : Int) (s : ByteArray) (hs : 0 ≤ src ∧ src ≤ 4294967295) (hd : 0 ≤ dst ∧ dst ≤ 4294967295) : Ev (fun k => rampartref05_GetUDP.f k src dst s) (getU src dst s) := by
  by_cases h1 : s.size < 8
  · have hw : wrongU src dst s = 2 := if_pos h1
    refine ⟨0, fun k _ => ?_⟩
    simp only [rampartref05_GetUDP.f, getU]
    rw [if_pos (show (s.size : Int) < 8 by omega), if_neg (by rw [hw]; decide), hw]
    rfl
  obtain ⟨K1, q1⟩ := rnum_ext s 4 6 (by omega)
  by_cases hn : numOf (s.extract 4 6) = (s.size : Int)
  · obtain ⟨K2, q2⟩ := ruget_j0 src dst s hs hd (by omega) hn
    refine ⟨K1 + K2, fun k hk => ?_⟩
    have e1 : rampartref01_Num.f k (s.extract 4 6) = some (numOf (s.extract 4 6)) := q1 k (by omega)
    rw [hn] at e1
    have e2 : rampartref05_GetUDP.j0 k src dst s (s.size : Int) false = some (getU src dst s) := q2 k (by omega)
    simp only [rampartref05_GetUDP.f]
    rw [if_neg (show ¬ (s.size : Int) < 8 by omega), if_pos (show (4 : Nat) ≤ 6 by decide), if_pos (show (6 : Int) ≤ (s.size : Int) by omega), e1, Option.bind_some, if_neg (show ¬ (s.size : Int) < 8 by omega), show ((s.size : Int) != (s.size : Int)) = false by simp, e2]
  · have hw : wrongU src dst s = 3 := by
      unfold wrongU
      rw [if_neg h1, if_pos hn]
    have bad : ∀ k n, rampartref05_GetUDP.j0 (k + 1) src dst s n true = some (errD 3) := fun k n => by
      simp only [rampartref05_GetUDP.j0, if_true]
      rfl
    refine ⟨K1 + 1, fun k hk => ?_⟩
    have e1 : rampartref01_Num.f k (s.extract 4 6) = some (numOf (s.extract 4 6)) := q1 k (by omega)
    obtain ⟨k, rfl⟩ : ∃ m, k = m + 1 := ⟨k - 1, by omega⟩
    simp only [rampartref05_GetUDP.f, getU]
    rw [if_neg (show ¬ (s.size : Int) < 8 by omega), if_pos (show (4 : Nat) ≤ 6 by decide), if_pos (show (6 : Int) ≤ (s.size : Int) by omega), e1, Option.bind_some, show (numOf (s.extract 4 6) != (s.size : Int)) = true by simp [hn], bad, if_neg (show ¬ wrongU src dst s = 0 by rw [hw]; decide), hw]
    by_cases h8 : numOf (s.extract 4 6) < 8
    · rw [if_pos h8]
    · rw [if_neg h8]
theorem rcget_ev (s : ByteArray) : Ev (fun k => rampartref05_GetICMP.f k s) (getC s) := by
  by_cases h1 : s.size < 8
  · have hw : wrongC s = 2 := if_pos h1
    refine ⟨0, fun k _ => ?_⟩
    simp only [rampartref05_GetICMP.f, getC]
    rw [if_pos (show (s.size : Int) < 8 by omega), if_neg (by rw [hw]; decide), hw]
    rfl
  by_cases h2 : s.size > 2000
  · have hw : wrongC s = 5 := by
      unfold wrongC
      rw [if_neg h1, if_pos h2]
    refine ⟨0, fun k _ => ?_⟩
    simp only [rampartref05_GetICMP.f, getC]
    rw [if_neg (show ¬ (s.size : Int) < 8 by omega), if_pos (show (s.size : Int) > 2000 by omega), if_neg (by rw [hw]; decide), hw]
    rfl
  obtain ⟨K1, q1⟩ := rof_ev s (by omega)
  obtain ⟨K2, q2⟩ := rnum_ext s 4 8 (by omega)
  refine ⟨K1 + K2, fun k hk => ?_⟩
  have e1 : rampartref01_Of.f k s = some (sumOf s.data.toList) := q1 k (by omega)
  have e2 : rampartref01_Num.f k (s.extract 4 8) = some (numOf (s.extract 4 8)) := q2 k (by omega)
  simp only [rampartref05_GetICMP.f, getC]
  rw [if_neg (show ¬ (s.size : Int) < 8 by omega), if_neg (show ¬ (s.size : Int) > 2000 by omega), e1, Option.bind_some]
  by_cases h3 : sumOf s.data.toList = 0
  · have hw : wrongC s = 0 := by
      unfold wrongC
      rw [if_neg h1, if_neg h2, if_neg (show ¬ (sumOf s.data.toList ≠ 0) from fun h => h h3)]
    rw [if_pos h3, if_pos (show (0 : Int) < (s.size : Int) by omega), if_pos (show (1 : Int) < (s.size : Int) by omega), if_pos (show (4 : Nat) ≤ 8 by decide), if_pos (show (8 : Int) ≤ (s.size : Int) by omega), e2, Option.bind_some, word_bt, word_bt, if_pos hw]
    rfl
  · have hw : wrongC s = 4 := by
      unfold wrongC
      rw [if_neg h1, if_neg h2, if_pos h3]
    rw [if_neg h3, if_neg (by rw [hw]; decide), hw]
    rfl
theorem dsame_some (a b c d e : Int) : rampartref05_Same.f a b c d e a b c d e = some true := by
  simp [rampartref05_Same.f]
end Go.Proofs.Ytgolimfljndnmaa.QD
