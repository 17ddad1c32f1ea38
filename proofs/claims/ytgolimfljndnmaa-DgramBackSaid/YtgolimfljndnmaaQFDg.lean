/- What is proved: what the program's Put and Get of UDP and ICMP come to, in closed form. Conditions: those that stand in each theorem. -/
import Derived.Test.YtgolimfljndnmaaQFSumLib
import Derived.Test.YtgolimfljndnmaaHFx4
import Derived.Test.YtgolimfljndnmaaHFx10
import Derived.Test.YtgolimfljndnmaaHFx6
import Derived.Test.YtgolimfljndnmaaHFx8
import Derived.Test.YtgolimfljndnmaaHFx2
namespace Go.Proofs.Ytgolimfljndnmaa.QF
open Go.RowKit Go.Proofs.Ytgolimfljndnmaa.HF Go.Proofs.YtgolimfljndnmaaW.PrintWords Go.Proofs.YtgolimfljndnmaaW.PrintLast Go.Proofs.YtgolimfljndnmaaW.PrintMore
set_option linter.unusedVariables false
set_option linter.unusedSimpArgs false
def z1 : ByteArray := ⟨#[0]⟩
def z2 : ByteArray := ⟨#[0, 0]⟩
theorem z1_size : z1.size = 1 := rfl
theorem z2_size : z2.size = 2 := rfl
theorem z2_list : z2.data.toList = [0, 0] := rfl
theorem z1_list : z1.data.toList = [0] := rfl
theorem room {n : Nat} (h : n ≤ 1000000) : n ≤ 9223372036854775807 := Nat.le_trans h (by decide)
theorem wrap_u32 {s : Int} (h : 0 ≤ s ∧ s ≤ 4294967295) : wrap64 s = s := by unfold wrap64; omega
def twoIn (m x y : Int) : Bool := decide (0 ≤ x ∧ x ≤ m ∧ 0 ≤ y ∧ y ≤ m)
theorem in_ev (m x y : Int) : Ev (fun k => dgram_in_int.f k m [x, y]) (twoIn m x y) := by
  have r0 : rd [x, y] 0 = x := rfl
  have r1 : rd [x, y] 1 = y := rfl
  have w0 : wrap64 (0 + 1) = 1 := by unfold wrap64; omega
  have w1 : wrap64 (1 + 1) = 2 := by unfold wrap64; omega
  have hl : (([x, y] : List Int).length : Int) = 2 := rfl
  refine ⟨3, fun k hk => ?_⟩
  obtain ⟨k, rfl⟩ : ∃ n, k = n + 3 := ⟨k - 3, by omega⟩
  simp only [dgram_in_int.f, dgram_in_int.l0]
  simp only [hl, w0, w1, r0, r1]
  rw [if_pos (show (0 : Int) < 2 by decide), if_pos (show (0 : Int) ≤ 0 by decide), if_pos (show (0 : Int) < 2 by decide)]
  unfold twoIn
  by_cases h1 : x < 0
  · rw [if_pos h1, decide_eq_false (by omega)]
  rw [if_neg h1]
  by_cases h2 : x > m
  · rw [if_pos h2, decide_eq_false (by omega)]
  rw [if_neg h2, if_pos (show (1 : Int) < 2 by decide), if_pos (show (0 : Int) ≤ 1 by decide), if_pos (show (1 : Int) < 2 by decide)]
  by_cases h3 : y < 0
  · rw [if_pos h3, decide_eq_false (by omega)]
  rw [if_neg h3]
  by_cases h4 : y > m
  · rw [if_pos h4, decide_eq_false (by omega)]
  rw [if_neg h4, if_neg (show ¬ (2 : Int) < 2 by decide), decide_eq_true (by omega)]
def pseudoU (src dst n : Int) : ByteArray := bigS src 4 ++ bigS dst 4 ++ z1 ++ bigS 17 1 ++ bigS n 2
theorem pseudoU_size (src dst n : Int) : (pseudoU src dst n).size = 12 := by
  simp only [pseudoU, ByteArray.size_append, bigS_size, z1_size]
theorem pseudo_ev (src dst n : Int) (hs : 0 ≤ src ∧ src ≤ 4294967295) (hd : 0 ≤ dst ∧ dst ≤ 4294967295) : Ev (fun k => dgram_pseudo.f k src dst n) (pseudoU src dst n) := by
  have w1 : wrap64 src = src := wrap_u32 hs
  have w2 : wrap64 dst = dst := wrap_u32 hd
  obtain ⟨K1, h1⟩ := big_ev_nat src 4 (by omega)
  obtain ⟨K2, h2⟩ := big_ev_nat dst 4 (by omega)
  obtain ⟨K3, h3⟩ := big_ev_nat 17 1 (by omega)
  obtain ⟨K4, h4⟩ := big_ev_nat n 2 (by omega)
  refine ⟨K1 + K2 + K3 + K4, fun k hk => ?_⟩
  have e1 : sum_Big.f k src 4 = some (bigS src 4) := h1 k (by omega)
  have e2 : sum_Big.f k dst 4 = some (bigS dst 4) := h2 k (by omega)
  have e3 : sum_Big.f k 17 1 = some (bigS 17 1) := h3 k (by omega)
  have e4 : sum_Big.f k n 2 = some (bigS n 2) := h4 k (by omega)
  have s1 : (bigS src 4).size + (bigS dst 4).size ≤ 9223372036854775807 := room (by simp only [bigS_size]; omega)
  have s2 : (bigS src 4 ++ bigS dst 4).size + 1 ≤ 9223372036854775807 := room (by simp only [ByteArray.size_append, bigS_size]; omega)
  have s3 : (bigS src 4 ++ bigS dst 4 ++ (⟨#[0]⟩ : ByteArray)).size + (bigS 17 1).size ≤ 9223372036854775807 := by
    have : (bigS src 4 ++ bigS dst 4 ++ z1).size + (bigS 17 1).size ≤ 9223372036854775807 := room (by simp only [ByteArray.size_append, bigS_size, z1_size]; omega)
    exact this
  have s4 : (bigS src 4 ++ bigS dst 4 ++ (⟨#[0]⟩ : ByteArray) ++ bigS 17 1).size + (bigS n 2).size ≤ 9223372036854775807 := by
    have : (bigS src 4 ++ bigS dst 4 ++ z1 ++ bigS 17 1).size + (bigS n 2).size ≤ 9223372036854775807 := room (by simp only [ByteArray.size_append, bigS_size, z1_size]; omega)
    exact this
  simp only [dgram_pseudo.f]
  rw [w1, w2, e1, Option.bind_some, e2, Option.bind_some, if_pos s1, if_pos s2, e3, Option.bind_some, if_pos s3, e4, Option.bind_some, if_pos s4]
  rfl
def frontU (s0 s1 : Int) (n : Nat) : ByteArray := bigS s0 2 ++ bigS s1 2 ++ bigS ((n : Nat) : Int) 2
theorem frontU_size (s0 s1 : Int) (n : Nat) : (frontU s0 s1 n).size = 6 := by simp only [frontU, ByteArray.size_append, bigS_size]
def sumU (src dst s0 s1 : Int) (body : ByteArray) : Int := sumOf ((pseudoU src dst ((8 + body.size : Nat) : Int)).data.toList ++ ((frontU s0 s1 (8 + body.size)).data.toList ++ (z2.data.toList ++ body.data.toList)))
def fixU (v : Int) : Int := if v = 0 then 65535 else v
def udpS (src dst s0 s1 : Int) (body : ByteArray) : ByteArray := frontU s0 s1 (8 + body.size) ++ bigS (fixU (sumU src dst s0 s1 body)) 2 ++ body
theorem udpS_size (src dst s0 s1 : Int) (body : ByteArray) : (udpS src dst s0 s1 body).size = 8 + body.size := by
  simp only [udpS, ByteArray.size_append, frontU_size, bigS_size]
def putU (src dst s0 s1 : Int) (body : ByteArray) : ByteArray × Int :=
  if twoIn 65535 s0 s1 = true then (if 8 + body.size > 2000 then ((⟨#[]⟩ : ByteArray), 5) else (udpS src dst s0 s1 body, 0)) else ((⟨#[]⟩ : ByteArray), 1)
theorem word8 (n : Nat) (h : n ≤ 140737488351232) : wrap64 (8 + (n : Int)) = ((8 + n : Nat) : Int) := by unfold wrap64; omega
theorem uput_run (k : Nat) (src dst s0 s1 s2 s3 s4 : Int) (body t1 t2 t3 tp tv : ByteArray) (v n : Int) (hi : dgram_in_int.f k 65535 [s0, s1] = some true) (hn : wrap64 (8 + (body.size : Int)) = n) (hbig : ¬ n > 2000)
    (e1 : sum_Big.f k s0 2 = some t1) (e2 : sum_Big.f k s1 2 = some t2) (e3 : sum_Big.f k n 2 = some t3) (ep : dgram_pseudo.f k src dst n = some tp) (es : sum_Of.f k [tp, t1 ++ t2 ++ t3, (⟨#[0, 0]⟩ : ByteArray), body] = some v) (ev : sum_Big.f k (fixU v) 2 = some tv)
    (z : t1.size ≤ 8 ∧ t2.size ≤ 8 ∧ t3.size ≤ 8 ∧ tv.size ≤ 8 ∧ body.size ≤ 2000) : dgram_PutUDP.f k src dst s0 s1 s2 s3 s4 body = some (t1 ++ t2 ++ t3 ++ tv ++ body, 0) := by
  obtain ⟨y1, y2, y3, yv, yb⟩ := z
  have b1 : t1.size + t2.size ≤ 9223372036854775807 := room (by omega)
  have b2 : (t1 ++ t2).size + t3.size ≤ 9223372036854775807 := room (by simp only [ByteArray.size_append]; omega)
  have b3 : (t1 ++ t2 ++ t3).size + tv.size ≤ 9223372036854775807 := room (by simp only [ByteArray.size_append]; omega)
  have b4 : (t1 ++ t2 ++ t3 ++ tv).size + body.size ≤ 9223372036854775807 := room (by simp only [ByteArray.size_append]; omega)
  simp only [dgram_PutUDP.f]
  rw [hi, Option.bind_some, if_pos rfl, hn, if_neg hbig, e1, Option.bind_some, e2, Option.bind_some, if_pos b1, e3, Option.bind_some, if_pos b2, ep, Option.bind_some, es, Option.bind_some]
  by_cases hv : v = 0
  · rw [if_pos hv]
    rw [show fixU v = 65535 from if_pos hv] at ev
    rw [ev, Option.bind_some, if_pos b3, if_pos b4]
  · rw [if_neg hv]
    rw [show fixU v = v from if_neg hv] at ev
    rw [ev, Option.bind_some, if_pos b3, if_pos b4]
theorem cat_four (a b c d : ByteArray) : cat [a, b, c, d] = a.data.toList ++ (b.data.toList ++ (c.data.toList ++ d.data.toList)) := by simp only [cat, List.append_nil]
theorem cat_three (a b c : ByteArray) : cat [a, b, c] = a.data.toList ++ (b.data.toList ++ c.data.toList) := by simp only [cat, List.append_nil]
theorem cat_two (a b : ByteArray) : cat [a, b] = a.data.toList ++ b.data.toList := by simp only [cat, List.append_nil]
theorem cat_one (a : ByteArray) : cat [a] = a.data.toList := by simp only [cat, List.append_nil]
theorem uput_ev (src dst s0 s1 s2 s3 s4 : Int) (body : ByteArray) (hs : 0 ≤ src ∧ src ≤ 4294967295) (hd : 0 ≤ dst ∧ dst ≤ 4294967295) (hb : body.size ≤ 140737488351232) :
    Ev (fun k => dgram_PutUDP.f k src dst s0 s1 s2 s3 s4 body) (putU src dst s0 s1 body) := by
  obtain ⟨Ki, qi⟩ := in_ev 65535 s0 s1
  have hn := word8 body.size hb
  by_cases hc : twoIn 65535 s0 s1 = true
  · by_cases hbig : 8 + body.size > 2000
    · refine ⟨Ki, fun k hk => ?_⟩
      have e : dgram_in_int.f k 65535 [s0, s1] = some (twoIn 65535 s0 s1) := qi k hk
      simp only [dgram_PutUDP.f, putU]
      rw [e, Option.bind_some, if_pos hc, hn, if_pos (show ((8 + body.size : Nat) : Int) > 2000 by omega), if_pos hc, if_pos hbig]
    · obtain ⟨K1, q1⟩ := big_ev_nat s0 2 (by omega)
      obtain ⟨K2, q2⟩ := big_ev_nat s1 2 (by omega)
      obtain ⟨K3, q3⟩ := big_ev_nat ((8 + body.size : Nat) : Int) 2 (by omega)
      obtain ⟨Kp, qp⟩ := pseudo_ev src dst ((8 + body.size : Nat) : Int) hs hd
      obtain ⟨Ks, qs⟩ := of_ev [pseudoU src dst ((8 + body.size : Nat) : Int), frontU s0 s1 (8 + body.size), z2, body] (by simp) (by simp only [catSize, pseudoU_size, frontU_size, z2_size]; omega)
      rw [cat_four] at qs
      obtain ⟨Kv, qv⟩ := big_ev_nat (fixU (sumU src dst s0 s1 body)) 2 (by omega)
      refine ⟨Ki + K1 + K2 + K3 + Kp + Ks + Kv, fun k hk => ?_⟩
      have e0 : dgram_in_int.f k 65535 [s0, s1] = some (twoIn 65535 s0 s1) := qi k (by omega)
      rw [hc] at e0
      have e := uput_run k src dst s0 s1 s2 s3 s4 body _ _ _ _ _ _ _ e0 hn (show ¬ ((8 + body.size : Nat) : Int) > 2000 by omega) (q1 k (by omega)) (q2 k (by omega)) (q3 k (by omega)) (qp k (by omega)) (qs k (by omega)) (qv k (by omega)) (by simp only [bigS_size]; omega)
      simp only [putU]
      rw [if_pos hc, if_neg hbig]
      exact e
  · refine ⟨Ki, fun k hk => ?_⟩
    have e : dgram_in_int.f k 65535 [s0, s1] = some (twoIn 65535 s0 s1) := qi k hk
    simp only [dgram_PutUDP.f, putU]
    rw [e, Option.bind_some, if_neg hc, if_neg hc]
def frontC (s2 s3 : Int) : ByteArray := bigS s2 1 ++ bigS s3 1
def backC (s4 : Int) (body : ByteArray) : ByteArray := bigS s4 4 ++ body
theorem frontC_size (s2 s3 : Int) : (frontC s2 s3).size = 2 := by simp only [frontC, ByteArray.size_append, bigS_size]
theorem backC_size (s4 : Int) (body : ByteArray) : (backC s4 body).size = 4 + body.size := by simp only [backC, ByteArray.size_append, bigS_size]
def sumC (s2 s3 s4 : Int) (body : ByteArray) : Int := sumOf ((frontC s2 s3).data.toList ++ (z2.data.toList ++ (backC s4 body).data.toList))
def icmpS (s2 s3 s4 : Int) (body : ByteArray) : ByteArray := frontC s2 s3 ++ bigS (sumC s2 s3 s4 body) 2 ++ backC s4 body
theorem icmpS_size (s2 s3 s4 : Int) (body : ByteArray) : (icmpS s2 s3 s4 body).size = 8 + body.size := by
  simp only [icmpS, ByteArray.size_append, frontC_size, bigS_size, backC_size]
  omega
def putC (s2 s3 s4 : Int) (body : ByteArray) : ByteArray × Int :=
  if twoIn 255 s2 s3 = true then (if 8 + body.size > 2000 then ((⟨#[]⟩ : ByteArray), 5) else (icmpS s2 s3 s4 body, 0)) else ((⟨#[]⟩ : ByteArray), 1)
theorem cput_run (k : Nat) (s0 s1 s2 s3 s4 : Int) (body t1 t2 t4 tv : ByteArray) (v n w4 : Int) (hi : dgram_in_int.f k 255 [s2, s3] = some true) (hn : wrap64 (8 + (body.size : Int)) = n) (hbig : ¬ n > 2000) (hw : wrap64 s4 = w4)
    (e1 : sum_Big.f k s2 1 = some t1) (e2 : sum_Big.f k s3 1 = some t2) (e4 : sum_Big.f k w4 4 = some t4) (es : sum_Of.f k [t1 ++ t2, (⟨#[0, 0]⟩ : ByteArray), t4 ++ body] = some v) (ev : sum_Big.f k v 2 = some tv)
    (z : t1.size ≤ 8 ∧ t2.size ≤ 8 ∧ t4.size ≤ 8 ∧ tv.size ≤ 8 ∧ body.size ≤ 2000) : dgram_PutICMP.f k s0 s1 s2 s3 s4 body = some (t1 ++ t2 ++ tv ++ (t4 ++ body), 0) := by
  obtain ⟨y1, y2, y4, yv, yb⟩ := z
  have b1 : t1.size + t2.size ≤ 9223372036854775807 := room (by omega)
  have b2 : t4.size + body.size ≤ 9223372036854775807 := room (by omega)
  have b3 : (t1 ++ t2).size + tv.size ≤ 9223372036854775807 := room (by simp only [ByteArray.size_append]; omega)
  have b4 : (t1 ++ t2 ++ tv).size + (t4 ++ body).size ≤ 9223372036854775807 := room (by simp only [ByteArray.size_append]; omega)
  simp only [dgram_PutICMP.f]
  rw [hi, Option.bind_some, if_pos rfl, hn, if_neg hbig, e1, Option.bind_some, e2, Option.bind_some, if_pos b1, hw, e4, Option.bind_some, if_pos b2, es, Option.bind_some, ev, Option.bind_some, if_pos b3, if_pos b4]
theorem cput_ev (s0 s1 s2 s3 s4 : Int) (body : ByteArray) (h4 : 0 ≤ s4 ∧ s4 ≤ 4294967295) (hb : body.size ≤ 140737488351232) : Ev (fun k => dgram_PutICMP.f k s0 s1 s2 s3 s4 body) (putC s2 s3 s4 body) := by
  obtain ⟨Ki, qi⟩ := in_ev 255 s2 s3
  have hn := word8 body.size hb
  by_cases hc : twoIn 255 s2 s3 = true
  · by_cases hbig : 8 + body.size > 2000
    · refine ⟨Ki, fun k hk => ?_⟩
      have e : dgram_in_int.f k 255 [s2, s3] = some (twoIn 255 s2 s3) := qi k hk
      simp only [dgram_PutICMP.f, putC]
      rw [e, Option.bind_some, if_pos hc, hn, if_pos (show ((8 + body.size : Nat) : Int) > 2000 by omega), if_pos hc, if_pos hbig]
    · obtain ⟨K1, q1⟩ := big_ev_nat s2 1 (by omega)
      obtain ⟨K2, q2⟩ := big_ev_nat s3 1 (by omega)
      obtain ⟨K4, q4⟩ := big_ev_nat s4 4 (by omega)
      obtain ⟨Ks, qs⟩ := of_ev [frontC s2 s3, z2, backC s4 body] (by simp) (by simp only [catSize, frontC_size, z2_size, backC_size]; omega)
      rw [cat_three] at qs
      obtain ⟨Kv, qv⟩ := big_ev_nat (sumC s2 s3 s4 body) 2 (by omega)
      refine ⟨Ki + K1 + K2 + K4 + Ks + Kv, fun k hk => ?_⟩
      have e0 : dgram_in_int.f k 255 [s2, s3] = some (twoIn 255 s2 s3) := qi k (by omega)
      rw [hc] at e0
      have e := cput_run k s0 s1 s2 s3 s4 body _ _ _ _ _ _ _ e0 hn (show ¬ ((8 + body.size : Nat) : Int) > 2000 by omega) (wrap_u32 h4) (q1 k (by omega)) (q2 k (by omega)) (q4 k (by omega)) (qs k (by omega)) (qv k (by omega)) (by simp only [bigS_size]; omega)
      simp only [putC]
      rw [if_pos hc, if_neg hbig]
      exact e
  · refine ⟨Ki, fun k hk => ?_⟩
    have e : dgram_in_int.f k 255 [s2, s3] = some (twoIn 255 s2 s3) := qi k hk
    simp only [dgram_PutICMP.f, putC]
    rw [e, Option.bind_some, if_neg hc, if_neg hc]
abbrev GotD := Int × Int × Int × Int × Int × ByteArray × Int
def errD (c : Int) : GotD := (0, 0, 0, 0, 0, (⟨#[]⟩ : ByteArray), c)
def wholeU (src dst : Int) (s : ByteArray) : Int := sumOf ((pseudoU src dst (s.size : Int)).data.toList ++ s.data.toList)
def bare (s : ByteArray) : Prop := (s.extract 6 8).data.toList = [0, 0]
instance (s : ByteArray) : Decidable (bare s) := inferInstanceAs (Decidable ((s.extract 6 8).data.toList = [0, 0]))
def wrongU (src dst : Int) (s : ByteArray) : Int :=
  if s.size < 8 then 2 else if numOf (s.extract 4 6) ≠ (s.size : Int) then 3 else if s.size > 2000 then 5 else if ¬ bare s ∧ wholeU src dst s ≠ 0 then 4 else 0
def okU (s : ByteArray) : GotD := (numOf (s.extract 0 2), numOf (s.extract 2 4), 0, 0, 0, s.extract 8 s.size, 0)
def getU (src dst : Int) (s : ByteArray) : GotD := if wrongU src dst s = 0 then okU s else errD (wrongU src dst s)
def wrongC (s : ByteArray) : Int := if s.size < 8 then 2 else if s.size > 2000 then 5 else if sumOf s.data.toList ≠ 0 then 4 else 0
def okC (s : ByteArray) : GotD := (0, 0, bt s 0, bt s 1, numOf (s.extract 4 8) % 4294967296, s.extract 8 s.size, 0)
def getC (s : ByteArray) : GotD := if wrongC s = 0 then okC s else errD (wrongC s)
theorem num_ext (s : ByteArray) (a b : Nat) (h : b - a ≤ 8) : sum_Num.f (s.extract a b) = some (numOf (s.extract a b)) := num_some _ (by simp; omega)
theorem one_some (s : ByteArray) (h : 8 ≤ s.size) : dgram_GetUDP_1.f s = some (decide (numOf (s.extract 4 6) ≠ (s.size : Int))) := by
  simp only [dgram_GetUDP_1.f]
  rw [if_pos (show (4 : Nat) ≤ 6 by decide), if_pos (show (6 : Int) ≤ (s.size : Int) by omega), num_ext s 4 6 (by omega), Option.bind_some]
  congr 1; rw [Bool.eq_iff_iff]; simp
theorem sumsU_ev (src dst : Int) (s : ByteArray) (hs : 0 ≤ src ∧ src ≤ 4294967295) (hd : 0 ≤ dst ∧ dst ≤ 4294967295) (h : 8 ≤ s.size) (h2 : s.size ≤ 2000) : Ev (fun k => dgram_sumsU.f k s src dst) (decide (¬ bare s ∧ wholeU src dst s ≠ 0)) := by
  by_cases hb : bare s
  · refine ⟨0, fun k _ => ?_⟩
    simp only [dgram_sumsU.f]
    rw [if_pos (show (6 : Nat) ≤ 8 by decide), if_pos (show (8 : Int) ≤ (s.size : Int) by omega), if_pos (by rw [toList_data]; exact hb), decide_eq_false (fun h => h.1 hb)]
  · obtain ⟨K1, q1⟩ := pseudo_ev src dst (s.size : Int) hs hd
    obtain ⟨K2, q2⟩ := of_ev [pseudoU src dst (s.size : Int), s] (by simp) (by simp only [catSize, pseudoU_size]; omega)
    rw [cat_two] at q2
    refine ⟨K1 + K2, fun k hk => ?_⟩
    have e1 : dgram_pseudo.f k src dst (s.size : Int) = some (pseudoU src dst (s.size : Int)) := q1 k (by omega)
    have e2 : sum_Of.f k [pseudoU src dst (s.size : Int), s] = some (wholeU src dst s) := q2 k (by omega)
    simp only [dgram_sumsU.f]
    rw [if_pos (show (6 : Nat) ≤ 8 by decide), if_pos (show (8 : Int) ≤ (s.size : Int) by omega), if_neg (by rw [toList_data]; exact hb), e1, Option.bind_some, e2, Option.bind_some]
    congr 1; rw [Bool.eq_iff_iff]; simp [hb]
theorem wrongU_ev (src dst : Int) (s : ByteArray) (hs : 0 ≤ src ∧ src ≤ 4294967295) (hd : 0 ≤ dst ∧ dst ≤ 4294967295) : Ev (fun k => dgram_GetUDP_2.f k s src dst) (wrongU src dst s) := by
  unfold wrongU
  by_cases h1 : s.size < 8
  · refine ⟨0, fun k _ => ?_⟩
    simp only [dgram_GetUDP_2.f]
    rw [if_pos (show (s.size : Int) < 8 by omega), if_pos h1]
  rw [if_neg h1]
  have e1 := one_some s (by omega)
  by_cases h2 : numOf (s.extract 4 6) ≠ (s.size : Int)
  · refine ⟨0, fun k _ => ?_⟩
    simp only [dgram_GetUDP_2.f]
    rw [if_neg (show ¬ (s.size : Int) < 8 by omega), e1, decide_eq_true h2, Option.bind_some, if_pos rfl, if_pos h2]
  rw [if_neg h2]
  by_cases h3 : s.size > 2000
  · refine ⟨0, fun k _ => ?_⟩
    simp only [dgram_GetUDP_2.f]
    rw [if_neg (show ¬ (s.size : Int) < 8 by omega), e1, decide_eq_false h2, Option.bind_some, if_neg Bool.false_ne_true, if_pos (show (s.size : Int) > 2000 by omega), if_pos h3]
  rw [if_neg h3]
  obtain ⟨K, q⟩ := sumsU_ev src dst s hs hd (by omega) (by omega)
  refine ⟨K, fun k hk => ?_⟩
  have e2 : dgram_sumsU.f k s src dst = some (decide (¬ bare s ∧ wholeU src dst s ≠ 0)) := q k hk
  simp only [dgram_GetUDP_2.f]
  rw [if_neg (show ¬ (s.size : Int) < 8 by omega), e1, decide_eq_false h2, Option.bind_some, if_neg Bool.false_ne_true, if_neg (show ¬ (s.size : Int) > 2000 by omega), e2, Option.bind_some]
  by_cases h4 : ¬ bare s ∧ wholeU src dst s ≠ 0
  · rw [if_pos h4, decide_eq_true h4, if_pos rfl]
  · rw [if_neg h4, decide_eq_false h4, if_neg Bool.false_ne_true]
theorem wrongU_size {src dst : Int} {s : ByteArray} (h : wrongU src dst s = 0) : 8 ≤ s.size := by
  unfold wrongU at h
  by_cases h1 : s.size < 8
  · rw [if_pos h1] at h; omega
  omega
theorem uget_ev (src dst : Int) (s : ByteArray) (hs : 0 ≤ src ∧ src ≤ 4294967295) (hd : 0 ≤ dst ∧ dst ≤ 4294967295) : Ev (fun k => dgram_GetUDP.f k src dst s) (getU src dst s) := by
  obtain ⟨K, q⟩ := wrongU_ev src dst s hs hd
  refine ⟨K, fun k hk => ?_⟩
  have e : dgram_GetUDP_2.f k s src dst = some (wrongU src dst s) := q k hk
  simp only [dgram_GetUDP.f, getU]
  rw [e, Option.bind_some]
  by_cases h : wrongU src dst s = 0
  · have h8 := wrongU_size h
    rw [if_neg (show ¬ ((wrongU src dst s != 0) = true) by simp [h]), if_pos h, if_pos (show (0 : Nat) ≤ 2 by decide), if_pos (show (2 : Int) ≤ (s.size : Int) by omega), num_ext s 0 2 (by omega), Option.bind_some, if_pos (show (2 : Nat) ≤ 4 by decide), if_pos (show (4 : Int) ≤ (s.size : Int) by omega), num_ext s 2 4 (by omega), Option.bind_some, if_pos (show (8 : Int) ≤ (s.size : Int) by omega)]
    rfl
  · rw [if_pos (show (wrongU src dst s != 0) = true by simp [h]), if_neg h]
    rfl
theorem wrongC_ev (s : ByteArray) : Ev (fun k => dgram_GetICMP_2.f k s) (wrongC s) := by
  unfold wrongC
  by_cases h1 : s.size < 8
  · refine ⟨0, fun k _ => ?_⟩
    simp only [dgram_GetICMP_2.f]
    rw [if_pos (show (s.size : Int) < 8 by omega), if_pos h1]
  rw [if_neg h1]
  by_cases h3 : s.size > 2000
  · refine ⟨0, fun k _ => ?_⟩
    simp only [dgram_GetICMP_2.f, dgram_GetICMP_1.f]
    rw [if_neg (show ¬ (s.size : Int) < 8 by omega), Option.bind_some, if_neg Bool.false_ne_true, if_pos (show (s.size : Int) > 2000 by omega), if_pos h3]
  rw [if_neg h3]
  obtain ⟨K, q⟩ := of_ev [s] (by simp) (by simp only [catSize]; omega)
  rw [cat_one] at q
  refine ⟨K, fun k hk => ?_⟩
  have e2 : sum_Of.f k [s] = some (sumOf s.data.toList) := q k hk
  simp only [dgram_GetICMP_2.f, dgram_GetICMP_1.f, dgram_sumsI.f]
  rw [if_neg (show ¬ (s.size : Int) < 8 by omega), Option.bind_some, if_neg Bool.false_ne_true, if_neg (show ¬ (s.size : Int) > 2000 by omega), e2, Option.bind_some, Option.bind_some]
  by_cases h4 : sumOf s.data.toList ≠ 0
  · rw [if_pos h4, if_pos (by simpa using h4)]
  · rw [if_neg h4, if_neg (by simpa using h4)]
theorem wrongC_size {s : ByteArray} (h : wrongC s = 0) : 8 ≤ s.size := by
  unfold wrongC at h
  by_cases h1 : s.size < 8
  · rw [if_pos h1] at h; omega
  omega
theorem word_bt (s : ByteArray) (i : Int) : wrap64 (bt s i) = bt s i := by have := bt_range s i; unfold wrap64; omega
theorem cget_ev (s : ByteArray) : Ev (fun k => dgram_GetICMP.f k s) (getC s) := by
  obtain ⟨K, q⟩ := wrongC_ev s
  refine ⟨K, fun k hk => ?_⟩
  have e : dgram_GetICMP_2.f k s = some (wrongC s) := q k hk
  simp only [dgram_GetICMP.f, getC]
  rw [e, Option.bind_some]
  by_cases h : wrongC s = 0
  · have h8 := wrongC_size h
    rw [if_neg (show ¬ ((wrongC s != 0) = true) by simp [h]), if_pos h, if_pos (show (0 : Int) < (s.size : Int) by omega), if_pos (show (1 : Int) < (s.size : Int) by omega), if_pos (show (4 : Nat) ≤ 8 by decide), if_pos (show (8 : Int) ≤ (s.size : Int) by omega), num_ext s 4 8 (by omega), Option.bind_some, word_bt, word_bt]
    rfl
  · rw [if_pos (show (wrongC s != 0) = true by simp [h]), if_neg h]
    rfl
def uaw : ByteArray := (putU 1 2 5 53 (⟨#[120]⟩ : ByteArray)).1
theorem uaw_put : putU 1 2 5 53 (⟨#[120]⟩ : ByteArray) = (uaw, 0) := by decide +kernel
theorem uaw_get : (getU 1 2 uaw).2.2.2.2.2.2 = 0 ∧ (getU 1 2 uaw).2.1 = 53 ∧ (getU 1 2 uaw).2.2.2.2.2.1.toList = [120] ∧ (getC (⟨#[49, 50, 51, 52, 53, 54, 55]⟩ : ByteArray)).2.2.2.2.2.2 = 2 := by decide +kernel
end Go.Proofs.Ytgolimfljndnmaa.QF
