/- What is proved: what the program's Put of datagrams comes to, in closed form. Conditions: those that stand in each theorem. -/
import Derived.Test.YtgolimfljndnmaaQVSumLib
import Derived.Test.YtgolimfljndnmaaHVx3
import Derived.Test.YtgolimfljndnmaaHVx1
import Derived.Test.YtgolimfljndnmaaHVx2
namespace Go.Proofs.Ytgolimfljndnmaa.QV
open Go.RowKit Go.Proofs.Ytgolimfljndnmaa.HV Go.Proofs.YtgolimfljndnmaaW.PrintWords Go.Proofs.YtgolimfljndnmaaW.PrintLast Go.Proofs.YtgolimfljndnmaaW.PrintMore
set_option linter.unusedVariables false
set_option linter.unusedSimpArgs false
def z2 : ByteArray := ⟨#[0, 0]⟩
theorem z2_size : z2.size = 2 := rfl
theorem z2_list : z2.data.toList = [0, 0] := rfl
theorem room {n : Nat} (h : n ≤ 1000000) : n ≤ 9223372036854775807 := Nat.le_trans h (by decide)
theorem wrap_u32 {s : Int} (h : 0 ≤ s ∧ s ≤ 4294967295) : wrap64 s = s := by unfold wrap64; omega
/-- May a head be? -/
def chkI (s0 s1 s4 s5 s6 : Int) (o : ByteArray) : Bool := decide (0 ≤ s0 ∧ s0 ≤ 255 ∧ 0 ≤ s5 ∧ s5 ≤ 255 ∧ 0 ≤ s6 ∧ s6 ≤ 255 ∧ 0 ≤ s1 ∧ s1 ≤ 65535 ∧ 0 ≤ s4 ∧ s4 ≤ 65528 ∧ s4 % 8 = 0 ∧ o.size ≤ 40 ∧ o.size % 4 = 0)
theorem in_some (a b : Int) : ipv4_in.f a b = some (decide (0 ≤ a ∧ a ≤ b)) := by
  simp only [ipv4_in.f]
  by_cases h : a ≥ 0
  · rw [if_pos h]; congr 1; rw [Bool.eq_iff_iff]; simp; omega
  · rw [if_neg h]; congr 1; rw [Bool.eq_iff_iff]; simp; omega
theorem chkI_no {s0 s1 s4 s5 s6 : Int} {o : ByteArray} (h : ¬ (0 ≤ s0 ∧ s0 ≤ 255 ∧ 0 ≤ s5 ∧ s5 ≤ 255 ∧ 0 ≤ s6 ∧ s6 ≤ 255 ∧ 0 ≤ s1 ∧ s1 ≤ 65535 ∧ 0 ≤ s4 ∧ s4 ≤ 65528 ∧ s4 % 8 = 0 ∧ o.size ≤ 40 ∧ o.size % 4 = 0)) : chkI s0 s1 s4 s5 s6 o = false := decide_eq_false h
theorem chkI_all {s0 s1 s4 s5 s6 : Int} {o : ByteArray} (h : chkI s0 s1 s4 s5 s6 o = true) : 0 ≤ s0 ∧ s0 ≤ 255 ∧ 0 ≤ s5 ∧ s5 ≤ 255 ∧ 0 ≤ s6 ∧ s6 ≤ 255 ∧ 0 ≤ s1 ∧ s1 ≤ 65535 ∧ 0 ≤ s4 ∧ s4 ≤ 65528 ∧ s4 % 8 = 0 ∧ o.size ≤ 40 ∧ o.size % 4 = 0 := of_decide_eq_true h
theorem tmod8 {a : Int} (h : 0 ≤ a) : Int.tmod a 8 = a % 8 := Int.tmod_eq_emod_of_nonneg h
theorem check_some (s0 s1 : Int) (s2 s3 : Bool) (s4 s5 s6 s7 s8 : Int) (o : ByteArray) : ipv4_Check.f s0 s1 s2 s3 s4 s5 s6 s7 s8 o = some (chkI s0 s1 s4 s5 s6 o) := by
  simp only [ipv4_Check.f, in_some, Option.bind_some, decide_eq_true_eq]
  by_cases h0 : 0 ≤ s0 ∧ s0 ≤ 255
  · by_cases h1 : 0 ≤ s5 ∧ s5 ≤ 255
    · by_cases h2 : 0 ≤ s6 ∧ s6 ≤ 255
      · by_cases h3 : 0 ≤ s1 ∧ s1 ≤ 65535
        · by_cases h4 : 0 ≤ s4 ∧ s4 ≤ 65528
          · rw [if_pos h0, if_pos h1, if_pos h2, if_pos h3, if_pos h4, tmod8 h4.1]
            by_cases h5 : s4 % 8 = 0
            · by_cases h6 : (o.size : Int) ≤ 40
              · rw [if_pos h5, if_pos h6]
                unfold chkI
                congr 1; rw [Bool.eq_iff_iff]; simp; omega
              · rw [if_pos h5, if_neg h6, chkI_no (by omega)]
            · rw [if_neg h5, chkI_no (by omega)]
          · rw [if_pos h0, if_pos h1, if_pos h2, if_pos h3, if_neg h4, chkI_no (by omega)]
        · rw [if_pos h0, if_pos h1, if_pos h2, if_neg h3, chkI_no (by omega)]
      · rw [if_pos h0, if_pos h1, if_neg h2, chkI_no (by omega)]
    · rw [if_pos h0, if_neg h1, chkI_no (by omega)]
  · rw [if_neg h0, chkI_no (by omega)]
def cutI (s2 s3 : Bool) (s4 : Int) : Int := s4 / 8 + (if s3 = true then 16384 else 0) + (if s2 = true then 8192 else 0)
theorem or_high (x : Int) (i : Nat) (y : Int) (hx0 : 0 ≤ x) (hx : x < 2 ^ i) (hy0 : 0 ≤ y) (hy : y % 2 ^ i = 0) (hx1 : x < 2 ^ 63) (hy1 : y < 2 ^ 63) : Go.bits .or .i64 x y = x + y := by
  obtain ⟨a, rfl⟩ := Int.eq_ofNat_of_zero_le hx0
  obtain ⟨b, rfl⟩ := Int.eq_ofNat_of_zero_le hy0
  have j := bits_join .i64 63 (by decide) wraps64 i (b : Int) (a : Int) hy0 hy hy1 hx0 hx hx1
  have ha : a < 2 ^ 63 := by exact_mod_cast hx1
  have hb : b < 2 ^ 63 := by exact_mod_cast hy1
  rw [(bits_nat .i64 63 (by decide) wraps64 a b ha hb).2, Nat.or_comm, ← (bits_nat .i64 63 (by decide) wraps64 b a hb ha).2, j, Int.add_comm]
theorem cut_8192 (x : Int) (h0 : 0 ≤ x) (h1 : x ≤ 8191) : Go.bits .or .i64 x 8192 = x + 8192 := or_high x 13 8192 h0 (by omega) (by decide) (by decide) (by omega) (by decide)
theorem cut_16384 (x : Int) (h0 : 0 ≤ x) (h1 : x ≤ 8191) : Go.bits .or .i64 x 16384 = x + 16384 := or_high x 14 16384 h0 (by omega) (by decide) (by decide) (by omega) (by decide)
theorem cut_both (x : Int) (h0 : 0 ≤ x) (h1 : x ≤ 8191) : Go.bits .or .i64 (x + 16384) 8192 = x + 16384 + 8192 := by
  have e1 : x + 16384 = 16384 + x := Int.add_comm _ _
  obtain ⟨a, rfl⟩ := Int.eq_ofNat_of_zero_le h0
  have ha : a < 2 ^ 13 := by omega
  have n1 : 16384 + a = 2 ^ 14 ||| a := by
    have := Nat.two_pow_add_eq_or_of_lt (show a < 2 ^ 14 by omega) 1
    simpa using this
  have n2 : 8192 + a = 2 ^ 13 ||| a := by
    have := Nat.two_pow_add_eq_or_of_lt ha 1
    simpa using this
  have n3 : 16384 + (8192 + a) = 2 ^ 14 ||| (8192 + a) := by
    have := Nat.two_pow_add_eq_or_of_lt (show 8192 + a < 2 ^ 14 by omega) 1
    simpa using this
  have c : ((a : Int) + 16384) = ((16384 + a : Nat) : Int) := by omega
  rw [c, show (8192 : Int) = ((8192 : Nat) : Int) from rfl, (bits_nat .i64 63 (by decide) wraps64 (16384 + a) 8192 (by omega) (by decide)).2]
  have : 16384 + a ||| 8192 = 16384 + (8192 + a) := by
    rw [n3, n2, n1, show (8192 : Nat) = 2 ^ 13 from rfl, Nat.or_assoc, Nat.or_comm a (2 ^ 13)]
  rw [this]
  omega
theorem cutting_some (s0 s1 : Int) (s2 s3 : Bool) (s4 s5 s6 s7 s8 : Int) (o : ByteArray) (h0 : 0 ≤ s4) (h1 : s4 ≤ 65528) : ipv4_cutting.f s0 s1 s2 s3 s4 s5 s6 s7 s8 o = some (cutI s2 s3 s4) := by
  have hw : wrap64 (Int.tdiv s4 8) = s4 / 8 := by
    rw [Int.tdiv_eq_ediv_of_nonneg h0]
    unfold wrap64
    omega
  simp only [ipv4_cutting.f]
  rw [hw]
  have b0 : 0 ≤ s4 / 8 := by omega
  have b1 : s4 / 8 ≤ 8191 := by omega
  unfold cutI
  generalize s4 / 8 = x at *
  cases s2 <;> cases s3 <;> simp only [Bool.false_eq_true, if_false, if_true]
  · congr 1; omega
  · rw [cut_16384 x b0 b1]; congr 1; omega
  · rw [cut_8192 x b0 b1]; congr 1; omega
  · rw [cut_16384 x b0 b1, cut_both x b0 b1]
theorem cutI_range (s2 s3 : Bool) (s4 : Int) (h0 : 0 ≤ s4) (h1 : s4 ≤ 65528) : 0 ≤ cutI s2 s3 s4 ∧ cutI s2 s3 s4 ≤ 32767 := by
  unfold cutI
  cases s2 <;> cases s3 <;> simp only [Bool.false_eq_true, if_false, if_true] <;> omega
def frontI (s0 s1 : Int) (s2 s3 : Bool) (s4 s5 s6 : Int) (os bs : Nat) : ByteArray := bigS ((64 + (20 + os) / 4 : Nat) : Int) 1 ++ bigS s0 1 ++ bigS ((20 + os + bs : Nat) : Int) 2 ++ bigS s1 2 ++ bigS (cutI s2 s3 s4) 2 ++ bigS s5 1 ++ bigS s6 1
def backI (s7 s8 : Int) (o : ByteArray) : ByteArray := bigS s7 4 ++ bigS s8 4 ++ o
theorem frontI_size (s0 s1 : Int) (s2 s3 : Bool) (s4 s5 s6 : Int) (os bs : Nat) : (frontI s0 s1 s2 s3 s4 s5 s6 os bs).size = 10 := by
  simp only [frontI, ByteArray.size_append, bigS_size]
theorem backI_size (s7 s8 : Int) (o : ByteArray) : (backI s7 s8 o).size = 8 + o.size := by
  simp only [backI, ByteArray.size_append, bigS_size]
/-- The sum of a head that has two bytes 0 in its place. -/
def sumI (s0 s1 : Int) (s2 s3 : Bool) (s4 s5 s6 s7 s8 : Int) (o : ByteArray) (bs : Nat) : Int :=
  sumOf ((frontI s0 s1 s2 s3 s4 s5 s6 o.size bs).data.toList ++ (z2.data.toList ++ (backI s7 s8 o).data.toList))
def headI (s0 s1 : Int) (s2 s3 : Bool) (s4 s5 s6 s7 s8 : Int) (o : ByteArray) (bs : Nat) : ByteArray :=
  frontI s0 s1 s2 s3 s4 s5 s6 o.size bs ++ bigS (sumI s0 s1 s2 s3 s4 s5 s6 s7 s8 o bs) 2 ++ backI s7 s8 o
theorem headI_size (s0 s1 : Int) (s2 s3 : Bool) (s4 s5 s6 s7 s8 : Int) (o : ByteArray) (bs : Nat) : (headI s0 s1 s2 s3 s4 s5 s6 s7 s8 o bs).size = 20 + o.size := by
  simp only [headI, ByteArray.size_append, frontI_size, bigS_size, backI_size]
  omega
def putI (s0 s1 : Int) (s2 s3 : Bool) (s4 s5 s6 s7 s8 : Int) (o body : ByteArray) : ByteArray × Int :=
  if chkI s0 s1 s4 s5 s6 o = true then (if body.size > 2000 then ((⟨#[]⟩ : ByteArray), 5) else (headI s0 s1 s2 s3 s4 s5 s6 s7 s8 o body.size ++ body, 0)) else ((⟨#[]⟩ : ByteArray), 1)
theorem iput_run (k : Nat) (s0 s1 : Int) (s2 s3 : Bool) (s4 s5 s6 s7 s8 : Int) (o body t1 t2 t3 t4 t5 t6 t7 ta tb tv : ByteArray) (v n1 n3 n5 w7 w8 : Int) (hc : chkI s0 s1 s4 s5 s6 o = true) (hbig : ¬ (body.size : Int) > 2000)
    (h1 : Go.bits .or .i64 64 (wrap64 (Int.tdiv (wrap64 (20 + (o.size : Int))) 4)) = n1) (h3 : wrap64 ((wrap64 (20 + (o.size : Int))) + (body.size : Int)) = n3) (h5 : ipv4_cutting.f s0 s1 s2 s3 s4 s5 s6 s7 s8 o = some n5) (h7 : wrap64 s7 = w7) (h8 : wrap64 s8 = w8)
    (e1 : sum_Big.f k n1 1 = some t1) (e2 : sum_Big.f k s0 1 = some t2) (e3 : sum_Big.f k n3 2 = some t3) (e4 : sum_Big.f k s1 2 = some t4) (e5 : sum_Big.f k n5 2 = some t5) (e6 : sum_Big.f k s5 1 = some t6) (e7 : sum_Big.f k s6 1 = some t7)
    (ea : sum_Big.f k w7 4 = some ta) (eb : sum_Big.f k w8 4 = some tb) (es : sum_Of.f k [t1 ++ t2 ++ t3 ++ t4 ++ t5 ++ t6 ++ t7, (⟨#[0, 0]⟩ : ByteArray), ta ++ tb ++ o] = some v) (ev : sum_Big.f k v 2 = some tv)
    (z : t1.size ≤ 8 ∧ t2.size ≤ 8 ∧ t3.size ≤ 8 ∧ t4.size ≤ 8 ∧ t5.size ≤ 8 ∧ t6.size ≤ 8 ∧ t7.size ≤ 8 ∧ ta.size ≤ 8 ∧ tb.size ≤ 8 ∧ tv.size ≤ 8 ∧ o.size ≤ 40 ∧ body.size ≤ 2000) :
    ipv4_Put.f k s0 s1 s2 s3 s4 s5 s6 s7 s8 o body = some (t1 ++ t2 ++ t3 ++ t4 ++ t5 ++ t6 ++ t7 ++ tv ++ (ta ++ tb ++ o) ++ body, 0) := by
  obtain ⟨y1, y2, y3, y4, y5, y6, y7, ya, yb, yv, yo, yy⟩ := z
  have b1 : t1.size + t2.size ≤ 9223372036854775807 := room (by omega)
  have b2 : (t1 ++ t2).size + t3.size ≤ 9223372036854775807 := room (by simp only [ByteArray.size_append]; omega)
  have b3 : (t1 ++ t2 ++ t3).size + t4.size ≤ 9223372036854775807 := room (by simp only [ByteArray.size_append]; omega)
  have b4 : (t1 ++ t2 ++ t3 ++ t4).size + t5.size ≤ 9223372036854775807 := room (by simp only [ByteArray.size_append]; omega)
  have b5 : (t1 ++ t2 ++ t3 ++ t4 ++ t5).size + t6.size ≤ 9223372036854775807 := room (by simp only [ByteArray.size_append]; omega)
  have b6 : (t1 ++ t2 ++ t3 ++ t4 ++ t5 ++ t6).size + t7.size ≤ 9223372036854775807 := room (by simp only [ByteArray.size_append]; omega)
  have c1 : ta.size + tb.size ≤ 9223372036854775807 := room (by omega)
  have c2 : (ta ++ tb).size + o.size ≤ 9223372036854775807 := room (by simp only [ByteArray.size_append]; omega)
  have d1 : (t1 ++ t2 ++ t3 ++ t4 ++ t5 ++ t6 ++ t7).size + tv.size ≤ 9223372036854775807 := room (by simp only [ByteArray.size_append]; omega)
  have d2 : (t1 ++ t2 ++ t3 ++ t4 ++ t5 ++ t6 ++ t7 ++ tv).size + (ta ++ tb ++ o).size ≤ 9223372036854775807 := room (by simp only [ByteArray.size_append]; omega)
  have d3 : (t1 ++ t2 ++ t3 ++ t4 ++ t5 ++ t6 ++ t7 ++ tv ++ (ta ++ tb ++ o)).size + body.size ≤ 9223372036854775807 := room (by simp only [ByteArray.size_append]; omega)
  simp only [ipv4_Put.f]
  rw [check_some, Option.bind_some, if_pos hc, if_neg hbig, h1, e1, Option.bind_some, e2, Option.bind_some, if_pos b1, h3, e3, Option.bind_some, if_pos b2, e4, Option.bind_some, if_pos b3, h5, Option.bind_some, e5, Option.bind_some, if_pos b4, e6, Option.bind_some, if_pos b5, e7, Option.bind_some, if_pos b6,
    h7, ea, Option.bind_some, h8, eb, Option.bind_some, if_pos c1, if_pos c2, es, Option.bind_some, ev, Option.bind_some, if_pos d1, if_pos d2, if_pos d3]
theorem word_one (n : Nat) (h : n ≤ 40) : Go.bits .or .i64 64 (wrap64 (Int.tdiv (wrap64 (20 + (n : Int))) 4)) = ((64 + (20 + n) / 4 : Nat) : Int) := by
  have hw : wrap64 (Int.tdiv (wrap64 (20 + (n : Int))) 4) = (((20 + n) / 4 : Nat) : Int) := by
    rw [show wrap64 (20 + (n : Int)) = ((20 + n : Nat) : Int) by unfold wrap64; omega, Int.tdiv_eq_ediv_of_nonneg (by omega)]
    unfold wrap64
    omega
  rw [hw, bits_join .i64 63 (by decide) wraps64 6 64 _ (by decide) (by decide) (by decide) (by omega) (by omega) (by omega)]
  omega
theorem word_len (n m : Nat) (h : n ≤ 40) (h2 : m ≤ 2000) : wrap64 ((wrap64 (20 + (n : Int))) + (m : Int)) = ((20 + n + m : Nat) : Int) := by unfold wrap64; omega
theorem cat_three (a b c : ByteArray) : cat [a, b, c] = a.data.toList ++ (b.data.toList ++ c.data.toList) := by simp only [cat, List.append_nil]
theorem iput_ev (s0 s1 : Int) (s2 s3 : Bool) (s4 s5 s6 s7 s8 : Int) (o body : ByteArray) (h7 : 0 ≤ s7 ∧ s7 ≤ 4294967295) (h8 : 0 ≤ s8 ∧ s8 ≤ 4294967295) :
    Ev (fun k => ipv4_Put.f k s0 s1 s2 s3 s4 s5 s6 s7 s8 o body) (putI s0 s1 s2 s3 s4 s5 s6 s7 s8 o body) := by
  by_cases hc : chkI s0 s1 s4 s5 s6 o = true
  · obtain ⟨g1, g2, g3, g4, g5, g6, g7, g8, g9, g10, g11, g12, g13⟩ := chkI_all hc
    by_cases hbig : body.size > 2000
    · refine ⟨0, fun k _ => ?_⟩
      simp only [ipv4_Put.f, putI]
      rw [check_some, Option.bind_some, if_pos hc, if_pos (show (body.size : Int) > 2000 by omega), if_pos hc, if_pos hbig]
    · obtain ⟨K1, q1⟩ := big_ev_nat ((64 + (20 + o.size) / 4 : Nat) : Int) 1 (by omega)
      obtain ⟨K2, q2⟩ := big_ev_nat s0 1 (by omega)
      obtain ⟨K3, q3⟩ := big_ev_nat ((20 + o.size + body.size : Nat) : Int) 2 (by omega)
      obtain ⟨K4, q4⟩ := big_ev_nat s1 2 (by omega)
      obtain ⟨K5, q5⟩ := big_ev_nat (cutI s2 s3 s4) 2 (by omega)
      obtain ⟨K6, q6⟩ := big_ev_nat s5 1 (by omega)
      obtain ⟨K7, q7⟩ := big_ev_nat s6 1 (by omega)
      obtain ⟨Ka, qa⟩ := big_ev_nat s7 4 (by omega)
      obtain ⟨Kb, qb⟩ := big_ev_nat s8 4 (by omega)
      obtain ⟨Ks, qs⟩ := of_ev [frontI s0 s1 s2 s3 s4 s5 s6 o.size body.size, z2, backI s7 s8 o] (by simp) (by simp only [catSize, frontI_size, z2_size, backI_size]; omega)
      rw [cat_three] at qs
      obtain ⟨Kv, qv⟩ := big_ev_nat (sumI s0 s1 s2 s3 s4 s5 s6 s7 s8 o body.size) 2 (by omega)
      refine ⟨K1 + K2 + K3 + K4 + K5 + K6 + K7 + Ka + Kb + Ks + Kv, fun k hk => ?_⟩
      have e := iput_run k s0 s1 s2 s3 s4 s5 s6 s7 s8 o body _ _ _ _ _ _ _ _ _ _ _ _ _ _ _ _ hc (show ¬ (body.size : Int) > 2000 by omega) (word_one o.size g12) (word_len o.size body.size g12 (by omega)) (cutting_some s0 s1 s2 s3 s4 s5 s6 s7 s8 o g9 g10) (wrap_u32 h7) (wrap_u32 h8)
        (q1 k (by omega)) (q2 k (by omega)) (q3 k (by omega)) (q4 k (by omega)) (q5 k (by omega)) (q6 k (by omega)) (q7 k (by omega)) (qa k (by omega)) (qb k (by omega)) (qs k (by omega)) (qv k (by omega)) (by simp only [bigS_size]; omega)
      simp only [putI]
      rw [if_pos hc, if_neg hbig]
      exact e
  · refine ⟨0, fun k _ => ?_⟩
    simp only [ipv4_Put.f, putI]
    rw [check_some, Option.bind_some, if_neg hc, if_neg hc]
end Go.Proofs.Ytgolimfljndnmaa.QV
