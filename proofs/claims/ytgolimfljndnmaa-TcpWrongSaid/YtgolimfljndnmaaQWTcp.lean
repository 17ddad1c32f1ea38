/- What is proved: what the program's and the document's Put and Get of segments come to, in closed form, and that they are the same. Conditions: those that stand in each theorem. -/
import Derived.Test.YtgolimfljndnmaaQWSumLib
import Derived.Test.YtgolimfljndnmaaHWx4
import Derived.Test.YtgolimfljndnmaaHWx1
namespace Go.Proofs.Ytgolimfljndnmaa.QW
open Go.RowKit Go.Proofs.Ytgolimfljndnmaa.HW Go.Proofs.YtgolimfljndnmaaW.PrintWords Go.Proofs.YtgolimfljndnmaaW.PrintLast Go.Proofs.YtgolimfljndnmaaW.PrintMore
set_option linter.unusedVariables false
set_option linter.unusedSimpArgs false
def z1 : ByteArray := ⟨#[0]⟩
def z2 : ByteArray := ⟨#[0, 0]⟩
theorem z1_size : z1.size = 1 := rfl
theorem z2_size : z2.size = 2 := rfl
theorem z2_list : z2.data.toList = [0, 0] := rfl
theorem z1_list : z1.data.toList = [0] := rfl
/-- May a head be? -/
def chkT (s0 s1 s4 s5 : Int) (o : ByteArray) : Bool := decide (0 ≤ s0 ∧ s0 ≤ 65535 ∧ 0 ≤ s1 ∧ s1 ≤ 65535 ∧ 0 ≤ s5 ∧ s5 ≤ 65535 ∧ 0 ≤ s4 ∧ s4 ≤ 63 ∧ o.size ≤ 40 ∧ o.size % 4 = 0)
theorem tcp_in_some (a b : Int) : tcp_in.f a b = some (decide (0 ≤ a ∧ a ≤ b)) := by
  simp only [tcp_in.f]
  by_cases h : a ≥ 0
  · rw [if_pos h]; congr 1; rw [Bool.eq_iff_iff]; simp; omega
  · rw [if_neg h]; congr 1; rw [Bool.eq_iff_iff]; simp; omega
theorem tcp_check_some (s0 s1 s2 s3 s4 s5 : Int) (o : ByteArray) : tcp_Check.f s0 s1 s2 s3 s4 s5 o = some (chkT s0 s1 s4 s5 o) := by
  simp only [tcp_Check.f, tcp_in_some, Option.bind_some, decide_eq_true_eq]
  unfold chkT
  (repeat' split) <;> (congr 1; rw [Bool.eq_iff_iff]; simp; omega)
def pseudoT (src dst p n : Int) : ByteArray := bigS src 4 ++ bigS dst 4 ++ z1 ++ bigS p 1 ++ bigS n 2
theorem pseudoT_size (src dst p n : Int) : (pseudoT src dst p n).size = 12 := by
  simp only [pseudoT, ByteArray.size_append, bigS_size, z1_size]
theorem head_pseudo_ev (a0 a1 a2 a3 a4 a5 : Int) (o : ByteArray) (src dst n : Int) (hs : 0 ≤ src ∧ src ≤ 4294967295) (hd : 0 ≤ dst ∧ dst ≤ 4294967295) :
    Ev (fun k => tcp_head_pseudo.f k a0 a1 a2 a3 a4 a5 o src dst n) (pseudoT src dst 6 n) := by
  have w1 : wrap64 src = src := by unfold wrap64; omega
  have w2 : wrap64 dst = dst := by unfold wrap64; omega
  obtain ⟨K1, h1⟩ := big_ev_nat src 4 (by omega)
  obtain ⟨K2, h2⟩ := big_ev_nat dst 4 (by omega)
  obtain ⟨K3, h3⟩ := big_ev_nat 6 1 (by omega)
  obtain ⟨K4, h4⟩ := big_ev_nat n 2 (by omega)
  refine ⟨K1 + K2 + K3 + K4, fun k hk => ?_⟩
  have e1 : sum_Big.f k src 4 = some (bigS src 4) := h1 k (by omega)
  have e2 : sum_Big.f k dst 4 = some (bigS dst 4) := h2 k (by omega)
  have e3 : sum_Big.f k 6 1 = some (bigS 6 1) := h3 k (by omega)
  have e4 : sum_Big.f k n 2 = some (bigS n 2) := h4 k (by omega)
  have s1 : (bigS src 4).size + (bigS dst 4).size ≤ 9223372036854775807 := by simp only [bigS_size]; omega
  have s2 : (bigS src 4 ++ bigS dst 4).size + 1 ≤ 9223372036854775807 := by simp only [ByteArray.size_append, bigS_size]; omega
  have s3 : (bigS src 4 ++ bigS dst 4 ++ (⟨#[0]⟩ : ByteArray)).size + (bigS 6 1).size ≤ 9223372036854775807 := by
    have : (bigS src 4 ++ bigS dst 4 ++ z1).size + (bigS 6 1).size ≤ 9223372036854775807 := by simp only [ByteArray.size_append, bigS_size, z1_size]; omega
    exact this
  have s4 : (bigS src 4 ++ bigS dst 4 ++ (⟨#[0]⟩ : ByteArray) ++ bigS 6 1).size + (bigS n 2).size ≤ 9223372036854775807 := by
    have : (bigS src 4 ++ bigS dst 4 ++ z1 ++ bigS 6 1).size + (bigS n 2).size ≤ 9223372036854775807 := by simp only [ByteArray.size_append, bigS_size, z1_size]; omega
    exact this
  simp only [tcp_head_pseudo.f]
  rw [w1, w2, e1, Option.bind_some, e2, Option.bind_some, if_pos s1, if_pos s2, e3, Option.bind_some, if_pos s3, e4, Option.bind_some, if_pos s4]
  rfl
def frontT (s0 s1 s2 s3 s4 s5 : Int) (os : Nat) : ByteArray := bigS s0 2 ++ bigS s1 2 ++ bigS s2 4 ++ bigS s3 4 ++ bigS (((20 + os) / 4 * 16 : Nat) : Int) 1 ++ bigS s4 1 ++ bigS s5 2
def backT (o body : ByteArray) : ByteArray := z2 ++ o ++ body
theorem frontT_size (s0 s1 s2 s3 s4 s5 : Int) (os : Nat) : (frontT s0 s1 s2 s3 s4 s5 os).size = 16 := by
  simp only [frontT, ByteArray.size_append, bigS_size]
theorem backT_size (o body : ByteArray) : (backT o body).size = 2 + o.size + body.size := by
  simp only [backT, ByteArray.size_append, z2_size]
/-- The sum of a segment that has two bytes 0 in its place. -/
def sumT (src dst s0 s1 s2 s3 s4 s5 : Int) (o body : ByteArray) : Int :=
  sumOf ((pseudoT src dst 6 ((20 + o.size + body.size : Nat) : Int)).data.toList ++ ((frontT s0 s1 s2 s3 s4 s5 o.size).data.toList ++ (z2.data.toList ++ (backT o body).data.toList)))
/-- A segment. -/
def segT (src dst s0 s1 s2 s3 s4 s5 : Int) (o body : ByteArray) : ByteArray := frontT s0 s1 s2 s3 s4 s5 o.size ++ bigS (sumT src dst s0 s1 s2 s3 s4 s5 o body) 2 ++ backT o body
theorem segT_size (src dst s0 s1 s2 s3 s4 s5 : Int) (o body : ByteArray) : (segT src dst s0 s1 s2 s3 s4 s5 o body).size = 20 + o.size + body.size := by
  simp only [segT, ByteArray.size_append, frontT_size, bigS_size, backT_size]
  omega
def putT (src dst s0 s1 s2 s3 s4 s5 : Int) (o body : ByteArray) : ByteArray × Int :=
  if chkT s0 s1 s4 s5 o = true then (if 20 + o.size + body.size > 2000 then ((⟨#[]⟩ : ByteArray), 5) else (segT src dst s0 s1 s2 s3 s4 s5 o body, 0)) else ((⟨#[]⟩ : ByteArray), 1)
theorem chkT_opts {s0 s1 s4 s5 : Int} {o : ByteArray} (h : chkT s0 s1 s4 s5 o = true) : o.size ≤ 40 ∧ o.size % 4 = 0 := by
  unfold chkT at h
  simp only [decide_eq_true_eq] at h
  omega
theorem room {n : Nat} (h : n ≤ 1000000) : n ≤ 9223372036854775807 := Nat.le_trans h (by decide)
theorem put_run (k : Nat) (src dst s0 s1 s2 s3 s4 s5 : Int) (o body t1 t2 t3 t4 t5 t6 t7 tp tv : ByteArray) (v m sz w2 w3 wo : Int) (hc : chkT s0 s1 s4 s5 o = true)
    (hsz : tcp_head_size.f s0 s1 s2 s3 s4 s5 o src dst = some sz) (hm : wrap64 (sz + (body.size : Int)) = m) (hbig : ¬ m > 2000) (hw2 : wrap64 s2 = w2) (hw3 : wrap64 s3 = w3) (hwo : wrap64 (wrap64 (Int.tdiv sz 4) * 16) = wo)
    (e1 : sum_Big.f k s0 2 = some t1) (e2 : sum_Big.f k s1 2 = some t2) (e3 : sum_Big.f k w2 4 = some t3) (e4 : sum_Big.f k w3 4 = some t4) (e5 : sum_Big.f k wo 1 = some t5) (e6 : sum_Big.f k s4 1 = some t6) (e7 : sum_Big.f k s5 2 = some t7)
    (e8 : tcp_head_pseudo.f k s0 s1 s2 s3 s4 s5 o src dst m = some tp) (e9 : sum_Of.f k [tp, t1 ++ t2 ++ t3 ++ t4 ++ t5 ++ t6 ++ t7, (⟨#[0, 0]⟩ : ByteArray), (⟨#[0, 0]⟩ : ByteArray) ++ o ++ body] = some v) (e10 : sum_Big.f k v 2 = some tv)
    (z : t1.size ≤ 8 ∧ t2.size ≤ 8 ∧ t3.size ≤ 8 ∧ t4.size ≤ 8 ∧ t5.size ≤ 8 ∧ t6.size ≤ 8 ∧ t7.size ≤ 8 ∧ tv.size ≤ 8 ∧ o.size ≤ 40 ∧ body.size ≤ 2000) :
    tcp_Put.f k src dst s0 s1 s2 s3 s4 s5 o body = some (t1 ++ t2 ++ t3 ++ t4 ++ t5 ++ t6 ++ t7 ++ tv ++ ((⟨#[0, 0]⟩ : ByteArray) ++ o ++ body), 0) := by
  obtain ⟨y1, y2, y3, y4, y5, y6, y7, y8, y9, y10⟩ := z
  have zz : (⟨#[0, 0]⟩ : ByteArray).size = 2 := rfl
  have b1 : t1.size + t2.size ≤ 9223372036854775807 := room (by omega)
  have b2 : (t1 ++ t2).size + t3.size ≤ 9223372036854775807 := room (by simp only [ByteArray.size_append]; omega)
  have b3 : (t1 ++ t2 ++ t3).size + t4.size ≤ 9223372036854775807 := room (by simp only [ByteArray.size_append]; omega)
  have b4 : (t1 ++ t2 ++ t3 ++ t4).size + t5.size ≤ 9223372036854775807 := room (by simp only [ByteArray.size_append]; omega)
  have b5 : (t1 ++ t2 ++ t3 ++ t4 ++ t5).size + t6.size ≤ 9223372036854775807 := room (by simp only [ByteArray.size_append]; omega)
  have b6 : (t1 ++ t2 ++ t3 ++ t4 ++ t5 ++ t6).size + t7.size ≤ 9223372036854775807 := room (by simp only [ByteArray.size_append]; omega)
  have b7 : 2 + o.size ≤ 9223372036854775807 := room (by omega)
  have b8 : ((⟨#[0, 0]⟩ : ByteArray) ++ o).size + body.size ≤ 9223372036854775807 := room (by rw [ByteArray.size_append, zz]; omega)
  have b9 : (t1 ++ t2 ++ t3 ++ t4 ++ t5 ++ t6 ++ t7).size + tv.size ≤ 9223372036854775807 := room (by simp only [ByteArray.size_append]; omega)
  have b10 : (t1 ++ t2 ++ t3 ++ t4 ++ t5 ++ t6 ++ t7 ++ tv).size + ((⟨#[0, 0]⟩ : ByteArray) ++ o ++ body).size ≤ 9223372036854775807 := room (by simp only [ByteArray.size_append, zz]; omega)
  simp only [tcp_Put.f]
  rw [hsz, Option.bind_some, tcp_check_some, Option.bind_some, if_pos hc, hm, if_neg hbig, e1, Option.bind_some, e2, Option.bind_some, if_pos b1, hw2, e3, Option.bind_some, if_pos b2, hw3, e4, Option.bind_some, if_pos b3,
    Option.bind_some, hwo, e5, Option.bind_some, if_pos b4, e6, Option.bind_some, if_pos b5, e7, Option.bind_some, if_pos b6, if_pos b7, if_pos b8, e8, Option.bind_some, e9, Option.bind_some, e10, Option.bind_some, if_pos b9, if_pos b10]
theorem size_some (s0 s1 s2 s3 s4 s5 : Int) (o : ByteArray) (src dst : Int) (ho : o.size ≤ 140737488351232) : tcp_head_size.f s0 s1 s2 s3 s4 s5 o src dst = some ((20 + o.size : Nat) : Int) := by
  simp only [tcp_head_size.f]
  congr 1
  unfold wrap64
  omega
theorem off_word (n : Nat) (h : n ≤ 40) : wrap64 (wrap64 (Int.tdiv ((20 + n : Nat) : Int) 4) * 16) = (((20 + n) / 4 * 16 : Nat) : Int) := by
  rw [Int.tdiv_eq_ediv_of_nonneg (by omega)]
  unfold wrap64
  omega
theorem len_word (o body : ByteArray) (ho : o.size ≤ 140737488351232) (hb : body.size ≤ 140737488351232) : wrap64 (((20 + o.size : Nat) : Int) + (body.size : Int)) = ((20 + o.size + body.size : Nat) : Int) := by unfold wrap64; omega
theorem wrap_u32 {s : Int} (h : 0 ≤ s ∧ s ≤ 4294967295) : wrap64 s = s := by unfold wrap64; omega
theorem cat_sum (a b c d : ByteArray) : cat [a, b, c, d] = a.data.toList ++ (b.data.toList ++ (c.data.toList ++ d.data.toList)) := by simp only [cat, List.append_nil]
theorem put_ev (src dst s0 s1 s2 s3 s4 s5 : Int) (o body : ByteArray) (hs : 0 ≤ src ∧ src ≤ 4294967295) (hd : 0 ≤ dst ∧ dst ≤ 4294967295) (h2 : 0 ≤ s2 ∧ s2 ≤ 4294967295) (h3 : 0 ≤ s3 ∧ s3 ≤ 4294967295) (ho : o.size ≤ 140737488351232) (hb : body.size ≤ 140737488351232) :
    Ev (fun k => tcp_Put.f k src dst s0 s1 s2 s3 s4 s5 o body) (putT src dst s0 s1 s2 s3 s4 s5 o body) := by
  have hsz := size_some s0 s1 s2 s3 s4 s5 o src dst ho
  have hw := len_word o body ho hb
  by_cases hc : chkT s0 s1 s4 s5 o = true
  · by_cases hbig : 20 + o.size + body.size > 2000
    · refine ⟨0, fun k _ => ?_⟩
      simp only [tcp_Put.f, putT]
      rw [hsz, Option.bind_some, tcp_check_some, Option.bind_some, if_pos hc, hw, if_pos (show ((20 + o.size + body.size : Nat) : Int) > 2000 by omega), if_pos hc, if_pos hbig]
    · have hop := chkT_opts hc
      obtain ⟨K1, q1⟩ := big_ev_nat s0 2 (by omega)
      obtain ⟨K2, q2⟩ := big_ev_nat s1 2 (by omega)
      obtain ⟨K3, q3⟩ := big_ev_nat s2 4 (by omega)
      obtain ⟨K4, q4⟩ := big_ev_nat s3 4 (by omega)
      obtain ⟨K5, q5⟩ := big_ev_nat (((20 + o.size) / 4 * 16 : Nat) : Int) 1 (by omega)
      obtain ⟨K6, q6⟩ := big_ev_nat s4 1 (by omega)
      obtain ⟨K7, q7⟩ := big_ev_nat s5 2 (by omega)
      obtain ⟨K8, q8⟩ := head_pseudo_ev s0 s1 s2 s3 s4 s5 o src dst ((20 + o.size + body.size : Nat) : Int) hs hd
      obtain ⟨K9, q9⟩ := of_ev [pseudoT src dst 6 ((20 + o.size + body.size : Nat) : Int), frontT s0 s1 s2 s3 s4 s5 o.size, z2, backT o body] (by simp) (by simp only [catSize, pseudoT_size, frontT_size, z2_size, backT_size]; omega)
      rw [cat_sum] at q9
      obtain ⟨K10, q10⟩ := big_ev_nat (sumT src dst s0 s1 s2 s3 s4 s5 o body) 2 (by omega)
      refine ⟨K1 + K2 + K3 + K4 + K5 + K6 + K7 + K8 + K9 + K10, fun k hk => ?_⟩
      have e := put_run k src dst s0 s1 s2 s3 s4 s5 o body _ _ _ _ _ _ _ _ _ _ _ _ _ _ _ hc hsz hw (show ¬ ((20 + o.size + body.size : Nat) : Int) > 2000 by omega) (wrap_u32 h2) (wrap_u32 h3) (off_word o.size hop.1)
        (q1 k (by omega)) (q2 k (by omega)) (q3 k (by omega)) (q4 k (by omega)) (q5 k (by omega)) (q6 k (by omega)) (q7 k (by omega)) (q8 k (by omega)) (q9 k (by omega)) (q10 k (by omega)) (by simp only [bigS_size]; omega)
      simp only [putT]
      rw [if_pos hc, if_neg hbig]
      exact e
  · refine ⟨0, fun k _ => ?_⟩
    simp only [tcp_Put.f, putT]
    rw [hsz, Option.bind_some, tcp_check_some, Option.bind_some, if_neg hc, if_neg hc]
end Go.Proofs.Ytgolimfljndnmaa.QW
