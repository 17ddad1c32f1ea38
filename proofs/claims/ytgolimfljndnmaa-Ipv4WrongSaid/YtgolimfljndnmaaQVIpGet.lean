/- What is proved: what the program's Get of datagrams comes to, in closed form. Conditions: those that stand in each theorem. -/
import Derived.Test.YtgolimfljndnmaaQVIp
import Derived.Test.YtgolimfljndnmaaHVx6
import Derived.Test.YtgolimfljndnmaaHVx4
namespace Go.Proofs.Ytgolimfljndnmaa.QV
open Go.RowKit Go.Proofs.Ytgolimfljndnmaa.HV Go.Proofs.YtgolimfljndnmaaW.PrintWords Go.Proofs.YtgolimfljndnmaaW.PrintLast Go.Proofs.YtgolimfljndnmaaW.PrintMore
set_option linter.unusedVariables false
set_option linter.unusedSimpArgs false
abbrev GotI := Int × Int × Bool × Bool × Int × Int × Int × Int × Int × ByteArray × ByteArray × Int
def errI (c : Int) : GotI := (0, 0, false, false, 0, 0, 0, 0, 0, (⟨#[]⟩ : ByteArray), (⟨#[]⟩ : ByteArray), c)
/-- How many bytes a head says it has. -/
def lenI (s : ByteArray) : Nat := (4 * (bt s 0 % 16)).toNat
theorem lenI_int (s : ByteArray) : ((lenI s : Nat) : Int) = 4 * (bt s 0 % 16) := by
  have := bt_range s 0
  unfold lenI
  omega
theorem lenI_le (s : ByteArray) : lenI s ≤ 60 := by
  have := lenI_int s
  omega
def allI (s : ByteArray) : Int := numOf (s.extract 2 4)
def cutOf (s : ByteArray) : Int := numOf (s.extract 6 8)
theorem num_ext (s : ByteArray) (a b : Nat) (h : b - a ≤ 8) : sum_Num.f (s.extract a b) = some (numOf (s.extract a b)) := num_some _ (by simp; omega)
theorem numOf_range (s : ByteArray) (n : Nat) (h : s.size ≤ n) (h7 : n ≤ 7) : 0 ≤ numOf s ∧ numOf s < 256 ^ n := by
  rw [numOf_short s (by omega)]
  have := numL_bound s.data.toList
  have hl : s.data.toList.length = s.size := by simp
  rw [hl] at this
  have hp : (256 : Int) ^ s.size ≤ 256 ^ n := by
    have : (256 : Nat) ^ s.size ≤ 256 ^ n := Nat.pow_le_pow_right (by decide) h
    exact Int.ofNat_le.mpr this
  omega
theorem allI_range (s : ByteArray) : 0 ≤ allI s ∧ allI s ≤ 65535 := by
  have := numOf_range (s.extract 2 4) 2 (by simp; omega) (by omega)
  rw [show (256 : Int) ^ 2 = 65536 from rfl] at this
  unfold allI
  omega
theorem sizef_some (s : ByteArray) (h : 0 < s.size) : ipv4_size.f s = some ((lenI s : Nat) : Int) := by
  have hb := bt_range s 0
  have hw : wrap64 (bt s 0) = bt s 0 := by unfold wrap64; omega
  have hm : Go.bits .and .i64 (bt s 0) 15 = bt s 0 % 16 := bits_mask .i64 63 (by decide) wraps64 4 (by decide) (bt s 0) hb.1 (by omega)
  simp only [ipv4_size.f]
  rw [if_pos (show 0 < (s.size : Int) by omega), hw, hm, lenI_int]
  congr 1
  unfold wrap64
  omega
theorem allf_some (s : ByteArray) (h : 4 ≤ s.size) : ipv4_all.f s = some (allI s) := by
  simp only [ipv4_all.f]
  rw [if_pos (show (2 : Nat) ≤ 4 by decide), if_pos (show (4 : Int) ≤ (s.size : Int) by omega), num_ext s 2 4 (by omega), Option.bind_some]
  rfl
def wrongI (s : ByteArray) : Int :=
  if s.size < 20 then 2 else if bt s 0 / 16 ≠ 4 ∨ lenI s < 20 then 3 else if s.size < lenI s then 2 else if allI s < (lenI s : Int) then 3 else if (s.size : Int) < allI s then 2 else if bt s 6 / 128 = 1 then 3
  else if allI s - (lenI s : Int) > 2000 then 5 else if sumOf (s.extract 0 (lenI s)).data.toList ≠ 0 then 4 else 0
def okI (s : ByteArray) : GotI := (bt s 1, numOf (s.extract 4 6), (Go.bits .and .i64 (cutOf s) 8192) != 0, (Go.bits .and .i64 (cutOf s) 16384) != 0, wrap64 ((Go.bits .and .i64 (cutOf s) 8191) * 8), bt s 8, bt s 9, numOf (s.extract 12 16) % 4294967296, numOf (s.extract 16 20) % 4294967296,
  s.extract 20 (lenI s), s.extract (lenI s) (allI s).toNat, 0)
def getI (s : ByteArray) : GotI := if wrongI s = 0 then okI s else errI (wrongI s)
theorem wrongI_zero {s : ByteArray} (h : wrongI s = 0) : 20 ≤ s.size ∧ bt s 0 / 16 = 4 ∧ 20 ≤ lenI s ∧ lenI s ≤ s.size ∧ (lenI s : Int) ≤ allI s ∧ allI s ≤ (s.size : Int) ∧ bt s 6 / 128 ≠ 1 ∧ allI s - (lenI s : Int) ≤ 2000 ∧ sumOf (s.extract 0 (lenI s)).data.toList = 0 := by
  unfold wrongI at h
  by_cases h1 : s.size < 20
  · rw [if_pos h1] at h; omega
  rw [if_neg h1] at h
  by_cases h2 : bt s 0 / 16 ≠ 4 ∨ lenI s < 20
  · rw [if_pos h2] at h; omega
  rw [if_neg h2] at h
  by_cases h3 : s.size < lenI s
  · rw [if_pos h3] at h; omega
  rw [if_neg h3] at h
  by_cases h4 : allI s < (lenI s : Int)
  · rw [if_pos h4] at h; omega
  rw [if_neg h4] at h
  by_cases h5 : (s.size : Int) < allI s
  · rw [if_pos h5] at h; omega
  rw [if_neg h5] at h
  by_cases h6 : bt s 6 / 128 = 1
  · rw [if_pos h6] at h; omega
  rw [if_neg h6] at h
  by_cases h7 : allI s - (lenI s : Int) > 2000
  · rw [if_pos h7] at h; omega
  rw [if_neg h7] at h
  by_cases h8 : sumOf (s.extract 0 (lenI s)).data.toList ≠ 0
  · rw [if_pos h8] at h; omega
  refine ⟨by omega, ?_, ?_, by omega, by omega, by omega, h6, by omega, ?_⟩
  · exact Classical.byContradiction fun hh => h2 (.inl hh)
  · exact Classical.byContradiction fun hh => h2 (.inr (by omega))
  · exact Classical.byContradiction fun hh => h8 hh
section
variable (k : Nat) (s : ByteArray)
theorem r8 {b : Bool} (h : ipv4_checks_1.f s = some b) : GetR k s 8 = if b = true then some 2 else GetR k s 7 := by
  show (ipv4_checks_1.f s).bind _ = _
  rw [h, Option.bind_some]
theorem r7 {b : Bool} (h : ipv4_checks_2.f s = some b) : GetR k s 7 = if b = true then some 3 else GetR k s 6 := by
  show (ipv4_checks_2.f s).bind _ = _
  rw [h, Option.bind_some]
theorem r6 {b : Bool} (h : ipv4_checks_3.f s = some b) : GetR k s 6 = if b = true then some 2 else GetR k s 5 := by
  show (ipv4_checks_3.f s).bind _ = _
  rw [h, Option.bind_some]
theorem r5 {b : Bool} (h : ipv4_checks_4.f s = some b) : GetR k s 5 = if b = true then some 3 else GetR k s 4 := by
  show (ipv4_checks_4.f s).bind _ = _
  rw [h, Option.bind_some]
theorem r4 {b : Bool} (h : ipv4_checks_5.f s = some b) : GetR k s 4 = if b = true then some 2 else GetR k s 3 := by
  show (ipv4_checks_5.f s).bind _ = _
  rw [h, Option.bind_some]
theorem r3 {b : Bool} (h : ipv4_checks_6.f s = some b) : GetR k s 3 = if b = true then some 3 else GetR k s 2 := by
  show (ipv4_checks_6.f s).bind _ = _
  rw [h, Option.bind_some]
theorem r2 {b : Bool} (h : ipv4_checks_7.f s = some b) : GetR k s 2 = if b = true then some 5 else GetR k s 1 := by
  show (ipv4_checks_7.f s).bind _ = _
  rw [h, Option.bind_some]
theorem r1 {b : Bool} (h : ipv4_checks_8.f k s = some b) : GetR k s 1 = if b = true then some 4 else some 0 := by
  show (ipv4_checks_8.f k s).bind _ = _
  rw [h, Option.bind_some]
  rfl
end
theorem t_pos {α : Type} {c : Prop} [Decidable c] {b : Bool} {x y : α} (h : b = decide c) (hc : c) : (if b = true then x else y) = x := if_pos (by rw [h]; exact decide_eq_true hc)
theorem t_neg {α : Type} {c : Prop} [Decidable c] {b : Bool} {x y : α} (h : b = decide c) (hc : ¬ c) : (if b = true then x else y) = y := if_neg (by rw [h, decide_eq_false hc]; exact Bool.false_ne_true)
theorem c2_some (s : ByteArray) (h : 0 < s.size) : ipv4_checks_2.f s = some (decide (bt s 0 / 16 ≠ 4 ∨ lenI s < 20)) := by
  simp only [ipv4_checks_2.f]
  rw [if_pos (show 0 < (s.size : Int) by omega)]
  by_cases h4 : bt s 0 / 16 = 4
  · rw [if_pos h4, sizef_some s h, Option.bind_some]
    congr 1; rw [Bool.eq_iff_iff]; simp only [decide_eq_true_eq]; omega
  · rw [if_neg h4, decide_eq_true (show bt s 0 / 16 ≠ 4 ∨ lenI s < 20 from .inl h4)]
theorem c3_some (s : ByteArray) (h : 0 < s.size) : ipv4_checks_3.f s = some (decide (s.size < lenI s)) := by
  simp only [ipv4_checks_3.f]
  rw [sizef_some s h, Option.bind_some]
  congr 1; rw [Bool.eq_iff_iff]; simp only [decide_eq_true_eq]; omega
theorem c4_some (s : ByteArray) (h : 4 ≤ s.size) : ipv4_checks_4.f s = some (decide (allI s < (lenI s : Int))) := by
  simp only [ipv4_checks_4.f]
  rw [allf_some s h, Option.bind_some, sizef_some s (by omega), Option.bind_some]
theorem c5_some (s : ByteArray) (h : 4 ≤ s.size) : ipv4_checks_5.f s = some (decide ((s.size : Int) < allI s)) := by
  simp only [ipv4_checks_5.f]
  rw [allf_some s h, Option.bind_some]
theorem c6_some (s : ByteArray) (h : 7 ≤ s.size) : ipv4_checks_6.f s = some (decide (bt s 6 / 128 = 1)) := by
  simp only [ipv4_checks_6.f]
  rw [if_pos (show 6 < (s.size : Int) by omega)]
  rfl
theorem c7_some (s : ByteArray) (h : 4 ≤ s.size) : ipv4_checks_7.f s = some (decide (allI s - (lenI s : Int) > 2000)) := by
  have ha := allI_range s
  have hl := lenI_le s
  simp only [ipv4_checks_7.f]
  rw [allf_some s h, Option.bind_some, sizef_some s (by omega), Option.bind_some, show wrap64 (allI s - (lenI s : Int)) = allI s - (lenI s : Int) by unfold wrap64; omega]
theorem c8_ev (s : ByteArray) (h : 0 < s.size) (h2 : lenI s ≤ s.size) : Ev (fun k => ipv4_checks_8.f k s) (decide (sumOf (s.extract 0 (lenI s)).data.toList ≠ 0)) := by
  have hl := lenI_le s
  obtain ⟨K, q⟩ := of_ev [s.extract 0 (lenI s)] (by simp) (by simp only [catSize, ByteArray.size_extract]; omega)
  have hc : cat [s.extract 0 (lenI s)] = (s.extract 0 (lenI s)).data.toList := by simp only [cat, List.append_nil]
  rw [hc] at q
  refine ⟨K, fun k hk => ?_⟩
  have e : sum_Of.f k [s.extract 0 (lenI s)] = some (sumOf (s.extract 0 (lenI s)).data.toList) := q k hk
  simp only [ipv4_checks_8.f]
  rw [sizef_some s h, Option.bind_some, if_pos (Int.natCast_nonneg _), if_pos (show ((lenI s : Nat) : Int) ≤ (s.size : Int) by omega), Int.toNat_natCast, e, Option.bind_some]
  congr 1; rw [Bool.eq_iff_iff]; simp
theorem getr_ev (s : ByteArray) : Ev (fun k => GetR k s 8) (wrongI s) := by
  have e1 : ipv4_checks_1.f s = some (decide (s.size < 20)) := by
    simp only [ipv4_checks_1.f]
    congr 1; rw [Bool.eq_iff_iff]; simp only [decide_eq_true_eq]; omega
  unfold wrongI
  by_cases h1 : s.size < 20
  · refine ⟨0, fun k _ => ?_⟩
    show GetR k s 8 = _
    rw [if_pos h1, r8 k s e1, t_pos rfl h1]
  have e2 := c2_some s (by omega)
  by_cases h2 : bt s 0 / 16 ≠ 4 ∨ lenI s < 20
  · refine ⟨0, fun k _ => ?_⟩
    show GetR k s 8 = _
    rw [if_neg h1, if_pos h2, r8 k s e1, t_neg rfl h1, r7 k s e2, t_pos rfl h2]
  have e3 := c3_some s (by omega)
  by_cases h3 : s.size < lenI s
  · refine ⟨0, fun k _ => ?_⟩
    show GetR k s 8 = _
    rw [if_neg h1, if_neg h2, if_pos h3, r8 k s e1, t_neg rfl h1, r7 k s e2, t_neg rfl h2, r6 k s e3, t_pos rfl h3]
  have e4 := c4_some s (by omega)
  by_cases h4 : allI s < (lenI s : Int)
  · refine ⟨0, fun k _ => ?_⟩
    show GetR k s 8 = _
    rw [if_neg h1, if_neg h2, if_neg h3, if_pos h4, r8 k s e1, t_neg rfl h1, r7 k s e2, t_neg rfl h2, r6 k s e3, t_neg rfl h3, r5 k s e4, t_pos rfl h4]
  have e5 := c5_some s (by omega)
  by_cases h5 : (s.size : Int) < allI s
  · refine ⟨0, fun k _ => ?_⟩
    show GetR k s 8 = _
    rw [if_neg h1, if_neg h2, if_neg h3, if_neg h4, if_pos h5, r8 k s e1, t_neg rfl h1, r7 k s e2, t_neg rfl h2, r6 k s e3, t_neg rfl h3, r5 k s e4, t_neg rfl h4, r4 k s e5, t_pos rfl h5]
  have e6 := c6_some s (by omega)
  by_cases h6 : bt s 6 / 128 = 1
  · refine ⟨0, fun k _ => ?_⟩
    show GetR k s 8 = _
    rw [if_neg h1, if_neg h2, if_neg h3, if_neg h4, if_neg h5, if_pos h6, r8 k s e1, t_neg rfl h1, r7 k s e2, t_neg rfl h2, r6 k s e3, t_neg rfl h3, r5 k s e4, t_neg rfl h4, r4 k s e5, t_neg rfl h5, r3 k s e6, t_pos rfl h6]
  have e7 := c7_some s (by omega)
  by_cases h7 : allI s - (lenI s : Int) > 2000
  · refine ⟨0, fun k _ => ?_⟩
    show GetR k s 8 = _
    rw [if_neg h1, if_neg h2, if_neg h3, if_neg h4, if_neg h5, if_neg h6, if_pos h7, r8 k s e1, t_neg rfl h1, r7 k s e2, t_neg rfl h2, r6 k s e3, t_neg rfl h3, r5 k s e4, t_neg rfl h4, r4 k s e5, t_neg rfl h5, r3 k s e6, t_neg rfl h6, r2 k s e7, t_pos rfl h7]
  obtain ⟨K, q⟩ := c8_ev s (by omega) (by omega)
  refine ⟨K, fun k hk => ?_⟩
  have e8 : ipv4_checks_8.f k s = some (decide (sumOf (s.extract 0 (lenI s)).data.toList ≠ 0)) := q k hk
  show GetR k s 8 = _
  rw [if_neg h1, if_neg h2, if_neg h3, if_neg h4, if_neg h5, if_neg h6, if_neg h7, r8 k s e1, t_neg rfl h1, r7 k s e2, t_neg rfl h2, r6 k s e3, t_neg rfl h3, r5 k s e4, t_neg rfl h4, r4 k s e5, t_neg rfl h5, r3 k s e6, t_neg rfl h6, r2 k s e7, t_neg rfl h7, r1 k s e8]
  by_cases h8 : sumOf (s.extract 0 (lenI s)).data.toList ≠ 0
  · rw [t_pos rfl h8, if_pos h8]
  · rw [t_neg rfl h8, if_neg h8]
theorem word_bt (s : ByteArray) (i : Int) : wrap64 (bt s i) = bt s i := by have := bt_range s i; unfold wrap64; omega
theorem tail_some (s : ByteArray) (h20 : 20 ≤ s.size) (hm : 20 ≤ lenI s) (hm2 : lenI s ≤ s.size) (ha : (lenI s : Int) ≤ allI s) (ha2 : allI s ≤ (s.size : Int)) : ipv4_Tail.f s = some (okI s) := by
  simp only [ipv4_Tail.f]
  rw [if_pos (show (6 : Nat) ≤ 8 by decide), if_pos (show (8 : Int) ≤ (s.size : Int) by omega), num_ext s 6 8 (by omega), Option.bind_some, if_pos (show (1 : Int) < (s.size : Int) by omega), if_pos (show (4 : Nat) ≤ 6 by decide), if_pos (show (6 : Int) ≤ (s.size : Int) by omega), num_ext s 4 6 (by omega), Option.bind_some,
    if_pos (show (8 : Int) < (s.size : Int) by omega), if_pos (show (9 : Int) < (s.size : Int) by omega), if_pos (show (12 : Nat) ≤ 16 by decide), if_pos (show (16 : Int) ≤ (s.size : Int) by omega), num_ext s 12 16 (by omega), Option.bind_some, if_pos (show (16 : Nat) ≤ 20 by decide), if_pos (show (20 : Int) ≤ (s.size : Int) by omega), num_ext s 16 20 (by omega), Option.bind_some,
    sizef_some s (by omega), Option.bind_some, if_pos (show (20 : Int) ≤ ((lenI s : Nat) : Int) by omega), if_pos (show ((lenI s : Nat) : Int) ≤ (s.size : Int) by omega), Option.bind_some, allf_some s (by omega), Option.bind_some, if_pos (Int.natCast_nonneg _), if_pos ha, if_pos ha2, Int.toNat_natCast, word_bt, word_bt, word_bt]
  rfl
theorem iget_ev (s : ByteArray) : Ev (fun k => ipv4_Get.f k s) (getI s) := by
  obtain ⟨K, q⟩ := getr_ev s
  refine ⟨K, fun k hk => ?_⟩
  have e : GetR k s 8 = some (wrongI s) := q k hk
  unfold getI
  simp only [ipv4_Get.f]
  rw [e, Option.bind_some]
  by_cases h : wrongI s = 0
  · obtain ⟨a1, a2, a3, a4, a5, a6, a7, a8, a9⟩ := wrongI_zero h
    rw [if_pos h, if_pos h, tail_some s a1 a3 a4 a5 a6]
  · rw [if_neg h, if_neg h]
    rfl
end Go.Proofs.Ytgolimfljndnmaa.QV
