/- What is proved: the document's own sum, bytes and number are what the program's are: plain laws of the plain functions. Conditions: those that stand in each theorem. -/
import Derived.Test.YtgolimfljndnmaaQDSumLib
import Derived.Test.YtgolimfljndnmaaHDx10
import Derived.Test.YtgolimfljndnmaaHDx9
import Derived.Test.YtgolimfljndnmaaHDx14
namespace Go.Proofs.Ytgolimfljndnmaa.QD
open Go.RowKit Go.Proofs.Ytgolimfljndnmaa.HD Go.Proofs.YtgolimfljndnmaaW.PrintWords Go.Proofs.YtgolimfljndnmaaW.PrintLast Go.Proofs.YtgolimfljndnmaaW.PrintMore
set_option linter.unusedVariables false
set_option linter.unusedSimpArgs false
theorem radd_l0 : ∀ (n : Nat) (v : Int), v.toNat = n → 0 ≤ v → v < 4611686018427387904 → Ev (fun k => rampartref01_Add.l0 k v) (red v) := by
  intro n
  induction n using Nat.strongRecOn with
  | _ n ih =>
    intro v hn h0 h1
    by_cases hv : v > 65535
    · refine Ev.step (f := fun k => rampartref01_Add.l0 k (v % 65536 + v / 65536)) (fun k => ?_) ?_
      · simp only [rampartref01_Add.l0]
        rw [if_pos hv, and_low h0 (by omega), show wrap64 (v % 65536 + v / 65536) = v % 65536 + v / 65536 by unfold wrap64; omega]
      · have := ih (v % 65536 + v / 65536).toNat (by omega) (v % 65536 + v / 65536) rfl (by omega) (by omega)
        rw [red_step h0] at this
        exact this
    · refine Ev.step (f := fun _ => some v) (fun k => ?_) ?_
      · simp only [rampartref01_Add.l0]
        rw [if_neg hv]
      · rw [red_small h0 (by omega)]
        exact Ev.now v
theorem radd_ev (a b : Int) : Ev (fun k => rampartref01_Add.f k a b) (red (a % 65536 + b % 65536)) := by
  refine Ev.congr (f := fun k => rampartref01_Add.l0 k (a % 65536 + b % 65536)) (fun k => ?_) (radd_l0 _ _ rfl (by omega) (by omega))
  simp only [rampartref01_Add.f]
  rw [and_any, and_any, show wrap64 (a % 65536 + b % 65536) = a % 65536 + b % 65536 by unfold wrap64; omega]
theorem drop_two (s : ByteArray) (j : Nat) (h : j + 1 < s.size) (hj : j % 2 = 0) : wsum (s.data.toList.drop j) 0 = bt s (j : Int) * 256 + bt s ((j + 1 : Nat) : Int) + wsum (s.data.toList.drop (j + 2)) 0 := by
  rw [List.drop_eq_getElem_cons (by simpa using (show j < s.size by omega)), List.drop_eq_getElem_cons (by simpa using h)]
  simp only [wsum]
  rw [← bt_get s j (by omega), ← bt_get s (j + 1) h, wsum_even _ (0 + 1 + 1) 0 (by omega), show j + 1 + 1 = j + 2 from rfl]
  have : wt 0 = 256 := rfl
  have h2 : wt (0 + 1) = 1 := rfl
  rw [this, h2]
  omega
theorem drop_last (s : ByteArray) (j : Nat) (h : j < s.size) (h2 : ¬ j + 1 < s.size) : wsum (s.data.toList.drop j) 0 = bt s (j : Int) * 256 := by
  rw [List.drop_eq_getElem_cons (by simpa using h), List.drop_of_length_le (by simp; omega)]
  simp only [wsum]
  rw [← bt_get s j h]
  have : wt 0 = 256 := rfl
  rw [this]
  omega
theorem rof_loop (s : ByteArray) (hs : s.size < 4611686018427387904) : ∀ (d j : Nat) (v : Int), s.size - j = d → j % 2 = 0 → 0 ≤ v → v ≤ 65535 →
    Ev (fun k => rampartref01_Of.l0 k s v (j : Int)) (65535 - red (v + wsum (s.data.toList.drop j) 0)) := by
  intro d
  induction d using Nat.strongRecOn with
  | _ d ih =>
    intro j v hd hj h0 h1
    by_cases hlt : j < s.size
    · have b0 := bt_range s (j : Int)
      have b1 := bt_range s ((j + 1 : Nat) : Int)
      have e1 : wrap64 ((j : Int) + 1) = ((j + 1 : Nat) : Int) := by unfold wrap64; omega
      have e2 : wrap64 ((j : Int) + 2) = ((j + 2 : Nat) : Int) := by unfold wrap64; omega
      have w0 : wrap64 (wrap64 (bt s (j : Int)) * 256) = bt s (j : Int) * 256 := by unfold wrap64; omega
      by_cases h2 : j + 1 < s.size
      · refine Ev.step (f := fun k => (rampartref01_Add.f k v (bt s (j : Int) * 256 + bt s ((j + 1 : Nat) : Int))).bind fun t => rampartref01_Of.l0 k s t ((j + 2 : Nat) : Int)) (fun k => ?_) ?_
        · simp only [rampartref01_Of.l0]
          rw [if_pos (show (j : Int) < (s.size : Int) by omega), if_pos (Int.natCast_nonneg _), e1, if_pos (show ((j + 1 : Nat) : Int) < (s.size : Int) by omega), if_pos (Int.natCast_nonneg _), w0, e2,
            show wrap64 (bt s (j : Int) * 256 + wrap64 (bt s ((j + 1 : Nat) : Int))) = bt s (j : Int) * 256 + bt s ((j + 1 : Nat) : Int) by unfold wrap64; omega]
        · refine Ev.bind (radd_ev _ _) ?_
          rw [Int.emod_eq_of_lt (a := v) h0 (by omega), Int.emod_eq_of_lt (a := bt s (j : Int) * 256 + bt s ((j + 1 : Nat) : Int)) (by omega) (by omega)]
          have hr := red_range (v := v + (bt s (j : Int) * 256 + bt s ((j + 1 : Nat) : Int))) (by omega)
          have := ih (s.size - (j + 2)) (by omega) (j + 2) _ rfl (by omega) hr.1 hr.2
          rw [red_add (by omega) (wsum_nonneg _ _)] at this
          rw [drop_two s j h2 hj, ← Int.add_assoc v (bt s (j : Int) * 256 + bt s ((j + 1 : Nat) : Int))]
          exact this
      · refine Ev.step (f := fun k => (rampartref01_Add.f k v (bt s (j : Int) * 256)).bind fun t => rampartref01_Of.l0 k s t ((j + 2 : Nat) : Int)) (fun k => ?_) ?_
        · simp only [rampartref01_Of.l0]
          rw [if_pos (show (j : Int) < (s.size : Int) by omega), if_pos (Int.natCast_nonneg _), e1, if_neg (show ¬ ((j + 1 : Nat) : Int) < (s.size : Int) by omega), w0, e2]
        · refine Ev.bind (radd_ev _ _) ?_
          rw [Int.emod_eq_of_lt (a := v) h0 (by omega), Int.emod_eq_of_lt (a := bt s (j : Int) * 256) (by omega) (by omega)]
          have hr := red_range (v := v + bt s (j : Int) * 256) (by omega)
          have := ih (s.size - (j + 2)) (by omega) (j + 2) _ rfl (by omega) hr.1 hr.2
          rw [List.drop_of_length_le (by simp; omega)] at this
          simp only [wsum, Int.add_zero, red_small hr.1 hr.2] at this
          rw [drop_last s j hlt h2]
          exact this
    · refine Ev.step (f := fun _ => some (65535 - red (v + wsum (s.data.toList.drop j) 0))) (fun k => ?_) (Ev.now _)
      simp only [rampartref01_Of.l0]
      rw [if_neg (show ¬ (j : Int) < (s.size : Int) by omega), List.drop_of_length_le (by simp; omega)]
      simp only [wsum, Int.add_zero, red_small h0 h1]
      rw [show wrap64 (65535 - v) = 65535 - v by unfold wrap64; omega]
theorem rof_ev (s : ByteArray) (h : s.size < 4611686018427387904) : Ev (fun k => rampartref01_Of.f k s) (sumOf s.data.toList) := by
  have := rof_loop s h _ 0 0 rfl rfl (by omega) (by omega)
  simp only [List.drop_zero, Int.zero_add] at this
  exact this
theorem bigS_app (v : Int) (i : Nat) : strOfNums [(v / 256 ^ i) % 256] ++ bigS v i = bigS v (i + 1) := by
  apply ba_ext
  rw [app_list, bigS_cons]
  simp [strOfNums_data]
theorem rbig_loop (v n : Int) : ∀ (d i : Nat), i + d = clamp8 n → Ev (fun k => rampartref01_Big.l0 k (v / 256 ^ i) n (bigS v i) (i : Int)) (bigS v (clamp8 n)) := by
  have hc : (∀ i : Nat, i < clamp8 n → (i : Int) < n ∧ (i : Int) < 8) ∧ (¬ ((clamp8 n : Nat) : Int) < n ∨ ¬ ((clamp8 n : Nat) : Int) < 8) := by
    unfold clamp8 mx mn
    constructor
    · intro i; (repeat' split) <;> omega
    · (repeat' split) <;> omega
  intro d
  induction d with
  | zero =>
    intro i hi
    obtain rfl : i = clamp8 n := by omega
    refine Ev.step (f := fun _ => some (bigS v (clamp8 n))) (fun k => ?_) (Ev.now _)
    simp only [rampartref01_Big.l0]
    by_cases h : ((clamp8 n : Nat) : Int) < n
    · rw [if_pos h, if_neg (hc.2.resolve_left (fun h' => h' h))]
    · rw [if_neg h]
  | succ d ih =>
    intro i hi
    have h1 := hc.1 i (by omega)
    have h8 := clamp8_le n
    have e : v / 256 ^ i / 256 = v / 256 ^ (i + 1) := by
      rw [Int.pow_succ, Int.ediv_ediv_of_nonneg (Int.le_of_lt (Int.pow_pos (by decide)))]
    have hsz : (strOfNums [(v / 256 ^ i) % 256]).size + (bigS v i).size ≤ 9223372036854775807 := by
      simp only [strOfNums_size, bigS_size, List.length_cons, List.length_nil]
      omega
    refine Ev.step (f := fun k => rampartref01_Big.l0 k (v / 256 ^ (i + 1)) n (bigS v (i + 1)) ((i + 1 : Nat) : Int)) (fun k => ?_) (ih (i + 1) (by omega))
    simp only [rampartref01_Big.l0]
    rw [if_pos h1.1, if_pos h1.2, Option.bind_some, if_pos hsz, bigS_app, e, show wrap64 ((i : Int) + 1) = ((i + 1 : Nat) : Int) by unfold wrap64; omega]
theorem rbig_ev (v n : Int) : Ev (fun k => rampartref01_Big.f k v n) (bigS v (clamp8 n)) := by
  have := rbig_loop v n (clamp8 n) 0 (by omega)
  rw [Int.pow_zero, Int.ediv_one] at this
  exact this
theorem rbig_ev_nat (v : Int) (n : Nat) (h : n ≤ 8) : Ev (fun k => rampartref01_Big.f k v (n : Int)) (bigS v n) := by
  have := rbig_ev v n
  rw [clamp8_nat h] at this
  exact this
theorem rnum_loop (s : ByteArray) (hs : s.size ≤ 7) : ∀ (d j : Nat), j + d = s.size → Ev (fun k => rampartref01_Num.l0 k s (numL (s.data.toList.take j)) (j : Int)) (numL s.data.toList) := by
  intro d
  induction d with
  | zero =>
    intro j hj
    refine Ev.step (f := fun _ => some (numL s.data.toList)) (fun k => ?_) (Ev.now _)
    simp only [rampartref01_Num.l0]
    rw [if_neg (show ¬ (j : Int) < (s.size : Int) by omega), List.take_of_length_le (by simp; omega)]
  | succ d ih =>
    intro j hj
    have hlt : j < s.size := by omega
    refine Ev.step (f := fun k => rampartref01_Num.l0 k s (numL (s.data.toList.take (j + 1))) ((j + 1 : Nat) : Int)) (fun k => ?_) (ih (j + 1) (by omega))
    have hr := num_round s.data.toList j (s.data.toList[j]'(by simpa using hlt)) (List.getElem?_eq_getElem _) (by simpa using hs)
    simp only [rampartref01_Num.l0]
    rw [if_pos (show (j : Int) < (s.size : Int) by omega), if_pos (Int.natCast_nonneg _), bt_get s j hlt, hr, show wrap64 ((j : Int) + 1) = ((j + 1 : Nat) : Int) by unfold wrap64; omega]
theorem rnum_j0 (s : ByteArray) (hs : s.size ≤ 7) : Ev (fun k => rampartref01_Num.j0 k s) (numL s.data.toList) := by
  refine Ev.step (f := fun k => rampartref01_Num.l0 k s 0 0) (fun k => ?_) ?_
  · simp only [rampartref01_Num.j0]
  · exact rnum_loop s hs s.size 0 (by omega)
theorem rnum_ev (s : ByteArray) (h : s.size < 4611686018427387904) : Ev (fun k => rampartref01_Num.f k s) (numOf s) := by
  by_cases h7 : s.size ≤ 7
  · refine Ev.congr (f := fun k => rampartref01_Num.j0 k s) (fun k => ?_) ?_
    · simp only [rampartref01_Num.f]
      rw [if_neg (show ¬ (s.size : Int) > 7 by omega)]
    · rw [numOf_short s h7]
      exact rnum_j0 s h7
  · have e : wrap64 ((s.size : Int) - 7) = ((s.size - 7 : Nat) : Int) := by unfold wrap64; omega
    refine Ev.congr (f := fun k => rampartref01_Num.j0 k (s.extract (s.size - 7) s.size)) (fun k => ?_) ?_
    · simp only [rampartref01_Num.f]
      rw [if_pos (show (s.size : Int) > 7 by omega), e, if_pos (Int.natCast_nonneg _), if_pos (show ((s.size - 7 : Nat) : Int) ≤ (s.size : Int) by omega), Int.toNat_natCast]
    · have := rnum_j0 (s.extract (s.size - 7) s.size) (by simp; omega)
      rw [ext_list, List.take_of_length_le (by simp)] at this
      exact this
end Go.Proofs.Ytgolimfljndnmaa.QD
