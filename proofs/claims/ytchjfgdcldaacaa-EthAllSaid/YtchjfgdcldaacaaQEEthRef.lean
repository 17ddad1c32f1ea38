/- What is proved: the document's own sum, bytes and number are what the program's are: plain laws of the plain functions. Conditions: those that stand in each theorem. -/
import Derived.Test.YtchjfgdcldaacaaQESumLib
import Derived.Test.YtchjfgdcldaacaaHEx9
import Derived.Test.YtchjfgdcldaacaaHEx3
namespace Go.Proofs.Ytchjfgdcldaacaa.QE
open Go.RowKit Go.Proofs.Ytchjfgdcldaacaa.HE Go.Proofs.YtchjfgdcldaacaaW.PrintWords Go.Proofs.YtchjfgdcldaacaaW.PrintLast Go.Proofs.YtchjfgdcldaacaaW.PrintMore
set_option linter.unusedVariables false
set_option linter.unusedSimpArgs false
theorem bigS_app (v : Int) (i : Nat) : strOfNums [(v / 256 ^ i) % 256] ++ bigS v i = bigS v (i + 1) := by
  apply ba_ext
  rw [app_list, bigS_cons]
  simp [strOfNums_data]
theorem rbig_loop (v n : Int) : ∀ (d i : Nat), i + d = clamp8 n → Ev (fun k => rampartref01_Big.l0 k (v / 256 ^ i) n (bigS v i) (i : Int)) (bigS v (clamp8 n)) := by
  have hc : (∀ i : Nat, i < clamp8 n → (i : Int) < n ∧ (i : Int) < 8) ∧ (¬ ((clamp8 n : Nat) : Int) < n ∨ ¬ ((clamp8 n : Nat) : Int) < 8) := by
    unfold clamp8 mx mn
    constructor
    · intro i; (repeat' split) <;> omega
    · (repeat' split) <;> omega
  intro d
  induction d with
  | zero =>
    intro i hi
    obtain rfl : i = clamp8 n := by omega
    refine Ev.step (f := fun _ => some (bigS v (clamp8 n))) (fun k => ?_) (Ev.now _)
    simp only [rampartref01_Big.l0]
    by_cases h : ((clamp8 n : Nat) : Int) < n
    · rw [if_pos h, if_neg (hc.2.resolve_left (fun h' => h' h))]
    · rw [if_neg h]
  | succ d ih =>
    intro i hi
    have h1 := hc.1 i (by omega)
    have h8 := clamp8_le n
    have e : v / 256 ^ i / 256 = v / 256 ^ (i + 1) := by
      rw [Int.pow_succ, Int.ediv_ediv_of_nonneg (Int.le_of_lt (Int.pow_pos (by decide)))]
    have hsz : (strOfNums [(v / 256 ^ i) % 256]).size + (bigS v i).size ≤ 9223372036854775807 := by
      simp only [strOfNums_size, bigS_size, List.length_cons, List.length_nil]
      omega
    refine Ev.step (f := fun k => rampartref01_Big.l0 k (v / 256 ^ (i + 1)) n (bigS v (i + 1)) ((i + 1 : Nat) : Int)) (fun k => ?_) (ih (i + 1) (by omega))
    simp only [rampartref01_Big.l0]
    rw [if_pos h1.1, if_pos h1.2, Option.bind_some, if_pos hsz, bigS_app, e, show wrap64 ((i : Int) + 1) = ((i + 1 : Nat) : Int) by unfold wrap64; omega]
theorem rbig_ev (v n : Int) : Ev (fun k => rampartref01_Big.f k v n) (bigS v (clamp8 n)) := by
  have := rbig_loop v n (clamp8 n) 0 (by omega)
  rw [Int.pow_zero, Int.ediv_one] at this
  exact this
theorem rbig_ev_nat (v : Int) (n : Nat) (h : n ≤ 8) : Ev (fun k => rampartref01_Big.f k v (n : Int)) (bigS v n) := by
  have := rbig_ev v n
  rw [clamp8_nat h] at this
  exact this
theorem rnum_loop (s : ByteArray) (hs : s.size ≤ 7) : ∀ (d j : Nat), j + d = s.size → Ev (fun k => rampartref01_Num.l0 k s (numL (s.data.toList.take j)) (j : Int)) (numL s.data.toList) := by
  intro d
  induction d with
  | zero =>
    intro j hj
    refine Ev.step (f := fun _ => some (numL s.data.toList)) (fun k => ?_) (Ev.now _)
    simp only [rampartref01_Num.l0]
    rw [if_neg (show ¬ (j : Int) < (s.size : Int) by omega), List.take_of_length_le (by simp; omega)]
  | succ d ih =>
    intro j hj
    have hlt : j < s.size := by omega
    refine Ev.step (f := fun k => rampartref01_Num.l0 k s (numL (s.data.toList.take (j + 1))) ((j + 1 : Nat) : Int)) (fun k => ?_) (ih (j + 1) (by omega))
    have hr := num_round s.data.toList j (s.data.toList[j]'(by simpa using hlt)) (List.getElem?_eq_getElem _) (by simpa using hs)
    simp only [rampartref01_Num.l0]
    rw [if_pos (show (j : Int) < (s.size : Int) by omega), if_pos (Int.natCast_nonneg _), bt_get s j hlt, hr, show wrap64 ((j : Int) + 1) = ((j + 1 : Nat) : Int) by unfold wrap64; omega]
theorem rnum_j0 (s : ByteArray) (hs : s.size ≤ 7) : Ev (fun k => rampartref01_Num.j0 k s) (numL s.data.toList) := by
  refine Ev.step (f := fun k => rampartref01_Num.l0 k s 0 0) (fun k => ?_) ?_
  · simp only [rampartref01_Num.j0]
  · exact rnum_loop s hs s.size 0 (by omega)
theorem rnum_ev (s : ByteArray) (h : s.size < 4611686018427387904) : Ev (fun k => rampartref01_Num.f k s) (numOf s) := by
  by_cases h7 : s.size ≤ 7
  · refine Ev.congr (f := fun k => rampartref01_Num.j0 k s) (fun k => ?_) ?_
    · simp only [rampartref01_Num.f]
      rw [if_neg (show ¬ (s.size : Int) > 7 by omega)]
    · rw [numOf_short s h7]
      exact rnum_j0 s h7
  · have e : wrap64 ((s.size : Int) - 7) = ((s.size - 7 : Nat) : Int) := by unfold wrap64; omega
    refine Ev.congr (f := fun k => rampartref01_Num.j0 k (s.extract (s.size - 7) s.size)) (fun k => ?_) ?_
    · simp only [rampartref01_Num.f]
      rw [if_pos (show (s.size : Int) > 7 by omega), e, if_pos (Int.natCast_nonneg _), if_pos (show ((s.size - 7 : Nat) : Int) ≤ (s.size : Int) by omega), Int.toNat_natCast]
    · have := rnum_j0 (s.extract (s.size - 7) s.size) (by simp; omega)
      rw [ext_list, List.take_of_length_le (by simp)] at this
      exact this
end Go.Proofs.Ytchjfgdcldaacaa.QE
