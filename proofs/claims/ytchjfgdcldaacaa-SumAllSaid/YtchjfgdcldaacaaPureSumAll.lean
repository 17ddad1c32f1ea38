/- What is proved: the plain statement of SumAll: for any texts and numbers the program's sums, bytes and numbers are the document's. Conditions: numbers of their kinds, nothing else. -/
import Derived.Test.YtchjfgdcldaacaaPureSumLib
import Derived.Test.YtchjfgdcldaacaaPureRefSum
import Derived.Test.YtchjfgdcldaacaaPureSumParts
namespace Go.Proofs.Ytchjfgdcldaacaa.Pure
open Go.RowKit Go.Proofs.Ytchjfgdcldaacaa.HA Go.Proofs.YtchjfgdcldaacaaW.PrintWords Go.Proofs.YtchjfgdcldaacaaW.PrintLast Go.Proofs.YtchjfgdcldaacaaW.PrintMore
set_option linter.unusedVariables false
set_option linter.unusedSimpArgs false
theorem cat_take_succ (l : List ByteArray) (i : Nat) (h : i < l.length) : cat (l.take (i + 1)) = cat (l.take i) ++ l[i].data.toList := by
  rw [List.take_succ_eq_append_getElem h, cat_append, cat_one]
theorem all_end (l : List ByteArray) (a b n : Int) (x : ByteArray) (i : Int) (hl : l.length ≤ 10) (hx : x.data.toList = cat l) (hz : x.size ≤ 5000) :
    Ev (fun k => rampartlaw01_SumAll.j1 k l a b n x i false) true := by
  have hcs : catSize l = x.size := by rw [← cat_length, ← hx]; simp
  obtain ⟨K0, h0⟩ := sumAwake_ev
  obtain ⟨K1, h1⟩ := of_ev l (by omega) (by omega)
  obtain ⟨K2, h2⟩ := rof_ev x (by omega)
  obtain ⟨K3, h3⟩ := sadd_ev a b
  obtain ⟨K4, h4⟩ := radd_ev a b
  obtain ⟨K5, h5⟩ := big_ev a n
  obtain ⟨K6, h6⟩ := rbig_ev a n
  obtain ⟨K7, h7⟩ := rnum_ev x (by omega)
  have n7 := num_some x (by omega)
  refine ⟨K0 + K1 + K2 + K3 + K4 + K5 + K6 + K7 + 1, fun k hk => ?_⟩
  obtain ⟨k, rfl⟩ : ∃ m, k = m + 1 := ⟨k - 1, by omega⟩
  have e0 : rampartlaw01_awake.f k = some true := h0 k (by omega)
  have e1 : sum_Of.f k l = some (sumOf (cat l)) := h1 k (by omega)
  have e2 : rampartref01_Of.f k x = some (sumOf (cat l)) := by rw [← hx]; exact h2 k (by omega)
  have e3 : sum_Add.f k a b = _ := h3 k (by omega)
  have e4 : rampartref01_Add.f k a b = _ := h4 k (by omega)
  have e5 : sum_Big.f k a n = _ := h5 k (by omega)
  have e6 : rampartref01_Big.f k a n = _ := h6 k (by omega)
  have e7 : rampartref01_Num.f k x = _ := h7 k (by omega)
  have h10 : ¬ (l.length : Int) > 10 := by omega
  simp only [rampartlaw01_SumAll.j1, Bool.false_eq_true, if_false]
  rw [if_neg h10, e1, Option.bind_some, e2, Option.bind_some, if_pos rfl, e3, Option.bind_some, e4, Option.bind_some, if_pos rfl, e5, Option.bind_some, e6, Option.bind_some, if_pos rfl, n7, Option.bind_some, e7, Option.bind_some, if_pos rfl, e0, Option.bind_some]
theorem all_long (l : List ByteArray) (a b n : Int) (x : ByteArray) (i : Int) (hl : 10 < l.length) : Ev (fun k => rampartlaw01_SumAll.j1 k l a b n x i false) true := by
  obtain ⟨K0, h0⟩ := sumAwake_ev
  refine ⟨K0 + 1, fun k hk => ?_⟩
  obtain ⟨k, rfl⟩ : ∃ m, k = m + 1 := ⟨k - 1, by omega⟩
  have e0 : rampartlaw01_awake.f k = some true := h0 k (by omega)
  have h10 : (l.length : Int) > 10 := by omega
  simp only [rampartlaw01_SumAll.j1, Bool.false_eq_true, if_false]
  rw [if_pos h10, e0, Option.bind_some]
theorem all_loop (l : List ByteArray) (a b n : Int) : ∀ (d i : Nat) (x : ByteArray), i + d = 10 → i ≤ l.length → x.data.toList = cat (l.take i) → x.size ≤ 500 * i →
    Ev (fun k => rampartlaw01_SumAll.l0 k l a b n x (i : Int)) true := by
  intro d
  induction d with
  | zero =>
    intro i x hi hl hx hz
    refine Ev.step (f := fun k => rampartlaw01_SumAll.j1 k l a b n x (i : Int) false) (fun k => ?_) ?_
    · simp only [rampartlaw01_SumAll.l0]
      by_cases h : (i : Int) < (l.length : Int)
      · rw [if_pos h, decide_eq_false (show ¬ (i : Int) < 10 by omega)]
      · rw [if_neg h]
    · by_cases h : i < l.length
      · exact all_long l a b n x _ (by omega)
      · exact all_end l a b n x _ (by omega) (by rw [hx, List.take_of_length_le (by omega)]) (by omega)
  | succ d ih =>
    intro i x hi hl hx hz
    by_cases h : i < l.length
    · have hs : (rdOf ByteArray.empty l (i : Int)) = l[i] := rdOf_get _ _ _ h
      refine Ev.step (f := fun k => rampartlaw01_SumAll.j1 k l a b n x (i : Int) true) (fun k => ?_) ?_
      · simp only [rampartlaw01_SumAll.l0]
        rw [if_pos (show (i : Int) < (l.length : Int) by omega), decide_eq_true (show (i : Int) < 10 by omega)]
      · by_cases h5 : (l[i].size : Int) > 500
        · obtain ⟨K0, h0⟩ := sumAwake_ev
          refine ⟨K0 + 1, fun k hk => ?_⟩
          obtain ⟨k, rfl⟩ : ∃ m, k = m + 1 := ⟨k - 1, by omega⟩
          have e0 : rampartlaw01_awake.f k = some true := h0 k (by omega)
          simp only [rampartlaw01_SumAll.j1, if_true]
          rw [if_pos (Int.natCast_nonneg _), if_pos (show (i : Int) < (l.length : Int) by omega), hs, if_pos h5, e0, Option.bind_some]
        · have hsz : x.size + l[i].size ≤ 9223372036854775807 := by omega
          refine Ev.step (f := fun k => rampartlaw01_SumAll.l0 k l a b n (x ++ l[i]) ((i + 1 : Nat) : Int)) (fun k => ?_) (ih (i + 1) (x ++ l[i]) (by omega) (by omega) (by rw [app_list, hx, cat_take_succ l i h]) (by rw [ByteArray.size_append]; omega))
          simp only [rampartlaw01_SumAll.j1, if_true]
          rw [if_pos (Int.natCast_nonneg _), if_pos (show (i : Int) < (l.length : Int) by omega), hs, if_neg h5, if_pos hsz, show wrap64 ((i : Int) + 1) = ((i + 1 : Nat) : Int) by unfold wrap64; omega]
    · refine Ev.step (f := fun k => rampartlaw01_SumAll.j1 k l a b n x (i : Int) false) (fun k => ?_) ?_
      · simp only [rampartlaw01_SumAll.l0]
        rw [if_neg (show ¬ (i : Int) < (l.length : Int) by omega)]
      · exact all_end l a b n x _ (by omega) (by rw [hx, List.take_of_length_le (by omega)]) (by omega)
theorem SumAll (l : List ByteArray) (a b n : Int) (_ : ∀ s ∈ l, s.size ≤ maxLen) (_ : (Lit.int .i64 a).wf = true) (_ : (Lit.int .i64 b).wf = true) (_ : (Lit.int .i64 n).wf = true) : ∃ k, rampartlaw01_SumAll.f k l a b n = some true := by
  have := all_loop l a b n 10 0 (⟨#[]⟩ : ByteArray) (by omega) (by omega) rfl (by show (0 : Nat) ≤ _; omega)
  exact Ev.rounds this
end Go.Proofs.Ytchjfgdcldaacaa.Pure
