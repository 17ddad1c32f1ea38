/- What is proved: the plain statement of SumParts: a text's sum is the same, cut anywhere, in as many parts as you will. Conditions: sizes and numbers as the row gives them, nothing else. -/
import Derived.Test.YtchjfgdcldaacaaPureSumLib
namespace Go.Proofs.Ytchjfgdcldaacaa.Pure
open Go.RowKit Go.Proofs.Ytchjfgdcldaacaa.HA Go.Proofs.YtchjfgdcldaacaaW.PrintWords Go.Proofs.YtchjfgdcldaacaaW.PrintLast Go.Proofs.YtchjfgdcldaacaaW.PrintMore
set_option linter.unusedVariables false
set_option linter.unusedSimpArgs false
theorem cat_append : ∀ l m : List ByteArray, cat (l ++ m) = cat l ++ cat m
  | [], m => rfl
  | s :: t, m => by simp [cat, cat_append t m]
theorem cat_one (s : ByteArray) : cat [s] = s.data.toList := by simp [cat]
theorem rd_range {l : List Int} (h : ∀ x ∈ l, (Lit.int .i64 x).wf = true) (i : Nat) (hi : i < l.length) : -9223372036854775808 ≤ rd l (i : Int) ∧ rd l (i : Int) ≤ 9223372036854775807 := by
  have := bounds_i64 (h l[i] (List.getElem_mem hi))
  simpa [rd, List.getD_eq_getElem?_getD, hi] using this
theorem sum_pad (s : ByteArray) : sumOf (cat [s ++ (⟨#[0]⟩ : ByteArray)]) = sumOf (cat [s]) := by
  rw [cat_one, cat_one, app_list, sumOf, sumOf, wsum_append]
  have : wsum (⟨#[0]⟩ : ByteArray).data.toList (0 + (s.data.toList.length : Int)) = 0 := by
    show ((0 : UInt8).toNat : Int) * wt _ + 0 = 0
    simp
  rw [this, Int.add_zero]
theorem parts_end (s : ByteArray) (cuts : List Int) (l : List ByteArray) (rest : ByteArray) (i : Int) (hs : s.size ≤ 800) (hi : ¬ i < (cuts.length : Int)) (hl : l.length ≤ 12) (hc : cat l ++ rest.data.toList = s.data.toList) :
    Ev (fun k => rampartlaw01_SumParts.l0 k s cuts l rest i) true := by
  have hcat : cat (l ++ [rest]) = s.data.toList := by rw [cat_append, cat_one, hc]
  have hsz : catSize (l ++ [rest]) = s.size := by rw [← cat_length, hcat]; simp
  obtain ⟨K0, h0⟩ := sumAwake_ev
  obtain ⟨K1, h1⟩ := of_ev (l ++ [rest]) (by rw [List.length_append]; simp; omega) (by rw [hsz]; omega)
  obtain ⟨K2, h2⟩ := of_ev [s] (by simp) (by simp only [catSize]; omega)
  obtain ⟨K3, h3⟩ := of_ev [s ++ (⟨#[0]⟩ : ByteArray)] (by simp) (by simp only [catSize, ByteArray.size_append]; rw [show (⟨#[0]⟩ : ByteArray).size = 1 from rfl]; omega)
  rw [hcat] at h1
  rw [sum_pad, cat_one] at h3
  rw [cat_one] at h2
  refine ⟨K0 + K1 + K2 + K3 + 1, fun k hk => ?_⟩
  obtain ⟨k, rfl⟩ : ∃ m, k = m + 1 := ⟨k - 1, by omega⟩
  have e0 : rampartlaw01_awake.f k = some true := h0 k (by omega)
  have e1 : sum_Of.f k (l ++ [rest]) = some (sumOf s.data.toList) := h1 k (by omega)
  have e2 : sum_Of.f k [s] = some (sumOf s.data.toList) := h2 k (by omega)
  have e3 : sum_Of.f k [s ++ (⟨#[0]⟩ : ByteArray)] = some (sumOf s.data.toList) := h3 k (by omega)
  have r1 : s.size + 1 ≤ 9223372036854775807 := by omega
  have r2 : l.length < 8796093022208 := by omega
  simp only [rampartlaw01_SumParts.l0]
  rw [if_neg hi, if_pos r2, e1, Option.bind_some, e2, Option.bind_some, if_pos rfl]
  by_cases hp : (s.size : Int) % 2 = 0
  · rw [if_pos hp, e0, Option.bind_some]
  · rw [if_neg hp, if_pos r1, e3, Option.bind_some, Option.bind_some, if_pos rfl, e0, Option.bind_some]
theorem parts_loop (s : ByteArray) (cuts : List Int) (hs : s.size ≤ 800) (hw : ∀ x ∈ cuts, (Lit.int .i64 x).wf = true) (h12 : cuts.length ≤ 12) : ∀ (d i : Nat) (l : List ByteArray) (rest : ByteArray), i + d = cuts.length → l.length = i → cat l ++ rest.data.toList = s.data.toList →
    Ev (fun k => rampartlaw01_SumParts.l0 k s cuts l rest (i : Int)) true := by
  intro d
  induction d with
  | zero =>
    intro i l rest hi hl hc
    exact parts_end s cuts l rest (i : Int) hs (by omega) (by omega) hc
  | succ d ih =>
    intro i l rest hi hl hc
    have hlt : i < cuts.length := by omega
    have hrs : rest.size ≤ 800 := by
      have := congrArg List.length hc
      simp at this
      omega
    have hv := rd_range hw i hlt
    have hp := at_some (rd cuts (i : Int)) ((rest.size : Int) + 1) (by omega) (by omega) hv
    have hr0 := Int.emod_nonneg (rd cuts (i : Int)) (show (rest.size : Int) + 1 ≠ 0 by omega)
    have hr1 := Int.emod_lt_of_pos (rd cuts (i : Int)) (show 0 < (rest.size : Int) + 1 by omega)
    generalize rd cuts (i : Int) % ((rest.size : Int) + 1) = t at *
    obtain ⟨m, rfl⟩ := Int.eq_ofNat_of_zero_le hr0
    have H := ih (i + 1) (l ++ [rest.extract 0 m]) (rest.extract m rest.size) (by omega) (by simp; omega) (by rw [cat_append, cat_one, List.append_assoc, cut_list, hc])
    refine Ev.step (f := fun k => rampartlaw01_SumParts.l0 k s cuts (l ++ [rest.extract 0 m]) (rest.extract m rest.size) ((i + 1 : Nat) : Int)) (fun k => ?_) H
    have ew : wrap64 ((rest.size : Int) + 1) = (rest.size : Int) + 1 := by unfold wrap64; omega
    have ei : wrap64 ((i : Int) + 1) = ((i + 1 : Nat) : Int) := by unfold wrap64; omega
    have r2 : l.length < 8796093022208 := by omega
    simp only [rampartlaw01_SumParts.l0]
    rw [if_pos (show (i : Int) < (cuts.length : Int) by omega), if_pos (Int.natCast_nonneg _), ew, hp, Option.bind_some, if_pos hr0, if_pos (show (m : Int) ≤ (rest.size : Int) by omega), if_pos r2, Int.toNat_natCast, ei]
theorem SumParts : rampartlaw01_SumParts.Pure := by
  intro s cuts hs _ _ hw
  obtain ⟨K0, h0⟩ := sumAwake_ev
  have aw : rampartlaw01_SumParts.j0 (K0 + 1) s cuts true = some true := by
    have e0 : rampartlaw01_awake.f K0 = some true := h0 K0 (by omega)
    simp only [rampartlaw01_SumParts.j0]
    rw [if_pos trivial, e0, Option.bind_some]
  by_cases h1 : (s.size : Int) > 800
  · refine ⟨K0 + 1, ?_⟩
    simp only [rampartlaw01_SumParts.f]
    rw [if_pos h1, aw]
  by_cases h2 : (cuts.length : Int) > 12
  · refine ⟨K0 + 1, ?_⟩
    simp only [rampartlaw01_SumParts.f]
    rw [if_neg h1, decide_eq_true h2, aw]
  obtain ⟨K1, e1⟩ := parts_loop s cuts (by omega) hw (by omega) cuts.length 0 [] s (by omega) rfl rfl
  refine ⟨K1 + 1, ?_⟩
  have e1 : rampartlaw01_SumParts.l0 K1 s cuts [] s 0 = some true := e1 K1 (by omega)
  simp only [rampartlaw01_SumParts.f]
  rw [if_neg h1, decide_eq_false h2]
  simp only [rampartlaw01_SumParts.j0, Bool.false_eq_true, if_false, e1]
end Go.Proofs.Ytchjfgdcldaacaa.Pure
