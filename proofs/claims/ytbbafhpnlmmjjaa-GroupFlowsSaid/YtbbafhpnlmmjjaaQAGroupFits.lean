/- What is proved: whether a rule fits a direction of a flow, and which rules of a list fit, in closed form. Conditions: those that stand in each theorem. -/
import Derived.Test.YtbbafhpnlmmjjaaQAGroupLib
import Derived.Test.YtbbafhpnlmmjjaaHAx4
import Derived.Test.YtbbafhpnlmmjjaaHAx5
import Derived.Test.YtbbafhpnlmmjjaaHAx6
namespace Go.Proofs.Ytbbafhpnlmmjjaa.QA
open Go.RowKit Go.Proofs.Ytbbafhpnlmmjjaa.HA Go.Proofs.YtbbafhpnlmmjjaaW.PrintWords Go.Proofs.YtbbafhpnlmmjjaaW.PrintLast Go.Proofs.YtbbafhpnlmmjjaaW.PrintMore
set_option linter.unusedVariables false
set_option linter.unusedSimpArgs false
theorem send_ev (r : S37) (a p : Int) (h : small r) : Ev (fun k => group_ends_sender.f k r.f0 r.f1 r.f2.f0 r.f2.f1 r.f3.f0 r.f3.f1 r.f4.f0 r.f4.f1 r.f5.f0 r.f5.f1 r.f6 r.f7 r.f8 r.f9 r.f10 a p) (sendB r a p) := by
  obtain ⟨K1, q1⟩ := hn_ev r.f2.f0 r.f2.f1 a h.1
  obtain ⟨K2, q2⟩ := hp_ev r.f3.f0 r.f3.f1 p h.2.1
  refine ⟨K1 + K2, fun k hk => ?_⟩
  have e1 : cidr_Has.f k r.f2.f0 r.f2.f1 a = some (setHas r.f2.f0 r.f2.f1 a) := q1 k (by omega)
  have e2 : ports_Has.f k r.f3.f0 r.f3.f1 p = some (portHas r.f3.f0 r.f3.f1 p) := q2 k (by omega)
  simp only [group_ends_sender.f, sendB]
  rw [e1, Option.bind_some]
  cases setHas r.f2.f0 r.f2.f1 a
  · rw [if_neg Bool.false_ne_true, Bool.false_and]
  · rw [if_pos rfl, e2, Option.bind_some, Bool.true_and]
theorem recv_ev (r : S37) (a p : Int) (h : small r) : Ev (fun k => group_ends_receiver.f k r.f0 r.f1 r.f2.f0 r.f2.f1 r.f3.f0 r.f3.f1 r.f4.f0 r.f4.f1 r.f5.f0 r.f5.f1 r.f6 r.f7 r.f8 r.f9 r.f10 a p) (recvB r a p) := by
  obtain ⟨K1, q1⟩ := hn_ev r.f4.f0 r.f4.f1 a h.2.2.1
  obtain ⟨K2, q2⟩ := hp_ev r.f5.f0 r.f5.f1 p h.2.2.2
  refine ⟨K1 + K2, fun k hk => ?_⟩
  have e1 : cidr_Has.f k r.f4.f0 r.f4.f1 a = some (setHas r.f4.f0 r.f4.f1 a) := q1 k (by omega)
  have e2 : ports_Has.f k r.f5.f0 r.f5.f1 p = some (portHas r.f5.f0 r.f5.f1 p) := q2 k (by omega)
  simp only [group_ends_receiver.f, recvB]
  rw [e1, Option.bind_some]
  cases setHas r.f4.f0 r.f4.f1 a
  · rw [if_neg Bool.false_ne_true, Bool.false_and]
  · rw [if_pos rfl, e2, Option.bind_some, Bool.true_and]
theorem fits_j2 (r : S37) (dir : Int) (b : Bool) (k : Nat) : group_Fits.j2 (k + 1) dir b r.f0 r.f1 r.f2.f0 r.f2.f1 r.f3.f0 r.f3.f1 r.f4.f0 r.f4.f1 r.f5.f0 r.f5.f1 r.f6 r.f7 r.f8 r.f9 r.f10 = some (b && flowB r dir) := by
  simp only [group_Fits.j2]
  cases b
  · rw [if_neg Bool.false_ne_true, Bool.false_and]
  rw [if_pos rfl, Bool.true_and]
  unfold flowB
  by_cases h0 : r.f7 = 0
  · rw [if_pos h0, decide_eq_true (Or.inl h0)]
  rw [if_neg h0]
  have hd : (dir == 1) = decide (dir = 1) := by rw [Bool.eq_iff_iff]; simp
  by_cases h1 : r.f7 = 1
  · rw [if_pos h1]
    by_cases h2 : dir = 0
    · rw [if_pos h2, decide_eq_true (Or.inr (Or.inl ⟨h1, h2⟩))]
    · rw [if_neg h2, if_neg (by omega), decide_eq_false (by omega)]
  rw [if_neg h1]
  by_cases h2 : r.f7 = 2
  · rw [if_pos h2, hd]
    congr 1
    exact decide_eq_decide.mpr ⟨fun h => by omega, fun h => by omega⟩
  · rw [if_neg h2, decide_eq_false (by omega)]
theorem fits_j1 (r : S37) (dir a p b q : Int) (h : small r) : Ev (fun k => group_Fits.j1 k dir r.f0 r.f1 r.f2.f0 r.f2.f1 r.f3.f0 r.f3.f1 r.f4.f0 r.f4.f1 r.f5.f0 r.f5.f1 r.f6 r.f7 r.f8 r.f9 r.f10 a p b q) (wayB r a p b q && flowB r dir) := by
  obtain ⟨K1, q1⟩ := send_ev r a p h
  obtain ⟨K2, q2⟩ := recv_ev r b q h
  obtain ⟨K3, q3⟩ := send_ev r b q h
  obtain ⟨K4, q4⟩ := recv_ev r a p h
  refine ⟨K1 + K2 + K3 + K4 + 2, fun k hk => ?_⟩
  obtain ⟨k, rfl⟩ : ∃ n, k = n + 2 := ⟨k - 2, by omega⟩
  have e1 : group_ends_sender.f (k + 1) r.f0 r.f1 r.f2.f0 r.f2.f1 r.f3.f0 r.f3.f1 r.f4.f0 r.f4.f1 r.f5.f0 r.f5.f1 r.f6 r.f7 r.f8 r.f9 r.f10 a p = some (sendB r a p) := q1 (k + 1) (by omega)
  have e2 : group_ends_receiver.f (k + 1) r.f0 r.f1 r.f2.f0 r.f2.f1 r.f3.f0 r.f3.f1 r.f4.f0 r.f4.f1 r.f5.f0 r.f5.f1 r.f6 r.f7 r.f8 r.f9 r.f10 b q = some (recvB r b q) := q2 (k + 1) (by omega)
  have e3 : group_ends_sender.f (k + 1) r.f0 r.f1 r.f2.f0 r.f2.f1 r.f3.f0 r.f3.f1 r.f4.f0 r.f4.f1 r.f5.f0 r.f5.f1 r.f6 r.f7 r.f8 r.f9 r.f10 b q = some (sendB r b q) := q3 (k + 1) (by omega)
  have e4 : group_ends_receiver.f (k + 1) r.f0 r.f1 r.f2.f0 r.f2.f1 r.f3.f0 r.f3.f1 r.f4.f0 r.f4.f1 r.f5.f0 r.f5.f1 r.f6 r.f7 r.f8 r.f9 r.f10 a p = some (recvB r a p) := q4 (k + 1) (by omega)
  have j := fun b => fits_j2 r dir b k
  simp only [group_Fits.j1]
  rw [e1, Option.bind_some]
  unfold wayB
  cases sendB r a p
  · rw [if_neg Bool.false_ne_true]
    by_cases h6 : r.f6 = true
    · rw [if_pos h6, e3, Option.bind_some]
      cases sendB r b q
      · rw [if_neg Bool.false_ne_true, j]; simp
      · rw [if_pos rfl, e4, Option.bind_some, j]; simp [h6]
    · rw [if_neg h6, j]; simp [h6]
  · rw [if_pos rfl, e2, Option.bind_some]
    cases recvB r b q
    · rw [if_neg Bool.false_ne_true]
      by_cases h6 : r.f6 = true
      · rw [if_pos h6, e3, Option.bind_some]
        cases sendB r b q
        · rw [if_neg Bool.false_ne_true, j]; simp
        · rw [if_pos rfl, e4, Option.bind_some, j]; simp [h6]
      · rw [if_neg h6, j]; simp [h6]
    · rw [if_pos rfl, j]; simp
theorem fits_j0 (r : S37) (pr src dst sp dp dir : Int) (h : small r) : Ev (fun k => group_Fits.j0 k dir false r.f0 r.f1 r.f2.f0 r.f2.f1 r.f3.f0 r.f3.f1 r.f4.f0 r.f4.f1 r.f5.f0 r.f5.f1 r.f6 r.f7 r.f8 r.f9 r.f10 pr src dst sp dp) ((if dir = 1 then wayB r dst dp src sp else wayB r src sp dst dp) && flowB r dir) := by
  obtain ⟨K1, q1⟩ := fits_j1 r dir dst dp src sp h
  obtain ⟨K2, q2⟩ := fits_j1 r dir src sp dst dp h
  refine ⟨K1 + K2 + 1, fun k hk => ?_⟩
  obtain ⟨k, rfl⟩ : ∃ n, k = n + 1 := ⟨k - 1, by omega⟩
  simp only [group_Fits.j0, Bool.false_eq_true, if_false]
  by_cases h1 : dir = 1
  · rw [if_pos h1, if_pos h1]
    exact q1 k (by omega)
  · rw [if_neg h1, if_neg h1]
    exact q2 k (by omega)
theorem fits_no (r : S37) (pr src dst sp dp dir : Int) (k : Nat) : group_Fits.j0 (k + 1) dir true r.f0 r.f1 r.f2.f0 r.f2.f1 r.f3.f0 r.f3.f1 r.f4.f0 r.f4.f1 r.f5.f0 r.f5.f1 r.f6 r.f7 r.f8 r.f9 r.f10 pr src dst sp dp = some false := by
  simp only [group_Fits.j0, if_true]
theorem fits_ev (r : S37) (pr src dst sp dp dir : Int) (h : small r) : Ev (fun k => group_Fits.f k r.f0 r.f1 r.f2.f0 r.f2.f1 r.f3.f0 r.f3.f1 r.f4.f0 r.f4.f1 r.f5.f0 r.f5.f1 r.f6 r.f7 r.f8 r.f9 r.f10 pr src dst sp dp dir) (fitsB r pr src dst sp dp dir) := by
  obtain ⟨K, q⟩ := fits_j0 r pr src dst sp dp dir h
  refine ⟨K + 1, fun k hk => ?_⟩
  have e : group_Fits.j0 k dir false r.f0 r.f1 r.f2.f0 r.f2.f1 r.f3.f0 r.f3.f1 r.f4.f0 r.f4.f1 r.f5.f0 r.f5.f1 r.f6 r.f7 r.f8 r.f9 r.f10 pr src dst sp dp = some ((if dir = 1 then wayB r dst dp src sp else wayB r src sp dst dp) && flowB r dir) := q k (by omega)
  obtain ⟨k, rfl⟩ : ∃ n, k = n + 1 := ⟨k - 1, by omega⟩
  have n := fits_no r pr src dst sp dp dir k
  simp only [group_Fits.f]
  unfold fitsB
  by_cases h1 : dir < 0
  · rw [if_pos h1, n, if_pos (Or.inl h1)]
  rw [if_neg h1]
  by_cases h2 : dir > 1
  · rw [if_pos h2, n, if_pos (Or.inr (Or.inl h2))]
  rw [if_neg h2]
  by_cases h3 : r.f1 = 0
  · rw [if_pos h3, e, if_neg (show ¬ (dir < 0 ∨ dir > 1 ∨ r.f1 ≠ 0 ∧ r.f1 ≠ pr) by omega)]
  rw [if_neg h3]
  by_cases h4 : r.f1 = pr
  · rw [show (r.f1 != pr) = false from bne_eq_false_iff_eq.mpr h4, e, if_neg (show ¬ (dir < 0 ∨ dir > 1 ∨ r.f1 ≠ 0 ∧ r.f1 ≠ pr) by omega)]
  · rw [show (r.f1 != pr) = true from bne_iff_ne.mpr h4, n, if_pos (show (dir < 0 ∨ dir > 1 ∨ r.f1 ≠ 0 ∧ r.f1 ≠ pr) by omega)]
/-- The places of what fits, from place i on. -/
def picks (f : S37 → Bool) : List S37 → Nat → List Int
  | [], _ => []
  | r :: l, i => if f r = true then (i : Int) :: picks f l (i + 1) else picks f l (i + 1)
theorem picks_length (f : S37 → Bool) : ∀ (l : List S37) (i : Nat), (picks f l i).length ≤ l.length
  | [], _ => Nat.le_refl _
  | r :: l, i => by
    have := picks_length f l (i + 1)
    unfold picks
    split <;> simp <;> omega
theorem pick_loop (l : List S37) (pr src dst sp dp dir : Int) (hl : l.length ≤ 1000000) (hs : ∀ r ∈ l, small r) : ∀ (d i : Nat) (o : List Int), i + d = l.length → o.length ≤ i → Ev (fun k => group_Pick.l0 k dir o l (l.length : Int) (i : Int) pr src dst sp dp) (o ++ picks (fitsB · pr src dst sp dp dir) (l.drop i) i) := by
  intro d
  induction d with
  | zero =>
    intro i o hi ho
    refine ⟨1, fun k hk => ?_⟩
    obtain ⟨k, rfl⟩ : ∃ n, k = n + 1 := ⟨k - 1, by omega⟩
    simp only [group_Pick.l0]
    rw [if_neg (by omega), List.drop_of_length_le (by omega)]
    simp [picks]
  | succ d ih =>
    intro i o hi ho
    have hlt : i < l.length := by omega
    obtain ⟨K1, q1⟩ := fits_ev l[i] pr src dst sp dp dir (hs _ (List.getElem_mem hlt))
    obtain ⟨K2, q2⟩ := ih (i + 1) (o ++ [(i : Int)]) (by omega) (by simp; omega)
    obtain ⟨K3, q3⟩ := ih (i + 1) o (by omega) (by omega)
    refine ⟨K1 + K2 + K3 + 1, fun k hk => ?_⟩
    obtain ⟨k, rfl⟩ : ∃ n, k = n + 1 := ⟨k - 1, by omega⟩
    have e1 : group_Fits.f k l[i].f0 l[i].f1 l[i].f2.f0 l[i].f2.f1 l[i].f3.f0 l[i].f3.f1 l[i].f4.f0 l[i].f4.f1 l[i].f5.f0 l[i].f5.f1 l[i].f6 l[i].f7 l[i].f8 l[i].f9 l[i].f10 pr src dst sp dp dir = some (fitsB l[i] pr src dst sp dp dir) := q1 k (by omega)
    have e2 : group_Pick.l0 k dir (o ++ [(i : Int)]) l (l.length : Int) ((i + 1 : Nat) : Int) pr src dst sp dp = some ((o ++ [(i : Int)]) ++ picks (fitsB · pr src dst sp dp dir) (l.drop (i + 1)) (i + 1)) := q2 k (by omega)
    have e3 : group_Pick.l0 k dir o l (l.length : Int) ((i + 1 : Nat) : Int) pr src dst sp dp = some (o ++ picks (fitsB · pr src dst sp dp dir) (l.drop (i + 1)) (i + 1)) := q3 k (by omega)
    simp only [group_Pick.l0]
    rw [if_pos (by omega), if_pos (Int.natCast_nonneg _), if_pos (by omega), rd37 l i hlt, e1, Option.bind_some, word_next i l.length hlt (by omega), List.drop_eq_getElem_cons hlt]
    unfold picks
    cases hf : fitsB l[i] pr src dst sp dp dir
    · rw [if_neg Bool.false_ne_true, e3, if_neg Bool.false_ne_true]
    · rw [if_pos rfl, if_pos (by omega), e2, if_pos rfl, List.append_assoc]
      rfl
theorem pick_ev (l : List S37) (pr src dst sp dp dir : Int) (hl : l.length ≤ 1000000) (hs : ∀ r ∈ l, small r) : Ev (fun k => group_Pick.f k l pr src dst sp dp dir) (picks (fitsB · pr src dst sp dp dir) l 0) := by
  obtain ⟨K, q⟩ := pick_loop l pr src dst sp dp dir hl hs l.length 0 [] (by omega) (by simp)
  exact ⟨K, fun k hk => q k hk⟩
end Go.Proofs.Ytbbafhpnlmmjjaa.QA
