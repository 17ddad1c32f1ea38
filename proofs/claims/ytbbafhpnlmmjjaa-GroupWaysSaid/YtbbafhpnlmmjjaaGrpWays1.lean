/- What is proved: a rule for one port of one host, plain. Conditions: those that stand in each theorem. -/
import Derived.Test.YtbbafhpnlmmjjaaGrpAwake
import Derived.Shelf.Spec.TrailingZeros
namespace Go.Proofs.Ytbbafhpnlmmjjaa
set_option linter.unusedVariables false
set_option linter.unusedSimpArgs false
set_option linter.unusedSectionVars false
open Go.RowKit Fw
theorem mk32 : mk 32 = 4294967295 := by kernel_rfl
theorem and_all (x : Int) (h0 : 0 ≤ x) (h1 : x < 4294967296) : bits .and .u32 x 4294967295 = x := by
  obtain ⟨n, rfl⟩ := Int.eq_ofNat_of_zero_le h0
  have := bits_and_u32_nat n 4294967295 (by omega) (by decide)
  have e : n &&& 4294967295 = n := by
    have h2 := Nat.and_two_pow_sub_one_eq_mod n 32
    rw [Nat.mod_eq_of_lt (by omega)] at h2
    exact h2
  rw [e] at this
  exact this
theorem in32 (h x : Int) (h0 : 0 ≤ h ∧ h < 4294967296) (hx : 0 ≤ x ∧ x < 4294967296) : inN (h, 32) x = decide (x = h) := by
  unfold inN
  simp only
  rw [mk32, and_all h h0.1 h0.2, and_all x hx.1 hx.2]
  by_cases e : x = h <;> simp [e]
theorem one_has (v : Value) (h x : Int) (h0 : 0 ≤ h ∧ h < 4294967296) (hx : 0 ≤ x ∧ x < 4294967296) : (SetV.mk false v [(h, 32)]).has x = decide (x = h) := by
  rw [← in32 h x h0 hx]
  unfold SetV.has SetV.check
  simp [okN]
theorem one_hasS (v : Value) (p x : Int) (h0 : 0 ≤ p ∧ p ≤ 65535) (hx : 0 ≤ x ∧ x ≤ 65535) : (SetV.mk false v [(p, p)]).hasS x = decide (x = p) := by
  unfold SetV.hasS SetV.checkS
  simp only [List.length_singleton, List.all_cons, List.all_nil, okS, List.isEmpty_cons, List.any_cons, List.any_nil, inS, Bool.false_or, Bool.or_false, Bool.and_true]
  rw [decide_eq_true h0.1, decide_eq_true h0.2, decide_eq_true hx.1, decide_eq_true hx.2, decide_eq_true (Int.le_refl p)]
  by_cases e : x = p
  · subst e
    simp
  · rw [decide_eq_false e]
    by_cases e1 : p ≤ x
    · rw [decide_eq_true e1, decide_eq_false (by omega : ¬ x ≤ p)]; rfl
    · rw [decide_eq_false e1]; rfl
theorem s0_has (x : Int) : S0.has x = true := rfl
theorem s0_hasS (x : Int) (hx : 0 ≤ x ∧ x ≤ 65535) : S0.hasS x = true := by
  unfold SetV.hasS
  rw [decide_eq_true hx.1, decide_eq_true hx.2]
  rfl
def wyR (bn bp : Nat) (h p : Int) (both : Bool) : RuleV := ⟨2, 6, S0, S0, ⟨false, .slice (some ⟨bn, 0, none⟩) 1 1, [(h, 32)]⟩, ⟨false, .slice (some ⟨bp, 0, none⟩) 1 1, [(p, p)]⟩, both, 0, .slice none 0 0, 1, 1⟩
def wyT (pr d dp : Int) : TupV := ⟨pr, 1048576, d, 7, dp⟩
theorem wy_send (bn bp : Nat) (h p : Int) (both : Bool) (x : EndV) (hx : 0 ≤ x.port ∧ x.port ≤ 65535) : (wyR bn bp h p both).send x = true := by
  unfold RuleV.send
  show (S0.has x.addr && S0.hasS x.port) = true
  rw [s0_has, s0_hasS _ hx]; rfl
theorem wy_recv (bn bp : Nat) (h p : Int) (both : Bool) (x : EndV) (h0 : 0 ≤ h ∧ h < 4294967296) (hp : 0 ≤ p ∧ p ≤ 65535) (ha : 0 ≤ x.addr ∧ x.addr < 4294967296) (hx : 0 ≤ x.port ∧ x.port ≤ 65535) : (wyR bn bp h p both).recv x = (decide (x.addr = h) && decide (x.port = p)) := by
  unfold RuleV.recv
  show ((SetV.mk false _ [(h, 32)]).has x.addr && (SetV.mk false _ [(p, p)]).hasS x.port) = _
  rw [one_has _ h x.addr h0 ha, one_hasS _ p x.port hp hx]
theorem wy_fits0 (bn bp : Nat) (h p pr d dp : Int) (both : Bool) (h0 : 0 ≤ h ∧ h < 65536) (hp : 0 ≤ p ∧ p ≤ 65535) (hd : 0 ≤ d ∧ d < 4294967296) (hdp : 0 ≤ dp ∧ dp ≤ 65535) : (wyR bn bp h p both).fits (wyT pr d dp) 0 = (decide (pr = 6) && (decide (d = h) && decide (dp = p))) := by
  have e1 : (wyR bn bp h p both).recv (wyT pr d dp).a = false := by
    rw [wy_recv _ _ _ _ _ _ (by omega) hp (show 0 ≤ (1048576 : Int) ∧ (1048576 : Int) < 4294967296 by decide) (show 0 ≤ (7 : Int) ∧ (7 : Int) ≤ 65535 by decide)]
    rw [decide_eq_false (show ¬ (wyT pr d dp).a.addr = h from fun e => by have : (1048576 : Int) = h := e; omega)]; rfl
  have e2 : (wyR bn bp h p both).recv (wyT pr d dp).b = (decide (d = h) && decide (dp = p)) := wy_recv _ _ _ _ _ _ (by omega) hp hd hdp
  have e3 : (wyR bn bp h p both).bad (wyT pr d dp) 0 = !decide (pr = 6) := by
    unfold RuleV.bad
    show (decide ((0 : Int) < 0) || (decide ((1 : Int) < 0) || (decide ((6 : Int) ≠ 0) && decide ((6 : Int) ≠ pr)))) = _
    by_cases e : pr = 6
    · rw [e]; rfl
    · rw [decide_eq_false e, decide_eq_true (show (6 : Int) ≠ pr from Ne.symm e)]; rfl
  unfold RuleV.fits RuleV.way
  rw [if_neg (by decide), if_neg (by decide), e3, e1, e2, wy_send _ _ _ _ _ (wyT pr d dp).a (show 0 ≤ (7 : Int) ∧ (7 : Int) ≤ 65535 by decide)]
  have e4 : (wyR bn bp h p both).flowOk 0 = true := rfl
  rw [e4, Bool.not_not, Bool.and_true, Bool.true_and, Bool.and_false, Bool.and_false, Bool.or_false]
theorem wy_fits1 (bn bp : Nat) (h p pr d dp : Int) (both : Bool) (h0 : 0 ≤ h ∧ h < 65536) (hp : 0 ≤ p ∧ p ≤ 65535) (hd : 0 ≤ d ∧ d < 4294967296) (hdp : 0 ≤ dp ∧ dp ≤ 65535) (hb : both = false ∨ d ≠ h) : (wyR bn bp h p both).fits (wyT pr d dp) 1 = false := by
  have e1 : (wyR bn bp h p both).recv (wyT pr d dp).a = false := by
    rw [wy_recv _ _ _ _ _ _ (by omega) hp (show 0 ≤ (1048576 : Int) ∧ (1048576 : Int) < 4294967296 by decide) (show 0 ≤ (7 : Int) ∧ (7 : Int) ≤ 65535 by decide)]
    rw [decide_eq_false (show ¬ (wyT pr d dp).a.addr = h from fun e => by have : (1048576 : Int) = h := e; omega)]; rfl
  have e2 : (wyR bn bp h p both).recv (wyT pr d dp).b = (decide (d = h) && decide (dp = p)) := wy_recv _ _ _ _ _ _ (by omega) hp hd hdp
  have e5 : (both && (true && (decide (d = h) && decide (dp = p)))) = false := by
    rcases hb with e | e
    · rw [e]; rfl
    · rw [decide_eq_false e]; simp
  unfold RuleV.fits RuleV.way
  rw [if_pos rfl, if_pos rfl, e1, e2, wy_send _ _ _ _ _ (wyT pr d dp).a (show 0 ≤ (7 : Int) ∧ (7 : Int) ≤ 65535 by decide)]
  have e6 : (wyR bn bp h p both).both = both := rfl
  rw [e6, e5, Bool.and_false, Bool.false_or, Bool.false_and, Bool.and_false]
end Go.Proofs.Ytbbafhpnlmmjjaa
