/- What is proved: both ways round, plain. Conditions: those that stand in each theorem. -/
import Derived.Test.YtbbafhpnlmmjjaaGrpAwake
namespace Go.Proofs.Ytbbafhpnlmmjjaa
set_option linter.unusedVariables false
set_option linter.unusedSimpArgs false
set_option linter.unusedSectionVars false
open Go.RowKit Fw
def TupV.turn (t : TupV) : TupV := ⟨t.proto, t.dst, t.src, t.dp, t.sp⟩
def RuleV.bothR (r : RuleV) : RuleV := { r with both := true, flow := 0 }
def flip3 (f : Int) : Int := if f = 1 then 2 else if f = 2 then 1 else 0
def RuleV.turnR (r : RuleV) : RuleV := { r with flow := flip3 r.flow }
theorem way_comm (r : RuleV) (h : r.both = true) (x y : EndV) : r.way x y = r.way y x := by
  unfold RuleV.way
  rw [h, Bool.true_and, Bool.true_and, Bool.or_comm]
theorem both_1 (r : RuleV) (t : TupV) (d : Int) : r.bothR.fits t d = r.bothR.fits t.turn d := by
  unfold RuleV.fits
  have e1 : r.bothR.bad t.turn d = r.bothR.bad t d := rfl
  rw [e1]
  by_cases hd : d = 1
  · rw [if_pos hd, if_pos hd, if_pos hd, if_pos hd]
    rw [way_comm r.bothR rfl t.b t.a]; rfl
  · rw [if_neg hd, if_neg hd, if_neg hd, if_neg hd]
    rw [way_comm r.bothR rfl t.a t.b]; rfl
theorem both_2 (r : RuleV) (t : TupV) : r.bothR.fits t 0 = r.bothR.fits t 1 := by
  unfold RuleV.fits
  have e1 : r.bothR.bad t 1 = r.bothR.bad t 0 := rfl
  rw [e1, if_neg (by decide), if_neg (by decide), if_pos rfl, if_pos rfl, way_comm r.bothR rfl t.a t.b]
  rfl
theorem both_3 (r : RuleV) (t : TupV) (d : Int) (hd : d = 0 ∨ d = 1) (hf : r.flow = 0 ∨ r.flow = 1 ∨ r.flow = 2) : r.fits t d = r.turnR.fits t.turn (1 - d) := by
  unfold RuleV.fits
  have e2 : ∀ x y, r.turnR.way x y = r.way x y := fun x y => rfl
  rcases hd with rfl | rfl
  · have e1 : r.turnR.bad t.turn (1 - 0) = r.bad t 0 := rfl
    have e3 : r.turnR.flowOk (1 - 0) = r.flowOk 0 := by
      unfold RuleV.flowOk RuleV.turnR flip3
      simp only
      rcases hf with e | e | e <;> rw [e] <;> rfl
    rw [e1, e2, e3, if_neg (by decide), if_neg (by decide), if_pos (by decide), if_pos (by decide)]
    rfl
  · have e1 : r.turnR.bad t.turn (1 - 1) = r.bad t 1 := rfl
    have e3 : r.turnR.flowOk (1 - 1) = r.flowOk 1 := by
      unfold RuleV.flowOk RuleV.turnR flip3
      simp only
      rcases hf with e | e | e <;> rw [e] <;> rfl
    rw [e1, e2, e3, if_pos rfl, if_pos rfl, if_neg (by decide), if_neg (by decide)]
    rfl
theorem both_4 (r : RuleV) (t : TupV) (d : Int) (h : r.fits t d = true) : r.bothR.fits t d = true := by
  unfold RuleV.fits at h ⊢
  rw [Bool.and_eq_true, Bool.and_eq_true] at h
  obtain ⟨h1, h2, _⟩ := h
  have e1 : r.bothR.bad t d = r.bad t d := rfl
  have e3 : r.bothR.flowOk d = true := rfl
  rw [e1, h1, e3, Bool.true_and, Bool.and_true]
  generalize (if d = 1 then t.b else t.a) = x at h2 ⊢
  generalize (if d = 1 then t.a else t.b) = y at h2 ⊢
  unfold RuleV.way at h2 ⊢
  show ((r.send x && r.recv y) || (true && (r.send y && r.recv x))) = true
  rw [Bool.or_eq_true] at h2 ⊢
  rcases h2 with e | e
  · exact .inl e
  · right
    rw [Bool.and_eq_true] at e
    rw [e.2]; rfl
theorem both_5 (r : RuleV) (t : TupV) (d : Int) (h : d < 0 ∨ 1 < d) : r.fits t d = false := by
  unfold RuleV.fits
  have e1 : r.bad t d = true := by
    unfold RuleV.bad
    rcases h with e | e
    · rw [decide_eq_true e]; rfl
    · rw [decide_eq_true e, Bool.true_or, Bool.or_true]
  rw [e1]; rfl
end Go.Proofs.Ytbbafhpnlmmjjaa
