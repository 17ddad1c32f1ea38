/- What is proved: each Go function of this text answers as the plain Lean function beside it (a law: its given row, out of the plain statement). Conditions: those that stand in each theorem. Written by my drive.py, which calls the printer of the kit for what that covers. -/
import Derived.Test.YtbbafhpnlmmjjaaHAx0
import Derived.Test.YtbbafhpnlmmjjaaHAx5
import Derived.Test.YtbbafhpnlmmjjaaHAx6
namespace Go.Proofs.Ytbbafhpnlmmjjaa.HA
open Go.RowKit Go.Proofs.YtbbafhpnlmmjjaaW.PrintWords Go.Proofs.YtbbafhpnlmmjjaaW.PrintLast Go.Proofs.YtbbafhpnlmmjjaaW.PrintMore
attribute [local go_sem] max2_int min2_int max_two min_two max_three min_three max_four min_four   -- for this text's walks alone
set_option linter.unusedVariables false
set_option linter.unusedSimpArgs false

/-! ### rampartlaw18_GroupFlows: function 6 -/
mutual
def rampartlaw18_GroupFlows.j1 : Nat → List (S37) → Int → Int → Int → Int → Int → Option (Bool)
 | 0, _, _, _, _, _, _ => none
 | k + 1, x5, x184000, x184001, x184002, x184003, x184004 => rampartlaw18_GroupFlows.l1 k x5 0 x184000 x184001 x184002 x184003 x184004
def rampartlaw18_GroupFlows.l1 : Nat → List (S37) → Int → Int → Int → Int → Int → Int → Option (Bool)
 | 0, _, _, _, _, _, _, _ => none
 | k + 1, x5, x7, x184000, x184001, x184002, x184003, x184004 => if x7 < 2 then ((group_Pick.f k x5 x184000 x184001 x184002 x184003 x184004 x7).bind fun t191 => (rampartlaw18_GroupFlows.l2 k x5 x7 t191 0 0 x184000 x184001 x184002 x184003 x184004)) else ((rampartlaw18_awake.f k).bind fun t199 => (some t199))
def rampartlaw18_GroupFlows.l2 : Nat → List (S37) → Int → List Int → Int → Int → Int → Int → Int → Int → Int → Option (Bool)
 | 0, _, _, _, _, _, _, _, _, _, _ => none
 | k + 1, x5, x7, x8, x9, x10, x184000, x184001, x184002, x184003, x184004 => if x10 < (x5.length : Int) then (if 0 ≤ x10 then (if ((rd_T37 x5 x10).f7) = 0 then (rampartlaw18_GroupFlows.j4 k x5 x7 x8 x9 x10 true x184000 x184001 x184002 x184003 x184004) else (rampartlaw18_GroupFlows.j4 k x5 x7 x8 x9 x10 (((rd_T37 x5 x10).f7) == (wrap64 (1 + x7))) x184000 x184001 x184002 x184003 x184004)) else (none)) else (if x9 = (x8.length : Int) then (rampartlaw18_GroupFlows.l1 k x5 (wrap64 (x7 + 1)) x184000 x184001 x184002 x184003 x184004) else (some false))
def rampartlaw18_GroupFlows.j4 : Nat → List (S37) → Int → List Int → Int → Int → Bool → Int → Int → Int → Int → Int → Option (Bool)
 | 0, _, _, _, _, _, _, _, _, _, _, _ => none
 | k + 1, x5, x7, x8, x9, x10, x11, x184000, x184001, x184002, x184003, x184004 => if 0 ≤ x10 then (if x10 < (x5.length : Int) then ((group_Fits.f k ((rd_T37 x5 x10).f0) ((rd_T37 x5 x10).f1) ((rd_T37 x5 x10).f2.f0) ((rd_T37 x5 x10).f2.f1) ((rd_T37 x5 x10).f3.f0) ((rd_T37 x5 x10).f3.f1) ((rd_T37 x5 x10).f4.f0) ((rd_T37 x5 x10).f4.f1) ((rd_T37 x5 x10).f5.f0) ((rd_T37 x5 x10).f5.f1) ((rd_T37 x5 x10).f6) ((rd_T37 x5 x10).f7) ((rd_T37 x5 x10).f8) ((rd_T37 x5 x10).f9) ((rd_T37 x5 x10).f10) x184000 x184001 x184002 x184003 x184004 x7).bind fun t197 => (if (t197 != x11) = true then (some false) else (if x11 = true then (if x9 ≥ (x8.length : Int) then (rampartlaw18_GroupFlows.j5 k x5 x7 x8 x9 x10 x11 true x184000 x184001 x184002 x184003 x184004) else (if 0 ≤ x9 then (if x9 < (x8.length : Int) then (rampartlaw18_GroupFlows.j5 k x5 x7 x8 x9 x10 x11 ((rd x8 x9) != x10) x184000 x184001 x184002 x184003 x184004) else (none)) else (none))) else (rampartlaw18_GroupFlows.j5 k x5 x7 x8 x9 x10 x11 false x184000 x184001 x184002 x184003 x184004)))) else (none)) else (none)
def rampartlaw18_GroupFlows.j5 : Nat → List (S37) → Int → List Int → Int → Int → Bool → Bool → Int → Int → Int → Int → Int → Option (Bool)
 | 0, _, _, _, _, _, _, _, _, _, _, _, _ => none
 | k + 1, x5, x7, x8, x9, x10, x11, x95, x184000, x184001, x184002, x184003, x184004 => if x95 = true then (some false) else (if x11 = true then (rampartlaw18_GroupFlows.l2 k x5 x7 x8 (wrap64 (x9 + 1)) (wrap64 (x10 + 1)) x184000 x184001 x184002 x184003 x184004) else (rampartlaw18_GroupFlows.l2 k x5 x7 x8 x9 (wrap64 (x10 + 1)) x184000 x184001 x184002 x184003 x184004))
def rampartlaw18_GroupFlows.l0 : Nat → List Int → List (S37) → Int → Int → Int → Int → Int → Int → Option (Bool)
 | 0, _, _, _, _, _, _, _, _ => none
 | k + 1, x0, x5, x6, x184000, x184001, x184002, x184003, x184004 => if x6 < (x0.length : Int) then (if x6 < 30 then (if 0 ≤ x6 then ((rampartlaw00_Place.f (rd x0 x6) 3).bind fun t187 => (if x5.length < 703687441776 then (rampartlaw18_GroupFlows.l0 k x0 (x5 ++ [(⟨1, 0, (⟨false, ([] : List (S48))⟩ : S31), (⟨false, ([] : List (S50))⟩ : S34), (⟨false, ([] : List (S48))⟩ : S31), (⟨false, ([] : List (S50))⟩ : S34), false, t187, ([] : List (S54)), wrap64 (1 + x6), 1⟩ : S37)]) (wrap64 (x6 + 1)) x184000 x184001 x184002 x184003 x184004) else (none))) else (none)) else (rampartlaw18_GroupFlows.j1 k x5 x184000 x184001 x184002 x184003 x184004)) else (rampartlaw18_GroupFlows.j1 k x5 x184000 x184001 x184002 x184003 x184004)
end
def rampartlaw18_GroupFlows.f (k : Nat) (l0 : List Int) (a1_0 : Int) (a1_1 : Int) (a1_2 : Int) (a1_3 : Int) (a1_4 : Int) : Option (Bool) := (rampartlaw00_Place.f a1_3 65536).bind fun t184 => ((rampartlaw00_Place.f a1_4 65536).bind fun t185 => (rampartlaw18_GroupFlows.l0 k l0 ([] : List (S37)) 0 6 a1_1 a1_2 t184 t185))
theorem rampartlaw18_GroupFlows.mono_l : ∀ k, (∀ y0 y1 y2 y3 y4 y5, LeO (rampartlaw18_GroupFlows.j1 k y0 y1 y2 y3 y4 y5) (rampartlaw18_GroupFlows.j1 (k + 1) y0 y1 y2 y3 y4 y5)) ∧ (∀ y0 y1 y2 y3 y4 y5 y6, LeO (rampartlaw18_GroupFlows.l1 k y0 y1 y2 y3 y4 y5 y6) (rampartlaw18_GroupFlows.l1 (k + 1) y0 y1 y2 y3 y4 y5 y6)) ∧ (∀ y0 y1 y2 y3 y4 y5 y6 y7 y8 y9, LeO (rampartlaw18_GroupFlows.l2 k y0 y1 y2 y3 y4 y5 y6 y7 y8 y9) (rampartlaw18_GroupFlows.l2 (k + 1) y0 y1 y2 y3 y4 y5 y6 y7 y8 y9)) ∧ (∀ y0 y1 y2 y3 y4 y5 y6 y7 y8 y9 y10, LeO (rampartlaw18_GroupFlows.j4 k y0 y1 y2 y3 y4 y5 y6 y7 y8 y9 y10) (rampartlaw18_GroupFlows.j4 (k + 1) y0 y1 y2 y3 y4 y5 y6 y7 y8 y9 y10)) ∧ (∀ y0 y1 y2 y3 y4 y5 y6 y7 y8 y9 y10 y11, LeO (rampartlaw18_GroupFlows.j5 k y0 y1 y2 y3 y4 y5 y6 y7 y8 y9 y10 y11) (rampartlaw18_GroupFlows.j5 (k + 1) y0 y1 y2 y3 y4 y5 y6 y7 y8 y9 y10 y11)) ∧ (∀ y0 y1 y2 y3 y4 y5 y6 y7, LeO (rampartlaw18_GroupFlows.l0 k y0 y1 y2 y3 y4 y5 y6 y7) (rampartlaw18_GroupFlows.l0 (k + 1) y0 y1 y2 y3 y4 y5 y6 y7))
 | 0 => ⟨fun _ _ _ _ _ _ r h => by simp [rampartlaw18_GroupFlows.j1] at h, fun _ _ _ _ _ _ _ r h => by simp [rampartlaw18_GroupFlows.l1] at h, fun _ _ _ _ _ _ _ _ _ _ r h => by simp [rampartlaw18_GroupFlows.l2] at h, fun _ _ _ _ _ _ _ _ _ _ _ r h => by simp [rampartlaw18_GroupFlows.j4] at h, fun _ _ _ _ _ _ _ _ _ _ _ _ r h => by simp [rampartlaw18_GroupFlows.j5] at h, fun _ _ _ _ _ _ _ _ r h => by simp [rampartlaw18_GroupFlows.l0] at h⟩
 | k + 1 => by
  obtain ⟨ih0, ih1, ih2, ih3, ih4, ih5⟩ := rampartlaw18_GroupFlows.mono_l k
  refine ⟨?_, ?_, ?_, ?_, ?_, ?_⟩
  ·
   intro y0 y1 y2 y3 y4 y5
   unfold rampartlaw18_GroupFlows.j1
   repeat' first
   | (with_reducible exact ih0 _ _ _ _ _ _)
   | (with_reducible exact ih1 _ _ _ _ _ _ _)
   | (with_reducible exact ih2 _ _ _ _ _ _ _ _ _ _)
   | (with_reducible exact ih3 _ _ _ _ _ _ _ _ _ _ _)
   | (with_reducible exact ih4 _ _ _ _ _ _ _ _ _ _ _ _)
   | (with_reducible exact ih5 _ _ _ _ _ _ _ _)
   | (with_reducible exact group_Fits.mono _ _ _ _ _ _ _ _ _ _ _ _ _ _ _ _ _ _ _ _ _ _)
   | (with_reducible exact group_Pick.mono _ _ _ _ _ _ _ _)
   | (with_reducible exact rampartlaw18_awake.mono _)
   | (with_reducible exact LeO.refl _)
   | (with_reducible exact LeO.none _)
   | (with_reducible refine LeO.ite ?_ ?_)
   | (with_reducible refine LeO.bind ?_ (fun _ => ?_))
   | exact ih0 _ _ _ _ _ _
   | exact ih1 _ _ _ _ _ _ _
   | exact ih2 _ _ _ _ _ _ _ _ _ _
   | exact ih3 _ _ _ _ _ _ _ _ _ _ _
   | exact ih4 _ _ _ _ _ _ _ _ _ _ _ _
   | exact ih5 _ _ _ _ _ _ _ _
   | exact group_Fits.mono _ _ _ _ _ _ _ _ _ _ _ _ _ _ _ _ _ _ _ _ _ _
   | exact group_Pick.mono _ _ _ _ _ _ _ _
   | exact rampartlaw18_awake.mono _
   | exact LeO.none _
   | refine LeO.ite ?_ ?_
   | refine LeO.bind ?_ (fun _ => ?_)
  ·
   intro y0 y1 y2 y3 y4 y5 y6
   unfold rampartlaw18_GroupFlows.l1
   repeat' first
   | (with_reducible exact ih0 _ _ _ _ _ _)
   | (with_reducible exact ih1 _ _ _ _ _ _ _)
   | (with_reducible exact ih2 _ _ _ _ _ _ _ _ _ _)
   | (with_reducible exact ih3 _ _ _ _ _ _ _ _ _ _ _)
   | (with_reducible exact ih4 _ _ _ _ _ _ _ _ _ _ _ _)
   | (with_reducible exact ih5 _ _ _ _ _ _ _ _)
   | (with_reducible exact group_Fits.mono _ _ _ _ _ _ _ _ _ _ _ _ _ _ _ _ _ _ _ _ _ _)
   | (with_reducible exact group_Pick.mono _ _ _ _ _ _ _ _)
   | (with_reducible exact rampartlaw18_awake.mono _)
   | (with_reducible exact LeO.refl _)
   | (with_reducible exact LeO.none _)
   | (with_reducible refine LeO.ite ?_ ?_)
   | (with_reducible refine LeO.bind ?_ (fun _ => ?_))
   | exact ih0 _ _ _ _ _ _
   | exact ih1 _ _ _ _ _ _ _
   | exact ih2 _ _ _ _ _ _ _ _ _ _
   | exact ih3 _ _ _ _ _ _ _ _ _ _ _
   | exact ih4 _ _ _ _ _ _ _ _ _ _ _ _
   | exact ih5 _ _ _ _ _ _ _ _
   | exact group_Fits.mono _ _ _ _ _ _ _ _ _ _ _ _ _ _ _ _ _ _ _ _ _ _
   | exact group_Pick.mono _ _ _ _ _ _ _ _
   | exact rampartlaw18_awake.mono _
   | exact LeO.none _
   | refine LeO.ite ?_ ?_
   | refine LeO.bind ?_ (fun _ => ?_)
  ·
   intro y0 y1 y2 y3 y4 y5 y6 y7 y8 y9
   unfold rampartlaw18_GroupFlows.l2
   repeat' first
   | (with_reducible exact ih0 _ _ _ _ _ _)
   | (with_reducible exact ih1 _ _ _ _ _ _ _)
   | (with_reducible exact ih2 _ _ _ _ _ _ _ _ _ _)
   | (with_reducible exact ih3 _ _ _ _ _ _ _ _ _ _ _)
   | (with_reducible exact ih4 _ _ _ _ _ _ _ _ _ _ _ _)
   | (with_reducible exact ih5 _ _ _ _ _ _ _ _)
   | (with_reducible exact group_Fits.mono _ _ _ _ _ _ _ _ _ _ _ _ _ _ _ _ _ _ _ _ _ _)
   | (with_reducible exact group_Pick.mono _ _ _ _ _ _ _ _)
   | (with_reducible exact rampartlaw18_awake.mono _)
   | (with_reducible exact LeO.refl _)
   | (with_reducible exact LeO.none _)
   | (with_reducible refine LeO.ite ?_ ?_)
   | (with_reducible refine LeO.bind ?_ (fun _ => ?_))
   | exact ih0 _ _ _ _ _ _
   | exact ih1 _ _ _ _ _ _ _
   | exact ih2 _ _ _ _ _ _ _ _ _ _
   | exact ih3 _ _ _ _ _ _ _ _ _ _ _
   | exact ih4 _ _ _ _ _ _ _ _ _ _ _ _
   | exact ih5 _ _ _ _ _ _ _ _
   | exact group_Fits.mono _ _ _ _ _ _ _ _ _ _ _ _ _ _ _ _ _ _ _ _ _ _
   | exact group_Pick.mono _ _ _ _ _ _ _ _
   | exact rampartlaw18_awake.mono _
   | exact LeO.none _
   | refine LeO.ite ?_ ?_
   | refine LeO.bind ?_ (fun _ => ?_)
  ·
   intro y0 y1 y2 y3 y4 y5 y6 y7 y8 y9 y10
   unfold rampartlaw18_GroupFlows.j4
   repeat' first
   | (with_reducible exact ih0 _ _ _ _ _ _)
   | (with_reducible exact ih1 _ _ _ _ _ _ _)
   | (with_reducible exact ih2 _ _ _ _ _ _ _ _ _ _)
   | (with_reducible exact ih3 _ _ _ _ _ _ _ _ _ _ _)
   | (with_reducible exact ih4 _ _ _ _ _ _ _ _ _ _ _ _)
   | (with_reducible exact ih5 _ _ _ _ _ _ _ _)
   | (with_reducible exact group_Fits.mono _ _ _ _ _ _ _ _ _ _ _ _ _ _ _ _ _ _ _ _ _ _)
   | (with_reducible exact group_Pick.mono _ _ _ _ _ _ _ _)
   | (with_reducible exact rampartlaw18_awake.mono _)
   | (with_reducible exact LeO.refl _)
   | (with_reducible exact LeO.none _)
   | (with_reducible refine LeO.ite ?_ ?_)
   | (with_reducible refine LeO.bind ?_ (fun _ => ?_))
   | exact ih0 _ _ _ _ _ _
   | exact ih1 _ _ _ _ _ _ _
   | exact ih2 _ _ _ _ _ _ _ _ _ _
   | exact ih3 _ _ _ _ _ _ _ _ _ _ _
   | exact ih4 _ _ _ _ _ _ _ _ _ _ _ _
   | exact ih5 _ _ _ _ _ _ _ _
   | exact group_Fits.mono _ _ _ _ _ _ _ _ _ _ _ _ _ _ _ _ _ _ _ _ _ _
   | exact group_Pick.mono _ _ _ _ _ _ _ _
   | exact rampartlaw18_awake.mono _
   | exact LeO.none _
   | refine LeO.ite ?_ ?_
   | refine LeO.bind ?_ (fun _ => ?_)
  ·
   intro y0 y1 y2 y3 y4 y5 y6 y7 y8 y9 y10 y11
   unfold rampartlaw18_GroupFlows.j5
   repeat' first
   | (with_reducible exact ih0 _ _ _ _ _ _)
   | (with_reducible exact ih1 _ _ _ _ _ _ _)
   | (with_reducible exact ih2 _ _ _ _ _ _ _ _ _ _)
   | (with_reducible exact ih3 _ _ _ _ _ _ _ _ _ _ _)
   | (with_reducible exact ih4 _ _ _ _ _ _ _ _ _ _ _ _)
   | (with_reducible exact ih5 _ _ _ _ _ _ _ _)
   | (with_reducible exact group_Fits.mono _ _ _ _ _ _ _ _ _ _ _ _ _ _ _ _ _ _ _ _ _ _)
   | (with_reducible exact group_Pick.mono _ _ _ _ _ _ _ _)
   | (with_reducible exact rampartlaw18_awake.mono _)
   | (with_reducible exact LeO.refl _)
   | (with_reducible exact LeO.none _)
   | (with_reducible refine LeO.ite ?_ ?_)
   | (with_reducible refine LeO.bind ?_ (fun _ => ?_))
   | exact ih0 _ _ _ _ _ _
   | exact ih1 _ _ _ _ _ _ _
   | exact ih2 _ _ _ _ _ _ _ _ _ _
   | exact ih3 _ _ _ _ _ _ _ _ _ _ _
   | exact ih4 _ _ _ _ _ _ _ _ _ _ _ _
   | exact ih5 _ _ _ _ _ _ _ _
   | exact group_Fits.mono _ _ _ _ _ _ _ _ _ _ _ _ _ _ _ _ _ _ _ _ _ _
   | exact group_Pick.mono _ _ _ _ _ _ _ _
   | exact rampartlaw18_awake.mono _
   | exact LeO.none _
   | refine LeO.ite ?_ ?_
   | refine LeO.bind ?_ (fun _ => ?_)
  ·
   intro y0 y1 y2 y3 y4 y5 y6 y7
   unfold rampartlaw18_GroupFlows.l0
   repeat' first
   | (with_reducible exact ih0 _ _ _ _ _ _)
   | (with_reducible exact ih1 _ _ _ _ _ _ _)
   | (with_reducible exact ih2 _ _ _ _ _ _ _ _ _ _)
   | (with_reducible exact ih3 _ _ _ _ _ _ _ _ _ _ _)
   | (with_reducible exact ih4 _ _ _ _ _ _ _ _ _ _ _ _)
   | (with_reducible exact ih5 _ _ _ _ _ _ _ _)
   | (with_reducible exact group_Fits.mono _ _ _ _ _ _ _ _ _ _ _ _ _ _ _ _ _ _ _ _ _ _)
   | (with_reducible exact group_Pick.mono _ _ _ _ _ _ _ _)
   | (with_reducible exact rampartlaw18_awake.mono _)
   | (with_reducible exact LeO.refl _)
   | (with_reducible exact LeO.none _)
   | (with_reducible refine LeO.ite ?_ ?_)
   | (with_reducible refine LeO.bind ?_ (fun _ => ?_))
   | exact ih0 _ _ _ _ _ _
   | exact ih1 _ _ _ _ _ _ _
   | exact ih2 _ _ _ _ _ _ _ _ _ _
   | exact ih3 _ _ _ _ _ _ _ _ _ _ _
   | exact ih4 _ _ _ _ _ _ _ _ _ _ _ _
   | exact ih5 _ _ _ _ _ _ _ _
   | exact group_Fits.mono _ _ _ _ _ _ _ _ _ _ _ _ _ _ _ _ _ _ _ _ _ _
   | exact group_Pick.mono _ _ _ _ _ _ _ _
   | exact rampartlaw18_awake.mono _
   | exact LeO.none _
   | refine LeO.ite ?_ ?_
   | refine LeO.bind ?_ (fun _ => ?_)
theorem rampartlaw18_GroupFlows.mono : ∀ a0 a1 a2 a3 a4 a5 k, LeO (rampartlaw18_GroupFlows.f k a0 a1 a2 a3 a4 a5) (rampartlaw18_GroupFlows.f (k + 1) a0 a1 a2 a3 a4 a5) := by
 intro a0 a1 a2 a3 a4 a5 k
 obtain ⟨ih0, ih1, ih2, ih3, ih4, ih5⟩ := rampartlaw18_GroupFlows.mono_l k
 unfold rampartlaw18_GroupFlows.f
 repeat' first
   | (with_reducible exact ih0 _ _ _ _ _ _)
   | (with_reducible exact ih1 _ _ _ _ _ _ _)
   | (with_reducible exact ih2 _ _ _ _ _ _ _ _ _ _)
   | (with_reducible exact ih3 _ _ _ _ _ _ _ _ _ _ _)
   | (with_reducible exact ih4 _ _ _ _ _ _ _ _ _ _ _ _)
   | (with_reducible exact ih5 _ _ _ _ _ _ _ _)
   | (with_reducible exact group_Fits.mono _ _ _ _ _ _ _ _ _ _ _ _ _ _ _ _ _ _ _ _ _ _)
   | (with_reducible exact group_Pick.mono _ _ _ _ _ _ _ _)
   | (with_reducible exact rampartlaw18_awake.mono _)
   | (with_reducible exact LeO.refl _)
   | (with_reducible exact LeO.none _)
   | (with_reducible refine LeO.ite ?_ ?_)
   | (with_reducible refine LeO.bind ?_ (fun _ => ?_))
   | exact ih0 _ _ _ _ _ _
   | exact ih1 _ _ _ _ _ _ _
   | exact ih2 _ _ _ _ _ _ _ _ _ _
   | exact ih3 _ _ _ _ _ _ _ _ _ _ _
   | exact ih4 _ _ _ _ _ _ _ _ _ _ _ _
   | exact ih5 _ _ _ _ _ _ _ _
   | exact group_Fits.mono _ _ _ _ _ _ _ _ _ _ _ _ _ _ _ _ _ _ _ _ _ _
   | exact group_Pick.mono _ _ _ _ _ _ _ _
   | exact rampartlaw18_awake.mono _
   | exact LeO.none _
   | refine LeO.ite ?_ ?_
   | refine LeO.bind ?_ (fun _ => ?_)
def rampartlaw18_GroupFlows.T1 : Bool × List (List Nat × List Nat) := (true, [([], []), ([0], [0]), ([1], [1]), ([], []), ([3], [3]), ([4, 2], [4]), ([0, 1, 3, 4], []), ([6, 5, 0, 1, 3, 4], [6]), ([0, 1, 2, 3, 4, 6, 7], []), ([8, 2, 7, 0, 1, 2, 3, 4, 6, 7], [2, 8]), ([0, 1, 2, 3, 4, 5, 6, 7, 8, 9], []), ([10, 5, 9, 0, 1, 2, 3, 4, 5, 6, 7, 8, 9], [5, 10])])
def rampartlaw18_GroupFlows.B1 : List Nat := [0, 1, 3, 0, 8, 31, 27, 127, 255, 511, 1023, 2047]
theorem rampartlaw18_GroupFlows.tab1 : rtab .any (opsOf Try.f6 1) = rampartlaw18_GroupFlows.T1 := by kernel_rfl
theorem rampartlaw18_GroupFlows.bits1 : waitsOk rampartlaw18_GroupFlows.T1.2 rampartlaw18_GroupFlows.B1 = true := by kernel_rfl
def rampartlaw18_GroupFlows.T16 : Bool × List (List Nat × List Nat) := (true, [([], []), ([], []), ([0, 1], [0, 1]), ([2], [2]), ([], []), ([], []), ([3, 4, 5], [3, 4, 5]), ([], []), ([6, 7], [6, 7])])
def rampartlaw18_GroupFlows.B16 : List Nat := [0, 0, 3, 7, 0, 0, 63, 0, 255]
theorem rampartlaw18_GroupFlows.tab16 : rtab .any (opsOf Try.f6 16) = rampartlaw18_GroupFlows.T16 := by kernel_rfl
theorem rampartlaw18_GroupFlows.bits16 : waitsOk rampartlaw18_GroupFlows.T16.2 rampartlaw18_GroupFlows.B16 = true := by kernel_rfl
set_option maxHeartbeats 8000000 in
set_option maxRecDepth 100000 in
theorem rampartlaw18_GroupFlows.calls (k : Nat) (A0 : Option Addr) (c0 : Nat) (l0 : List Int) (a1_0 : Int) (a1_1 : Int) (a1_2 : Int) (a1_3 : Int) (a1_4 : Int) (r : Bool) (w : World) (hr0 : Kd.C (Kd.int .i64) w A0 l0.length l0) (hc0 : l0.length ≤ c0) (h : rampartlaw18_GroupFlows.f k l0 a1_0 a1_1 a1_2 a1_3 a1_4 = some r) (HR0 : r = true) :
  Calls Try.prog 6 #[.slice A0 l0.length c0, .agg #[.int .i64 a1_0, .int .u32 a1_1, .int .u32 a1_2, .int .i64 a1_3, .int .i64 a1_4]] w fun e w' => e = .returned (.bool r) ∧ Below w.heap.size w w' := by
 have HR := Aside0.mk HR0
 clear HR0
 have hu25 := Try.underlying25
 have hu37 := Try.underlying37
 have HR0 := Aside0.mk hr0
 have HC0 := Aside0.mk hc0
 clear hr0 hc0
 have HB := Aside0.mk (Below.refl w.heap.size w)
 have H : ((rampartlaw00_Place.f a1_3 65536).bind fun t184 => ((rampartlaw00_Place.f a1_4 65536).bind fun t185 => (rampartlaw18_GroupFlows.l0 k l0 ([] : List (S37)) 0 6 a1_1 a1_2 t184 t185))) = some r := h
 clear h
 replace H := Option.bind_eq_some_iff.mp H
 obtain ⟨t184, A30, H⟩ := H
 replace H : ((rampartlaw00_Place.f a1_4 65536).bind fun t185 => (rampartlaw18_GroupFlows.l0 k l0 ([] : List (S37)) 0 6 a1_1 a1_2 t184 t185)) = some r := H
 have A3 := Aside0.mk A30
 clear A30
 replace H := Option.bind_eq_some_iff.mp H
 obtain ⟨t185, A40, H⟩ := H
 replace H : (rampartlaw18_GroupFlows.l0 k l0 ([] : List (S37)) 0 6 a1_1 a1_2 t184 t185) = some r := H
 have A4 := Aside0.mk A40
 clear A40
 have HC5 := Aside0.mk H
 clear H
 go_enter Try.func6, Try.ntmps6
 try go_wp2_with (first | ((with_reducible refine gate_dst (N := 3) rfl ?_); (try (refine gate_guard (by rfl) ?_; dsimp only)); refine box_event ?hg (N := 3) ?hd (cs := #[.int .i64 a1_0, .int .u32 a1_1, .int .u32 a1_2, .int .i64 a1_3, .int .i64 a1_4]) (t := 25) ?hr ?_; (case hd => rfl); (case hg => rfl); (case hr => first | (go_simp; done) | (go_simp; rfl)); intro gb183 hg w6 hbox hb; have n0_ := Aside0.mk (below_step (by repeat (first | (with_reducible first | exact HB.out | apply below_alloc | apply pw_below_drewN | apply below_drew1) | exact HB.out)) hb); have n1_ := Aside0.mk (hbox); have n2_ := Aside0.mk ((by rw [hg]; exact (below_size (by repeat (first | (with_reducible first | exact HB.out | apply below_alloc | apply pw_below_drewN | apply below_drew1) | exact HB.out))) : w.heap.size ≤ gb183)); have n3_ := Aside0.mk ((by rw [hg]; exact (below_size (by repeat (first | (with_reducible first | exact HB.out | apply below_alloc | apply pw_below_drewN | apply below_drew1) | exact HB.out))) : w.heap.size ≤ gb183)); clear HB; have HB := n0_; have BK183 := n1_; have GW183 := n2_; have GE183 := n3_; clear n0_ n1_ n2_ n3_; clear hb hbox hg))
 have n0_ := Aside0.mk (blk_drew BK183.out)
 have n1_ := Aside0.mk (below_drew1 HB.out)
 clear BK183
 clear HB
 have BK183 := n0_
 have HB := n1_
 clear n0_ n1_
 refine start_ (n := 12) (S := fun w' => w'.cell? ⟨gb183, 0, none⟩ = some (.int .i64 a1_0) ∧ w'.cell? ⟨gb183, 1, none⟩ = some (.int .u32 a1_1) ∧ w'.cell? ⟨gb183, 2, none⟩ = some (.int .u32 a1_2) ∧ w'.cell? ⟨gb183, 3, none⟩ = some (.int .i64 a1_3) ∧ w'.cell? ⟨gb183, 4, none⟩ = some (.int .i64 a1_4)) (ds := [7, 9, 11]) #[false, false, false, false, false, false, false, false, false, false, false, false] (by kernel_rfl) rfl rfl ⟨(blk_cell BK183.out 0).trans rfl, (blk_cell BK183.out 1).trans rfl, (blk_cell BK183.out 2).trans rfl, (blk_cell BK183.out 3).trans rfl, (blk_cell BK183.out 4).trans rfl⟩ (fun hHeld => ?_); refine with_tabW rampartlaw18_GroupFlows.tab1 rampartlaw18_GroupFlows.bits1 (fun HT_ HW_ => ?_)
 generalize w6.drew = w7 at BK183 HB hHeld ⊢
 refine pure_ (i := 0) (N := some 12) (v := ?_) (a' := ?_) #[true, false, false, false, false, false, false, false, false, false, false, false] rfl rfl (any_of HT_.out (by kernel_rfl)) (fun _ _ _ h => h) (Or.inl ⟨by rfl, ?_⟩) ?_ ?_
 rotate_left
 ·
  intro w'
  go_simp
  with_reducible rfl
 rotate_left
 ·
  simp only [Act.put, List.setIfInBounds_toArray, List.set_cons_zero, List.set_cons_succ, i64_w, i32_w]
  rfl
 refine pure_ (i := 3) (N := some 15) (v := ?_) (a' := ?_) #[true, false, false, true, false, false, false, false, false, false, false, false] rfl rfl (any_of HT_.out (by kernel_rfl)) (fun _ _ _ h => h) (Or.inl ⟨by rfl, ?_⟩) ?_ ?_
 rotate_left
 ·
  intro w'
  go_simp
  with_reducible rfl
 rotate_left
 ·
  simp only [Act.put, List.setIfInBounds_toArray, List.set_cons_zero, List.set_cons_succ, i64_w, i32_w]
  rfl
 refine take_ (i := 1) (N := some 13) (v := ?_) (a' := ?_) #[true, true, false, true, false, false, false, false, false, false, false, false] rfl rfl (take_ofW HT_.out HW_.out (by kernel_rfl)) (fun _ _ _ h => h) (Or.inl ⟨by rfl, ?_⟩) hHeld ?_ ?_
 rotate_left
 ·
  rintro w' ⟨s0, s1, s2, s3, s4⟩
  go_simp
  with_reducible rfl
 rotate_left
 ·
  simp only [Act.put, List.setIfInBounds_toArray, List.set_cons_zero, List.set_cons_succ, i64_w, i32_w]
  rfl
 refine take_ (i := 4) (N := some 16) (v := ?_) (a' := ?_) #[true, true, false, true, true, false, false, false, false, false, false, false] rfl rfl (take_ofW HT_.out HW_.out (by kernel_rfl)) (fun _ _ _ h => h) (Or.inl ⟨by rfl, ?_⟩) hHeld ?_ ?_
 rotate_left
 ·
  rintro w' ⟨s0, s1, s2, s3, s4⟩
  go_simp
  with_reducible rfl
 rotate_left
 ·
  simp only [Act.put, List.setIfInBounds_toArray, List.set_cons_zero, List.set_cons_succ, i64_w, i32_w]
  rfl
 refine pure_ (i := 6) (N := some 18) (v := ?_) (a' := ?_) #[true, true, false, true, true, false, true, false, false, false, false, false] rfl rfl (any_of HT_.out (by kernel_rfl)) (fun _ _ _ h => h) (Or.inl ⟨by rfl, ?_⟩) ?_ ?_
 rotate_left
 ·
  intro w'
  go_simp
  with_reducible rfl
 rotate_left
 ·
  simp only [Act.put, List.setIfInBounds_toArray, List.set_cons_zero, List.set_cons_succ, i64_w, i32_w]
  rfl
 refine one_ (i := 2) (N := some 14) #[true, true, true, true, true, false, true, false, false, false, false, false] rfl rfl (one_of HT_.out (by kernel_rfl)) (by decide) (fun K hK => ?_)
 refine goes_ Try.func15 (by kernel_rfl) rfl #[.int .i64 a1_3, .int .i64 65536] (by rfl) rfl rfl (by (try simp only [List.map_toArray, List.map_cons, List.map_nil]); first | done | rfl | (simp only [List.length_drop, List.length_take]; rfl)) ?_
 with_reducible refine (rampartlaw00_Place.calls a1_3 65536 t184 _ A3.out).mono ?_
 rintro e w' ⟨rfl, ⟨nd, rfl⟩⟩
 refine ⟨_, rfl, ?_⟩
 refine hK.out _ _ ⟨(blk_cell BK183.out 0).trans rfl, (blk_cell BK183.out 1).trans rfl, (blk_cell BK183.out 2).trans rfl, (blk_cell BK183.out 3).trans rfl, (blk_cell BK183.out 4).trans rfl⟩ (fun hHeld => ?_)
 clear hK K
 refine norm_ (a' := ?_) ?_ ?_
 rotate_left
 ·
  show Act.put _ (some 14) _ = _
  simp only [Act.put, List.setIfInBounds_toArray, List.set_cons_zero, List.set_cons_succ, i64_w, i32_w]
  rfl
 refine one_ (i := 5) (N := some 17) #[true, true, true, true, true, true, true, false, false, false, false, false] rfl rfl (one_of HT_.out (by kernel_rfl)) (by decide) (fun K hK => ?_)
 refine goes_ Try.func15 (by kernel_rfl) rfl #[.int .i64 a1_4, .int .i64 65536] (by rfl) rfl rfl (by (try simp only [List.map_toArray, List.map_cons, List.map_nil]); first | done | rfl | (simp only [List.length_drop, List.length_take]; rfl)) ?_
 with_reducible refine (rampartlaw00_Place.calls a1_4 65536 t185 _ A4.out).mono ?_
 rintro e w' ⟨rfl, ⟨nd, rfl⟩⟩
 refine ⟨_, rfl, ?_⟩
 refine hK.out _ _ ⟨(blk_cell BK183.out 0).trans rfl, (blk_cell BK183.out 1).trans rfl, (blk_cell BK183.out 2).trans rfl, (blk_cell BK183.out 3).trans rfl, (blk_cell BK183.out 4).trans rfl⟩ (fun hHeld => ?_)
 clear hK K
 refine norm_ (a' := ?_) ?_ ?_
 rotate_left
 ·
  show Act.put _ (some 17) _ = _
  simp only [Act.put, List.setIfInBounds_toArray, List.set_cons_zero, List.set_cons_succ, i64_w, i32_w]
  rfl
 refine last_ (i := 7) (N := none) #[true, true, true, true, true, true, true, true, false, false, false, false] rfl rfl (one_of HT_.out (by kernel_rfl)) (by decide) (fun K hK => ?_)
 have hs8 : w7.cell? ⟨gb183, 0, none⟩ = some (.int .i64 a1_0) := (blk_cell BK183.out 0).trans rfl
 have hfs8 := blk_frozen BK183.out 0
 refine skip_ (w1 := ?_) (by rfl) rfl ?_ ?_
 rotate_left
 ·
  go_simp
  rfl
 refine hK.out _ _ ?_
 clear hK K
 refine pure_ (i := 8) (N := some 19) (v := ?_) (a' := ?_) #[true, true, true, true, true, true, true, true, true, false, false, false] rfl rfl (any_of HT_.out (by kernel_rfl)) (fun _ _ _ h => h) (Or.inl ⟨by rfl, ?_⟩) ?_ ?_
 rotate_left
 ·
  intro w'
  go_simp
  with_reducible rfl
 rotate_left
 ·
  simp only [Act.put, List.setIfInBounds_toArray, List.set_cons_zero, List.set_cons_succ, i64_w, i32_w]
  rfl
 refine last_ (i := 9) (N := none) #[true, true, true, true, true, true, true, true, true, true, false, false] rfl rfl (one_of HT_.out (by kernel_rfl)) (by decide) (fun K hK => ?_)
 have hs9 : w7.cell? ⟨gb183, 3, none⟩ = some (.int .i64 a1_3) := (blk_cell BK183.out 3).trans rfl
 have hfs9 := blk_frozen BK183.out 3
 refine skip_ (w1 := ?_) (by rfl) rfl ?_ ?_
 rotate_left
 ·
  go_simp
  rfl
 refine hK.out _ _ ?_
 clear hK K
 refine pure_ (i := 10) (N := some 20) (v := ?_) (a' := ?_) #[true, true, true, true, true, true, true, true, true, true, true, false] rfl rfl (any_of HT_.out (by kernel_rfl)) (fun _ _ _ h => h) (Or.inl ⟨by rfl, ?_⟩) ?_ ?_
 rotate_left
 ·
  intro w'
  go_simp
  with_reducible rfl
 rotate_left
 ·
  simp only [Act.put, List.setIfInBounds_toArray, List.set_cons_zero, List.set_cons_succ, i64_w, i32_w]
  rfl
 refine last_ (i := 11) (N := none) #[true, true, true, true, true, true, true, true, true, true, true, true] rfl rfl (one_of HT_.out (by kernel_rfl)) (by decide) (fun K hK => ?_)
 have hs10 : w7.cell? ⟨gb183, 4, none⟩ = some (.int .i64 a1_4) := (blk_cell BK183.out 4).trans rfl
 have hfs10 := blk_frozen BK183.out 4
 refine skip_ (w1 := ?_) (by rfl) rfl ?_ ?_
 rotate_left
 ·
  go_simp
  rfl
 refine hK.out _ _ ?_
 clear hK K
 refine done_ (done_of HT_.out (by kernel_rfl)) ?_
 go_upto_block 0 with (fail)
 go_cut [5] (fun v5 wc => ∃ (kq : Nat) (x5_4 : List (S37)), Aside0 (rampartlaw18_GroupFlows.j1 kq x5_4 6 a1_1 a1_2 t184 t185 = some r) ∧ Aside0 (kq ≤ k) ∧ Aside0 (Kd.S k37 37 wc w.heap.size (fun _ => True) v5 x5_4) ∧ Aside0 (wc.heap[gb183]? = some (.cells #[.int .i64 6, .int .u32 a1_1, .int .u32 a1_2, .int .i64 t184, .int .i64 t185] 25 (0, 0))) ∧ Aside0 (Below w.heap.size w wc))
 case first =>
  have H := HC5.out
  clear HC5
  have H' := Aside0.mk H
  clear H
  go_wp2
  go_loopg [5, 6] k (fun kq v5 v6 w' => ∃ (x5_1 : List (S37)) (x6_1 : Int), v6 = .int .i64 x6_1 ∧ Aside0 (rampartlaw18_GroupFlows.l0 kq l0 x5_1 x6_1 6 a1_1 a1_2 t184 t185 = some r) ∧ Aside0 (kq ≤ k) ∧ Aside0 (Kd.S k37 37 w' w.heap.size (fun _ => True) v5 x5_1) ∧ Aside0 (w'.heap[gb183]? = some (.cells #[.int .i64 6, .int .u32 a1_1, .int .u32 a1_2, .int .i64 t184, .int .i64 t185] 25 (0, 0))) ∧ Aside0 (Below w.heap.size w w'))
  case atStart => exact ⟨(([] : List (S37))), (0), (by first | rfl | (simp; done) | (simp [*]; done)), H', ⟨Nat.le_refl _⟩, ⟨by first | exact Kd.S_nil _ _ _ _ _ | exact Kd.N_nil _ _ _ _ _ | exact Kd.V_nil _ _ _ _ _ | exact Kd.Q_nil _ _ _ _ _ | exact Kd.R_nil _ _ _ _ _⟩, ⟨by (with_reducible repeat (first | refine blk_drewN ?_ _ | refine blk_drew ?_ | refine blk_alloc ?_ _)); refine blk_put (cs := #[.int .i64 6, .int .u32 a1_1, .int .u32 a1_2, .int .i64 t184, .int .i64 a1_4]) ?_ 4 _ rfl; (with_reducible repeat (first | refine blk_drewN ?_ _ | refine blk_drew ?_ | refine blk_alloc ?_ _)); refine blk_put (cs := #[.int .i64 6, .int .u32 a1_1, .int .u32 a1_2, .int .i64 a1_3, .int .i64 a1_4]) ?_ 3 _ rfl; (with_reducible repeat (first | refine blk_drewN ?_ _ | refine blk_drew ?_ | refine blk_alloc ?_ _)); refine blk_put (cs := #[.int .i64 a1_0, .int .u32 a1_1, .int .u32 a1_2, .int .i64 a1_3, .int .i64 a1_4]) ?_ 0 _ rfl; (with_reducible repeat (first | refine blk_drewN ?_ _ | refine blk_drew ?_ | refine blk_alloc ?_ _)); exact BK183.out⟩, ⟨by repeat (first | (with_reducible first | exact HB.out | apply below_alloc | apply pw_below_drewN | apply below_drew1 | refine below_set ?_ GE183.out) | exact HB.out)⟩⟩
  case round =>
   clear H'
   try clear c1
   try clear p2
   try clear c6
   obtain ⟨x5_1, x6_1, rfl, HA, HK1, HO_5, BK183, HB⟩ := hrel
   cases gk with
   | zero => exact absurd HA.out (by simp [rampartlaw18_GroupFlows.l0])
   | succ k1 =>
    have H := HA.out
    clear HA
    simp only [rampartlaw18_GroupFlows.l0] at H
    by_cases c11 : x6_1 < (l0.length : Int)
    ·
     rw [if_pos c11] at H
     have c11b0 : decide (x6_1 < (l0.length : Int)) = true := decide_eq_true c11
     clear c11
     (first | rw [c11b0] | (simp only [i64_w, i32_w]; rw [c11b0]) | skip)
     by_cases c12 : x6_1 < 30
     ·
      rw [if_pos c12] at H
      have c12b0 : decide (x6_1 < 30) = true := decide_eq_true c12
      clear c12
      by_cases c13 : 0 ≤ x6_1
      ·
       rw [if_pos c13] at H
       have c13b0 : decide (0 ≤ x6_1) = true := decide_eq_true c13
       clear c13
       replace H := Option.bind_eq_some_iff.mp H
       obtain ⟨t187, A140, H⟩ := H
       replace H : (if x5_1.length < 703687441776 then (rampartlaw18_GroupFlows.l0 k1 l0 (x5_1 ++ [(⟨1, 0, (⟨false, ([] : List (S48))⟩ : S31), (⟨false, ([] : List (S50))⟩ : S34), (⟨false, ([] : List (S48))⟩ : S31), (⟨false, ([] : List (S50))⟩ : S34), false, t187, ([] : List (S54)), wrap64 (1 + x6_1), 1⟩ : S37)]) (wrap64 (x6_1 + 1)) 6 a1_1 a1_2 t184 t185) else (none)) = some r := H
       have A14 := Aside0.mk A140
       clear A140
       by_cases c15 : x5_1.length < 703687441776
       ·
        rw [if_pos c15] at H
        have LMc15 := Aside0.mk c15
        clear c15
        obtain ⟨y188, hy188⟩ : ∃ y_ : List (S37), y_ = (x5_1 ++ [(⟨1, 0, (⟨false, ([] : List (S48))⟩ : S31), (⟨false, ([] : List (S50))⟩ : S34), (⟨false, ([] : List (S48))⟩ : S31), (⟨false, ([] : List (S50))⟩ : S34), false, t187, ([] : List (S54)), wrap64 (1 + x6_1), 1⟩ : S37)]) := ⟨_, rfl⟩
        replace H : (rampartlaw18_GroupFlows.l0 k1 l0 y188 (wrap64 (x6_1 + 1)) 6 a1_1 a1_2 t184 t185) = some r := by first | (rw [hy188]; with_reducible exact H) | (have H2_ := (Option.bind_some _ _).symm.trans H; rw [hy188]; with_reducible exact H2_) | (have H2_ := (Option.bind_some _ _).symm.trans H; with_reducible exact H2_) | with_reducible exact H | (rw [hy188]; exact H) | exact H
        have Ny188 := Aside0.mk hy188
        clear hy188
        have H' := Aside0.mk H
        clear H
        have p186 : 0 ≤ (x6_1 : Int) := of_decide_eq_true (by first | (with_reducible assumption) | assumption)
        have q186 : x6_1 < (l0.length : Int) := of_decide_eq_true (by first | (with_reducible assumption) | assumption)
        obtain ⟨ad186, e186, hx186_0⟩ := Kd.at_int HR0.out x6_1 p186 q186
        cases e186
        replace hx186_0 := (HB.out.cell (World.block_lt_of_cell? w _ hx186_0)).trans hx186_0
        replace p186 := eq_true p186
        replace q186 := eq_true q186
        go_wp2_with (first | ((with_reducible refine gate_callee (f := 15) rfl ?_); refine goesL_ (some 36) rfl rfl Try.func15 (by kernel_rfl) rfl #[.int .i64 (rd l0 x6_1), .int .i64 3] rfl (by (try simp only [List.map_toArray, List.map_cons, List.map_nil]); first | done | rfl | (simp only [List.length_drop, List.length_take]; rfl)) ?_; (with_reducible refine (rampartlaw00_Place.calls (rd l0 x6_1) 3 t187 _ A14.out).mono ?_); rintro e w' ⟨rfl, ⟨nd, rfl⟩⟩; refine ⟨_, rfl, ?_⟩) | ((with_reducible refine gate_builtin (b := .append) (xs := #[.tmp 31, .tmp 40]) rfl ?_); (try (refine gate_guard (by rfl) ?_; dsimp only)); at_builtin; refine Kd.S_append k37 (w0 := w) w.heap.size rfl (.tmp 31) (.tmp 40) 22 37 (.agg #[(.int .i64 0), (.int .i64 0), (.bool false), (.slice none 0 0), (.bool false), (.slice none 0 0), (.bool false), (.slice none 0 0), (.bool false), (.slice none 0 0), (.bool false), (.int .i64 0), (.slice none 0 0), (.int .i64 0), (.int .i64 0)]) 200 rfl Try.underlying22 info37 rfl (by decide) (by omega) u5 x5_1 (⟨1, 0, (⟨false, ([] : List (S48))⟩ : S31), (⟨false, ([] : List (S50))⟩ : S34), (⟨false, ([] : List (S48))⟩ : S31), (⟨false, ([] : List (S50))⟩ : S34), false, t187, ([] : List (S54)), wrap64 (1 + x6_1), 1⟩ : S37) [.int .i64 1, .int .i64 0, .bool false, .slice none 0 0, .bool false, .slice none 0 0, .bool false, .slice none 0 0, .bool false, .slice none 0 0, .bool false, .int .i64 t187, .slice none 0 0, .int .i64 (wrap64 (1 + x6_1)), .int .i64 1] (fun _ => True) (fun _ => False) rfl rfl ?aP (fun k_ hk_ => hk_.elim) ?aF ?aO ?aB ?aS ?aL ?_; (case aP => exact k37_mkM _ _ _ (⟨1, 0, (⟨false, ([] : List (S48))⟩ : S31), (⟨false, ([] : List (S50))⟩ : S34), (⟨false, ([] : List (S48))⟩ : S31), (⟨false, ([] : List (S50))⟩ : S34), false, t187, ([] : List (S54)), wrap64 (1 + x6_1), 1⟩ : S37) (Kd.R_nil _ _ _ _ _) (Kd.R_nil _ _ _ _ _) (Kd.R_nil _ _ _ _ _) (Kd.R_nil _ _ _ _ _) (Kd.R_nil _ _ _ _ _)); (case aB => exact (by repeat (first | (with_reducible first | exact HB.out | apply below_alloc | apply pw_below_drewN | apply below_drew1 | refine below_set ?_ GE183.out) | exact HB.out))); (case aF => exact (fun _ _ => trivial)); (case aO => exact (by (with_reducible repeat (first | apply Kd.S_alloc | apply Kd.S_drewN | apply Kd.S_drew)); exact Kd.S_mono HO_5.out (fun k_ hk => ⟨trivial, fun e_ => e_⟩))); (case aS => exact (below_size (by repeat (first | (with_reducible first | exact HB.out | apply below_alloc | apply pw_below_drewN | apply below_drew1 | refine below_set ?_ GE183.out) | exact HB.out)))); (case aL => have := LMc15.out; omega); intro v189 w16 ho hb hg hat; rw [← Ny188.out] at ho; have n0_ := Aside0.mk (blk_grown (g := gb183) (o := .cells #[.int .i64 6, .int .u32 a1_1, .int .u32 a1_2, .int .i64 t184, .int .i64 t185] 25 (0, 0)) (by (with_reducible repeat (first | refine blk_drewN ?_ _ | refine blk_drew ?_ | refine blk_alloc ?_ _)); exact BK183.out) hg (Kd.S_ne HO_5.out BK183.out (by decide))); have n1_ := Aside0.mk (hb); have n2_ := Aside0.mk (ho); clear BK183; clear HB; clear HO_5; have BK183 := n0_; have HB := n1_; have HO190 := n2_; clear n0_ n1_ n2_; clear ho hb hg hat))
        go_roundg k1
        case measure => have := HK1.out; omega
        case rel => exact ⟨(y188), (wrap64 (x6_1 + 1)), (by first | rfl | (simp; done) | (simp [*]; done)), H', ⟨by have := HK1.out; omega⟩, ⟨by (with_reducible repeat (first | apply Kd.S_alloc | apply Kd.S_drewN | apply Kd.S_drew)); exact HO190.out⟩, ⟨by (with_reducible repeat (first | refine blk_drewN ?_ _ | refine blk_drew ?_ | refine blk_alloc ?_ _)); exact BK183.out⟩, ⟨by repeat (first | (with_reducible first | exact HB.out | apply below_alloc | apply pw_below_drewN | apply below_drew1 | refine below_set ?_ GE183.out) | exact HB.out)⟩⟩
       ·
        rw [if_neg c15] at H
        exact absurd H (by simp)
      ·
       rw [if_neg c13] at H
       exact absurd H (by simp)
     ·
      rw [if_neg c12] at H
      have c12b0 : decide (x6_1 < 30) = false := decide_eq_false c12
      clear c12
      have H' := Aside0.mk H
      clear H
      go_wp2
      go_meet
      case rel => exact ⟨_, (x5_1), H', ⟨by have := HK1.out; first | omega | exact Nat.le_refl _⟩, ⟨by (with_reducible repeat (first | apply Kd.S_alloc | apply Kd.S_drewN | apply Kd.S_drew)); exact HO_5.out⟩, ⟨by (with_reducible repeat (first | refine blk_drewN ?_ _ | refine blk_drew ?_ | refine blk_alloc ?_ _)); exact BK183.out⟩, ⟨by repeat (first | (with_reducible first | exact HB.out | apply below_alloc | apply pw_below_drewN | apply below_drew1 | refine below_set ?_ GE183.out) | exact HB.out)⟩⟩
    ·
     rw [if_neg c11] at H
     have c11b0 : decide (x6_1 < (l0.length : Int)) = false := decide_eq_false c11
     clear c11
     (first | rw [c11b0] | (simp only [i64_w, i32_w]; rw [c11b0]) | skip)
     have H' := Aside0.mk H
     clear H
     go_wp2
     go_meet
     case rel => exact ⟨_, (x5_1), H', ⟨by have := HK1.out; first | omega | exact Nat.le_refl _⟩, ⟨by (with_reducible repeat (first | apply Kd.S_alloc | apply Kd.S_drewN | apply Kd.S_drew)); exact HO_5.out⟩, ⟨by (with_reducible repeat (first | refine blk_drewN ?_ _ | refine blk_drew ?_ | refine blk_alloc ?_ _)); exact BK183.out⟩, ⟨by repeat (first | (with_reducible first | exact HB.out | apply below_alloc | apply pw_below_drewN | apply below_drew1 | refine below_set ?_ GE183.out) | exact HB.out)⟩⟩
 case rest =>
  clear HC5
  try clear c1
  try clear p1
  try clear q1
  try clear hx1
  try clear p2
  try clear c6
  try clear p6
  try clear c11
  try clear c11b0
  try clear c12
  try clear c12b0
  try clear c13
  try clear c13b0
  try clear c15
  try clear hx186_0
  try clear p186
  try clear p2
  try clear q186
  obtain ⟨kq, x5_4, HA, HJ4, HO_5, BK183, HB⟩ := hcut
  cases kq with
  | zero => exact absurd HA.out (by simp [rampartlaw18_GroupFlows.j1])
  | succ kj4 =>
   have H := HA.out
   clear HA
   simp only [rampartlaw18_GroupFlows.j1] at H
   have H' := Aside0.mk H
   clear H
   go_wp2
   go_loopg [7] kj4 (fun kq v7 w' => ∃ (x7_2 : Int), v7 = .int .i64 x7_2 ∧ Aside0 (rampartlaw18_GroupFlows.l1 kq x5_4 x7_2 6 a1_1 a1_2 t184 t185 = some r) ∧ Aside0 (kq ≤ kj4) ∧ Aside0 (Kd.S k37 37 w' w.heap.size (fun _ => True) u5 x5_4) ∧ Aside0 (w'.heap[gb183]? = some (.cells #[.int .i64 6, .int .u32 a1_1, .int .u32 a1_2, .int .i64 t184, .int .i64 t185] 25 (0, 0))) ∧ Aside0 (Below w.heap.size w w'))
   case atStart => exact ⟨(0), (by first | rfl | (simp; done) | (simp [*]; done)), H', ⟨Nat.le_refl _⟩, ⟨by (with_reducible repeat (first | apply Kd.S_alloc | apply Kd.S_drewN | apply Kd.S_drew)); exact HO_5.out⟩, ⟨by (with_reducible repeat (first | refine blk_drewN ?_ _ | refine blk_drew ?_ | refine blk_alloc ?_ _)); exact BK183.out⟩, ⟨by repeat (first | (with_reducible first | exact HB.out | apply below_alloc | apply pw_below_drewN | apply below_drew1 | refine below_set ?_ GE183.out) | exact HB.out)⟩⟩
   case round =>
    clear H'
    try clear c1
    try clear p1
    try clear q1
    try clear hx1
    try clear p2
    try clear c6
    try clear p6
    try clear c11
    try clear c11b0
    try clear c12
    try clear c12b0
    try clear c13
    try clear c13b0
    try clear c15
    try clear hx186_0
    try clear p1
    try clear p186
    try clear p2
    try clear p6
    try clear q1
    try clear q186
    obtain ⟨x7_2, rfl, HA, HK2, HO_5, BK183, HB⟩ := hrel
    cases gk with
    | zero => exact absurd HA.out (by simp [rampartlaw18_GroupFlows.l1])
    | succ k2 =>
     have H := HA.out
     clear HA
     simp only [rampartlaw18_GroupFlows.l1] at H
     by_cases c17 : x7_2 < 2
     ·
      rw [if_pos c17] at H
      have c17b0 : decide (x7_2 < 2) = true := decide_eq_true c17
      clear c17
      replace H := Option.bind_eq_some_iff.mp H
      obtain ⟨t191, A180, H⟩ := H
      replace H : (rampartlaw18_GroupFlows.l2 k2 x5_4 x7_2 t191 0 0 6 a1_1 a1_2 t184 t185) = some r := H
      have A18 := Aside0.mk A180
      clear A180
      have H' := Aside0.mk H
      clear H
      have hcz19_0 : wr.cell? ⟨gb183, 0, none⟩ = some (.int .i64 6) := (blk_cell BK183.out 0).trans rfl
      have hcz19_1 : wr.cell? ⟨gb183, 1, none⟩ = some (.int .u32 a1_1) := (blk_cell BK183.out 1).trans rfl
      have hcz19_2 : wr.cell? ⟨gb183, 2, none⟩ = some (.int .u32 a1_2) := (blk_cell BK183.out 2).trans rfl
      have hcz19_3 : wr.cell? ⟨gb183, 3, none⟩ = some (.int .i64 t184) := (blk_cell BK183.out 3).trans rfl
      have hcz19_4 : wr.cell? ⟨gb183, 4, none⟩ = some (.int .i64 t185) := (blk_cell BK183.out 4).trans rfl
      have hfz19_0 := blk_frozen BK183.out 0
      have hfz19_1 := blk_frozen BK183.out 1
      have hfz19_2 := blk_frozen BK183.out 2
      have hfz19_3 := blk_frozen BK183.out 3
      have hfz19_4 := blk_frozen BK183.out 4
      obtain ⟨Ao20, co20, eo20⟩ := Kd.S_slice HO_5.out
      subst eo20
      go_wp2_with (first | ((with_reducible refine gate_callee (f := 12) rfl ?_); refine goesL_ (some 49) rfl rfl Try.func12 (by kernel_rfl) rfl #[.slice Ao20 x5_4.length co20, .agg #[.int .i64 6, .int .u32 a1_1, .int .u32 a1_2, .int .i64 t184, .int .i64 t185], .int .i64 x7_2] rfl (by (try simp only [List.map_toArray, List.map_cons, List.map_nil]); first | done | rfl | (simp only [List.length_drop, List.length_take]; rfl)) ?_; (with_reducible refine (group_Pick.calls k2 _ _ x5_4 6 a1_1 a1_2 t184 t185 x7_2 t191 _ ?side1 ?side2 A18.out).mono ?_); (case side1 => repeat (first | exact (Kd.S_reads' HO_5.out).2.2 | (with_reducible refine Kd.C_alloc ?_ _) | (with_reducible refine Kd.C_drewN ?_ _) | (with_reducible refine Kd.C_drew ?_))); (case side2 => exact (Kd.S_reads' HO_5.out).2.1); rintro e w21 ⟨v192, rfl, ho0, hb⟩; refine ⟨_, rfl, ?_⟩; have n0_ := Aside0.mk (Kd.S_below (by (with_reducible repeat (first | apply Kd.S_alloc | apply Kd.S_drewN | apply Kd.S_drew)); exact HO_5.out) hb); have n1_ := Aside0.mk (Kd.R_lower ho0 (below_size (by repeat (first | (with_reducible first | exact HB.out | apply below_alloc | apply pw_below_drewN | apply below_drew1 | refine below_set ?_ GE183.out) | exact HB.out)))); have n2_ := Aside0.mk (blk_below (g := gb183) (o := .cells #[.int .i64 6, .int .u32 a1_1, .int .u32 a1_2, .int .i64 t184, .int .i64 t185] 25 (0, 0)) (by (with_reducible repeat (first | refine blk_drewN ?_ _ | refine blk_drew ?_ | refine blk_alloc ?_ _)); exact BK183.out) hb); have n3_ := Aside0.mk (below_step (by repeat (first | (with_reducible first | exact HB.out | apply below_alloc | apply pw_below_drewN | apply below_drew1 | refine below_set ?_ GE183.out) | exact HB.out)) hb); clear HO_5; clear BK183; clear HB; have HO_5 := n0_; have HO193 := n1_; have BK183 := n2_; have HB := n3_; clear n0_ n1_ n2_ n3_; (try clear hb); (try clear hb2); (try clear hk); (try clear hi); (try clear ho0)))
      go_loopg [9, 10] k2 (fun kq v9 v10 w' => ∃ (x9_3 : Int) (x10_3 : Int), v9 = .int .i64 x9_3 ∧ v10 = .int .i64 x10_3 ∧ Aside0 (rampartlaw18_GroupFlows.l2 kq x5_4 x7_2 t191 x9_3 x10_3 6 a1_1 a1_2 t184 t185 = some r) ∧ Aside0 (kq ≤ k2) ∧ Aside0 (Kd.S k37 37 w' w.heap.size (fun _ => True) (.slice Ao20 x5_4.length co20) x5_4) ∧ Aside0 (Kd.R (Kd.int .i64) 3 w' w.heap.size (fun _ => True) v192 t191) ∧ Aside0 (w'.heap[gb183]? = some (.cells #[.int .i64 6, .int .u32 a1_1, .int .u32 a1_2, .int .i64 t184, .int .i64 t185] 25 (0, 0))) ∧ Aside0 (Below w.heap.size w w'))
      case atStart => exact ⟨(0), (0), (by first | rfl | (simp; done) | (simp [*]; done)), (by first | rfl | (simp; done) | (simp [*]; done)), H', ⟨Nat.le_refl _⟩, ⟨by (with_reducible repeat (first | apply Kd.S_alloc | apply Kd.S_drewN | apply Kd.S_drew)); exact HO_5.out⟩, ⟨by (with_reducible repeat (first | apply Kd.R_alloc | apply Kd.R_drewN | apply Kd.R_drew)); exact HO193.out⟩, ⟨by (with_reducible repeat (first | refine blk_drewN ?_ _ | refine blk_drew ?_ | refine blk_alloc ?_ _)); exact BK183.out⟩, ⟨by repeat (first | (with_reducible first | exact HB.out | apply below_alloc | apply pw_below_drewN | apply below_drew1 | refine below_set ?_ GE183.out) | exact HB.out)⟩⟩
      case round =>
       clear H'
       try clear c1
       try clear p1
       try clear q1
       try clear hx1
       try clear p2
       try clear c6
       try clear p6
       try clear c11
       try clear c11b0
       try clear c12
       try clear c12b0
       try clear c13
       try clear c13b0
       try clear c15
       try clear c17
       try clear c17b0
       try clear p18
       try clear q18
       try clear hx18
       try clear hcz19_0
       try clear hcz19_1
       try clear hcz19_2
       try clear hcz19_3
       try clear hcz19_4
       try clear hfz19_0
       try clear hfz19_1
       try clear hfz19_2
       try clear hfz19_3
       try clear hfz19_4
       try clear hx186_0
       try clear p1
       try clear p186
       try clear p2
       try clear p6
       try clear q1
       try clear q186
       obtain ⟨x9_3, x10_3, rfl, rfl, HA, HK3, HO_5, HO_8, BK183, HB⟩ := hrel
       cases gk with
       | zero => exact absurd HA.out (by simp [rampartlaw18_GroupFlows.l2])
       | succ k3 =>
        have H := HA.out
        clear HA
        simp only [rampartlaw18_GroupFlows.l2] at H
        by_cases c22 : x10_3 < (x5_4.length : Int)
        ·
         rw [if_pos c22] at H
         have c22b0 : decide (x10_3 < (x5_4.length : Int)) = true := decide_eq_true c22
         clear c22
         have HC23 := Aside0.mk H
         clear H
         go_upto_region 15 with (fail)
         go_cut [11] (fun v11 wc => ∃ (kq : Nat) (x11_22 : Bool), v11 = .bool x11_22 ∧ Aside0 (rampartlaw18_GroupFlows.j4 kq x5_4 x7_2 t191 x9_3 x10_3 x11_22 6 a1_1 a1_2 t184 t185 = some r) ∧ Aside0 (kq ≤ k3) ∧ Aside0 (Kd.S k37 37 wc w.heap.size (fun _ => True) (.slice Ao20 x5_4.length co20) x5_4) ∧ Aside0 (Kd.R (Kd.int .i64) 3 wc w.heap.size (fun _ => True) v192 t191) ∧ Aside0 (wc.heap[gb183]? = some (.cells #[.int .i64 6, .int .u32 a1_1, .int .u32 a1_2, .int .i64 t184, .int .i64 t185] 25 (0, 0))) ∧ Aside0 (Below w.heap.size w wc))
         case first =>
          have H := HC23.out
          clear HC23
          by_cases c24 : 0 ≤ x10_3
          ·
           rw [if_pos c24] at H
           have c24b0 : decide (0 ≤ x10_3) = true := decide_eq_true c24
           clear c24
           (first | rw [c24b0] | (simp only [i64_w, i32_w]; rw [c24b0]) | skip)
           by_cases c25 : ((rd_T37 x5_4 x10_3).f7) = 0
           ·
            rw [if_pos c25] at H
            have c25b0 : (((rd_T37 x5_4 x10_3).f7) == 0) = true := beq_iff_eq.mpr c25
            have c25b1 : (((rd_T37 x5_4 x10_3).f7) != 0) = false := bne_eq_false_iff_eq.mpr c25
            clear c25
            have H' := Aside0.mk H
            clear H
            have p194 : 0 ≤ (x10_3 : Int) := of_decide_eq_true (by first | (with_reducible assumption) | assumption)
            have q194 : x10_3 < (x5_4.length : Int) := of_decide_eq_true (by first | (with_reducible assumption) | assumption)
            obtain ⟨ad194, A194_3, c194_3, A194_5, c194_5, A194_7, c194_7, A194_9, c194_9, A194_12, c194_12, e194, hx194_0, hx194_1, hx194_2, hx194_3, hx194_4, hx194_5, hx194_6, hx194_7, hx194_8, hx194_9, hx194_10, hx194_11, hx194_12, hx194_13, hx194_14, hl194_3, hi194_3, hl194_5, hi194_5, hl194_7, hi194_7, hl194_9, hi194_9, hl194_12, hi194_12⟩ := at_T37 (Kd.S_reads' HO_5.out).2.2 x10_3 p194 q194
            cases e194
            obtain ⟨ce194, hce194, hMe194, hcc194⟩ := Kd.S_get HO_5.out z37 x10_3 p194 (by first | exact q194 | exact of_decide_eq_true (by first | (with_reducible assumption) | assumption) | (have e_ := (Kd.S_reads' HO_5.out).1; omega))
            obtain ⟨ve194_3, ve194_5, ve194_7, ve194_9, ve194_12, rfl, ge194_3, ge194_5, ge194_7, ge194_9, ge194_12⟩ := k37_openM hMe194
            have hv194_3 := hcc194 3 _ rfl
            rw [add_field _ _ 3 (by omega)] at hv194_3
            replace hv194_3 := Option.some.inj (hv194_3.symm.trans hx194_3)
            rw [hv194_3] at ge194_3
            have HL194_3 := Aside0.mk (show Kd.R k48 48 _ _ _ _ ((rd_T37 x5_4 x10_3).f2.f1) from ge194_3)
            clear hv194_3 ge194_3
            have hv194_5 := hcc194 5 _ rfl
            rw [add_field _ _ 5 (by omega)] at hv194_5
            replace hv194_5 := Option.some.inj (hv194_5.symm.trans hx194_5)
            rw [hv194_5] at ge194_5
            have HL194_5 := Aside0.mk (show Kd.R k50 50 _ _ _ _ ((rd_T37 x5_4 x10_3).f3.f1) from ge194_5)
            clear hv194_5 ge194_5
            have hv194_7 := hcc194 7 _ rfl
            rw [add_field _ _ 7 (by omega)] at hv194_7
            replace hv194_7 := Option.some.inj (hv194_7.symm.trans hx194_7)
            rw [hv194_7] at ge194_7
            have HL194_7 := Aside0.mk (show Kd.R k48 48 _ _ _ _ ((rd_T37 x5_4 x10_3).f4.f1) from ge194_7)
            clear hv194_7 ge194_7
            have hv194_9 := hcc194 9 _ rfl
            rw [add_field _ _ 9 (by omega)] at hv194_9
            replace hv194_9 := Option.some.inj (hv194_9.symm.trans hx194_9)
            rw [hv194_9] at ge194_9
            have HL194_9 := Aside0.mk (show Kd.R k50 50 _ _ _ _ ((rd_T37 x5_4 x10_3).f5.f1) from ge194_9)
            clear hv194_9 ge194_9
            have hv194_12 := hcc194 12 _ rfl
            rw [add_field _ _ 12 (by omega)] at hv194_12
            replace hv194_12 := Option.some.inj (hv194_12.symm.trans hx194_12)
            rw [hv194_12] at ge194_12
            have HL194_12 := Aside0.mk (show Kd.R k54 54 _ _ _ _ ((rd_T37 x5_4 x10_3).f8) from ge194_12)
            clear hv194_12 ge194_12
            clear hcc194 hce194
            have HR194_3 := Aside0.mk hi194_3
            have HC194_3 := Aside0.mk hl194_3
            clear hi194_3 hl194_3
            have HR194_5 := Aside0.mk hi194_5
            have HC194_5 := Aside0.mk hl194_5
            clear hi194_5 hl194_5
            have HR194_7 := Aside0.mk hi194_7
            have HC194_7 := Aside0.mk hl194_7
            clear hi194_7 hl194_7
            have HR194_9 := Aside0.mk hi194_9
            have HC194_9 := Aside0.mk hl194_9
            clear hi194_9 hl194_9
            have HR194_12 := Aside0.mk hi194_12
            have HC194_12 := Aside0.mk hl194_12
            clear hi194_12 hl194_12
            replace p194 := eq_true p194
            replace q194 := eq_true q194
            go_wp2
            go_meet
            case rel => exact ⟨_, (true), (by first | rfl | (simp; done) | (simp [*]; done)), H', ⟨by have := HJ4.out; have := HK2.out; have := HK3.out; first | omega | exact Nat.le_refl _⟩, ⟨by (with_reducible repeat (first | apply Kd.S_alloc | apply Kd.S_drewN | apply Kd.S_drew)); exact HO_5.out⟩, ⟨by (with_reducible repeat (first | apply Kd.R_alloc | apply Kd.R_drewN | apply Kd.R_drew)); exact HO_8.out⟩, ⟨by (with_reducible repeat (first | refine blk_drewN ?_ _ | refine blk_drew ?_ | refine blk_alloc ?_ _)); exact BK183.out⟩, ⟨by repeat (first | (with_reducible first | exact HB.out | apply below_alloc | apply pw_below_drewN | apply below_drew1 | refine below_set ?_ GE183.out) | exact HB.out)⟩⟩
           ·
            rw [if_neg c25] at H
            have c25b0 : (((rd_T37 x5_4 x10_3).f7) == 0) = false := beq_eq_false_iff_ne.mpr c25
            have c25b1 : (((rd_T37 x5_4 x10_3).f7) != 0) = true := bne_iff_ne.mpr c25
            have H' := Aside0.mk H
            clear H
            have p194 : 0 ≤ (x10_3 : Int) := of_decide_eq_true (by first | (with_reducible assumption) | assumption)
            have q194 : x10_3 < (x5_4.length : Int) := of_decide_eq_true (by first | (with_reducible assumption) | assumption)
            obtain ⟨ad194, A194_3, c194_3, A194_5, c194_5, A194_7, c194_7, A194_9, c194_9, A194_12, c194_12, e194, hx194_0, hx194_1, hx194_2, hx194_3, hx194_4, hx194_5, hx194_6, hx194_7, hx194_8, hx194_9, hx194_10, hx194_11, hx194_12, hx194_13, hx194_14, hl194_3, hi194_3, hl194_5, hi194_5, hl194_7, hi194_7, hl194_9, hi194_9, hl194_12, hi194_12⟩ := at_T37 (Kd.S_reads' HO_5.out).2.2 x10_3 p194 q194
            cases e194
            obtain ⟨ce194, hce194, hMe194, hcc194⟩ := Kd.S_get HO_5.out z37 x10_3 p194 (by first | exact q194 | exact of_decide_eq_true (by first | (with_reducible assumption) | assumption) | (have e_ := (Kd.S_reads' HO_5.out).1; omega))
            obtain ⟨ve194_3, ve194_5, ve194_7, ve194_9, ve194_12, rfl, ge194_3, ge194_5, ge194_7, ge194_9, ge194_12⟩ := k37_openM hMe194
            have hv194_3 := hcc194 3 _ rfl
            rw [add_field _ _ 3 (by omega)] at hv194_3
            replace hv194_3 := Option.some.inj (hv194_3.symm.trans hx194_3)
            rw [hv194_3] at ge194_3
            have HL194_3 := Aside0.mk (show Kd.R k48 48 _ _ _ _ ((rd_T37 x5_4 x10_3).f2.f1) from ge194_3)
            clear hv194_3 ge194_3
            have hv194_5 := hcc194 5 _ rfl
            rw [add_field _ _ 5 (by omega)] at hv194_5
            replace hv194_5 := Option.some.inj (hv194_5.symm.trans hx194_5)
            rw [hv194_5] at ge194_5
            have HL194_5 := Aside0.mk (show Kd.R k50 50 _ _ _ _ ((rd_T37 x5_4 x10_3).f3.f1) from ge194_5)
            clear hv194_5 ge194_5
            have hv194_7 := hcc194 7 _ rfl
            rw [add_field _ _ 7 (by omega)] at hv194_7
            replace hv194_7 := Option.some.inj (hv194_7.symm.trans hx194_7)
            rw [hv194_7] at ge194_7
            have HL194_7 := Aside0.mk (show Kd.R k48 48 _ _ _ _ ((rd_T37 x5_4 x10_3).f4.f1) from ge194_7)
            clear hv194_7 ge194_7
            have hv194_9 := hcc194 9 _ rfl
            rw [add_field _ _ 9 (by omega)] at hv194_9
            replace hv194_9 := Option.some.inj (hv194_9.symm.trans hx194_9)
            rw [hv194_9] at ge194_9
            have HL194_9 := Aside0.mk (show Kd.R k50 50 _ _ _ _ ((rd_T37 x5_4 x10_3).f5.f1) from ge194_9)
            clear hv194_9 ge194_9
            have hv194_12 := hcc194 12 _ rfl
            rw [add_field _ _ 12 (by omega)] at hv194_12
            replace hv194_12 := Option.some.inj (hv194_12.symm.trans hx194_12)
            rw [hv194_12] at ge194_12
            have HL194_12 := Aside0.mk (show Kd.R k54 54 _ _ _ _ ((rd_T37 x5_4 x10_3).f8) from ge194_12)
            clear hv194_12 ge194_12
            clear hcc194 hce194
            have HR194_3 := Aside0.mk hi194_3
            have HC194_3 := Aside0.mk hl194_3
            clear hi194_3 hl194_3
            have HR194_5 := Aside0.mk hi194_5
            have HC194_5 := Aside0.mk hl194_5
            clear hi194_5 hl194_5
            have HR194_7 := Aside0.mk hi194_7
            have HC194_7 := Aside0.mk hl194_7
            clear hi194_7 hl194_7
            have HR194_9 := Aside0.mk hi194_9
            have HC194_9 := Aside0.mk hl194_9
            clear hi194_9 hl194_9
            have HR194_12 := Aside0.mk hi194_12
            have HC194_12 := Aside0.mk hl194_12
            clear hi194_12 hl194_12
            replace p194 := eq_true p194
            replace q194 := eq_true q194
            have p195 : 0 ≤ (x10_3 : Int) := of_decide_eq_true (by first | (with_reducible assumption) | assumption)
            have q195 : x10_3 < (x5_4.length : Int) := of_decide_eq_true (by first | (with_reducible assumption) | assumption)
            obtain ⟨ad195, A195_3, c195_3, A195_5, c195_5, A195_7, c195_7, A195_9, c195_9, A195_12, c195_12, e195, hx195_0, hx195_1, hx195_2, hx195_3, hx195_4, hx195_5, hx195_6, hx195_7, hx195_8, hx195_9, hx195_10, hx195_11, hx195_12, hx195_13, hx195_14, hl195_3, hi195_3, hl195_5, hi195_5, hl195_7, hi195_7, hl195_9, hi195_9, hl195_12, hi195_12⟩ := at_T37 (Kd.S_reads' HO_5.out).2.2 x10_3 p195 q195
            obtain rfl : ad194 = ad195 := (by injection e195)
            obtain ⟨ce195, hce195, hMe195, hcc195⟩ := Kd.S_get HO_5.out z37 x10_3 p195 (by first | exact q195 | exact of_decide_eq_true (by first | (with_reducible assumption) | assumption) | (have e_ := (Kd.S_reads' HO_5.out).1; omega))
            obtain ⟨ve195_3, ve195_5, ve195_7, ve195_9, ve195_12, rfl, ge195_3, ge195_5, ge195_7, ge195_9, ge195_12⟩ := k37_openM hMe195
            have hv195_3 := hcc195 3 _ rfl
            rw [add_field _ _ 3 (by omega)] at hv195_3
            replace hv195_3 := Option.some.inj (hv195_3.symm.trans hx195_3)
            rw [hv195_3] at ge195_3
            have HL195_3 := Aside0.mk (show Kd.R k48 48 _ _ _ _ ((rd_T37 x5_4 x10_3).f2.f1) from ge195_3)
            clear hv195_3 ge195_3
            have hv195_5 := hcc195 5 _ rfl
            rw [add_field _ _ 5 (by omega)] at hv195_5
            replace hv195_5 := Option.some.inj (hv195_5.symm.trans hx195_5)
            rw [hv195_5] at ge195_5
            have HL195_5 := Aside0.mk (show Kd.R k50 50 _ _ _ _ ((rd_T37 x5_4 x10_3).f3.f1) from ge195_5)
            clear hv195_5 ge195_5
            have hv195_7 := hcc195 7 _ rfl
            rw [add_field _ _ 7 (by omega)] at hv195_7
            replace hv195_7 := Option.some.inj (hv195_7.symm.trans hx195_7)
            rw [hv195_7] at ge195_7
            have HL195_7 := Aside0.mk (show Kd.R k48 48 _ _ _ _ ((rd_T37 x5_4 x10_3).f4.f1) from ge195_7)
            clear hv195_7 ge195_7
            have hv195_9 := hcc195 9 _ rfl
            rw [add_field _ _ 9 (by omega)] at hv195_9
            replace hv195_9 := Option.some.inj (hv195_9.symm.trans hx195_9)
            rw [hv195_9] at ge195_9
            have HL195_9 := Aside0.mk (show Kd.R k50 50 _ _ _ _ ((rd_T37 x5_4 x10_3).f5.f1) from ge195_9)
            clear hv195_9 ge195_9
            have hv195_12 := hcc195 12 _ rfl
            rw [add_field _ _ 12 (by omega)] at hv195_12
            replace hv195_12 := Option.some.inj (hv195_12.symm.trans hx195_12)
            rw [hv195_12] at ge195_12
            have HL195_12 := Aside0.mk (show Kd.R k54 54 _ _ _ _ ((rd_T37 x5_4 x10_3).f8) from ge195_12)
            clear hv195_12 ge195_12
            clear hcc195 hce195
            have HR195_3 := Aside0.mk hi195_3
            have HC195_3 := Aside0.mk hl195_3
            clear hi195_3 hl195_3
            have HR195_5 := Aside0.mk hi195_5
            have HC195_5 := Aside0.mk hl195_5
            clear hi195_5 hl195_5
            have HR195_7 := Aside0.mk hi195_7
            have HC195_7 := Aside0.mk hl195_7
            clear hi195_7 hl195_7
            have HR195_9 := Aside0.mk hi195_9
            have HC195_9 := Aside0.mk hl195_9
            clear hi195_9 hl195_9
            have HR195_12 := Aside0.mk hi195_12
            have HC195_12 := Aside0.mk hl195_12
            clear hi195_12 hl195_12
            replace p195 := eq_true p195
            replace q195 := eq_true q195
            have ea_ := Option.some.inj (hx194_3.symm.trans hx195_3)
            injection ea_ with ea_ en_ ec_
            subst ea_
            subst ec_
            clear en_
            have ea_ := Option.some.inj (hx194_5.symm.trans hx195_5)
            injection ea_ with ea_ en_ ec_
            subst ea_
            subst ec_
            clear en_
            have ea_ := Option.some.inj (hx194_7.symm.trans hx195_7)
            injection ea_ with ea_ en_ ec_
            subst ea_
            subst ec_
            clear en_
            have ea_ := Option.some.inj (hx194_9.symm.trans hx195_9)
            injection ea_ with ea_ en_ ec_
            subst ea_
            subst ec_
            clear en_
            have ea_ := Option.some.inj (hx194_12.symm.trans hx195_12)
            injection ea_ with ea_ en_ ec_
            subst ea_
            subst ec_
            clear en_
            go_wp2
            go_meet
            case rel => exact ⟨_, ((((rd_T37 x5_4 x10_3).f7) == (wrap64 (1 + x7_2)))), (by first | rfl | (simp; done) | (simp [*]; done)), H', ⟨by have := HJ4.out; have := HK2.out; have := HK3.out; first | omega | exact Nat.le_refl _⟩, ⟨by (with_reducible repeat (first | apply Kd.S_alloc | apply Kd.S_drewN | apply Kd.S_drew)); exact HO_5.out⟩, ⟨by (with_reducible repeat (first | apply Kd.R_alloc | apply Kd.R_drewN | apply Kd.R_drew)); exact HO_8.out⟩, ⟨by (with_reducible repeat (first | refine blk_drewN ?_ _ | refine blk_drew ?_ | refine blk_alloc ?_ _)); exact BK183.out⟩, ⟨by repeat (first | (with_reducible first | exact HB.out | apply below_alloc | apply pw_below_drewN | apply below_drew1 | refine below_set ?_ GE183.out) | exact HB.out)⟩⟩
          ·
           rw [if_neg c24] at H
           exact absurd H (by simp)
         case rest =>
          clear HC23
          try clear c1
          try clear p1
          try clear q1
          try clear hx1
          try clear c2
          try clear p2
          try clear c6
          try clear p6
          try clear c11
          try clear c11b0
          try clear c12
          try clear c12b0
          try clear c13
          try clear c13b0
          try clear c15
          try clear c17
          try clear c17b0
          try clear p18
          try clear q18
          try clear hx18
          try clear c19
          try clear p19
          try clear q19
          try clear hx19
          try clear c22
          try clear c22b0
          try clear c24
          try clear c24b0
          try clear c25
          try clear c25b0
          try clear c25b1
          try clear hcz19_0
          try clear hcz19_1
          try clear hcz19_2
          try clear hcz19_3
          try clear hcz19_4
          try clear hfz19_0
          try clear hfz19_1
          try clear hfz19_2
          try clear hfz19_3
          try clear hfz19_4
          try clear hx186_0
          try clear hx194_0
          try clear hx194_1
          try clear hx194_10
          try clear hx194_11
          try clear hx194_12
          try clear hx194_13
          try clear hx194_14
          try clear hx194_2
          try clear hx194_3
          try clear hx194_4
          try clear hx194_5
          try clear hx194_6
          try clear hx194_7
          try clear hx194_8
          try clear hx194_9
          try clear hx195_0
          try clear hx195_1
          try clear hx195_10
          try clear hx195_11
          try clear hx195_12
          try clear hx195_13
          try clear hx195_14
          try clear hx195_2
          try clear hx195_3
          try clear hx195_4
          try clear hx195_5
          try clear hx195_6
          try clear hx195_7
          try clear hx195_8
          try clear hx195_9
          try clear p1
          try clear p18
          try clear p186
          try clear p194
          try clear p195
          try clear p2
          try clear p6
          try clear q1
          try clear q18
          try clear q186
          try clear q194
          try clear q195
          obtain ⟨kq, x11_22, rfl, HA, HJ22, HO_5, HO_8, BK183, HB⟩ := hcut
          cases kq with
          | zero => exact absurd HA.out (by simp [rampartlaw18_GroupFlows.j4])
          | succ kj22 =>
           have H := HA.out
           clear HA
           simp only [rampartlaw18_GroupFlows.j4] at H
           by_cases c26 : 0 ≤ x10_3
           ·
            rw [if_pos c26] at H
            have c26b0 : decide (0 ≤ x10_3) = true := decide_eq_true c26
            clear c26
            by_cases c27 : x10_3 < (x5_4.length : Int)
            ·
             rw [if_pos c27] at H
             have c27b0 : decide (x10_3 < (x5_4.length : Int)) = true := decide_eq_true c27
             clear c27
             replace H := Option.bind_eq_some_iff.mp H
             obtain ⟨t197, A280, H⟩ := H
             replace H : (if (t197 != x11_22) = true then (some false) else (if x11_22 = true then (if x9_3 ≥ (t191.length : Int) then (rampartlaw18_GroupFlows.j5 kj22 x5_4 x7_2 t191 x9_3 x10_3 x11_22 true 6 a1_1 a1_2 t184 t185) else (if 0 ≤ x9_3 then (if x9_3 < (t191.length : Int) then (rampartlaw18_GroupFlows.j5 kj22 x5_4 x7_2 t191 x9_3 x10_3 x11_22 ((rd t191 x9_3) != x10_3) 6 a1_1 a1_2 t184 t185) else (none)) else (none))) else (rampartlaw18_GroupFlows.j5 kj22 x5_4 x7_2 t191 x9_3 x10_3 x11_22 false 6 a1_1 a1_2 t184 t185))) = some r := H
             have A28 := Aside0.mk A280
             clear A280
             by_cases c29 : (t197 != x11_22) = true
             ·
              rw [if_pos c29] at H
              have c29b0 : (t197 != x11_22) = true := c29
              (try (have c29b1 : decide (t197 = x11_22) = false := by simpa using c29))
              (try (have c29b2 : (t197 == x11_22) = false := by simpa using c29))
              (try (have c29b3 : ¬ (t197 = x11_22) := by simpa using c29))
              clear c29
              exact absurd ((Option.some.inj H).trans HR.out) (by decide)
             ·
              rw [if_neg c29] at H
              have c29b0 : (t197 != x11_22) = false := by simpa using c29
              (try (have c29b1 : decide (t197 = x11_22) = true := by simpa using c29))
              (try (have c29b2 : (t197 == x11_22) = true := by simpa using c29))
              clear c29
              have HC30 := Aside0.mk H
              clear H
              try go_wp2
              have n0_ := Aside0.mk (Kd.S_drew HO_5.out)
              have n1_ := Aside0.mk (Kd.R_drew HO_8.out)
              have n2_ := Aside0.mk (blk_drew BK183.out)
              have n3_ := Aside0.mk (below_drew1 HB.out)
              clear HO_5
              clear HO_8
              clear BK183
              clear HB
              have HO_5 := n0_
              have HO_8 := n1_
              have BK183 := n2_
              have HB := n3_
              clear n0_ n1_ n2_ n3_
              have p196 : 0 ≤ (x10_3 : Int) := of_decide_eq_true (by first | (with_reducible assumption) | assumption)
              have q196 : x10_3 < (x5_4.length : Int) := of_decide_eq_true (by first | (with_reducible assumption) | assumption)
              obtain ⟨ad196, A196_3, c196_3, A196_5, c196_5, A196_7, c196_7, A196_9, c196_9, A196_12, c196_12, e196, hx196_0, hx196_1, hx196_2, hx196_3, hx196_4, hx196_5, hx196_6, hx196_7, hx196_8, hx196_9, hx196_10, hx196_11, hx196_12, hx196_13, hx196_14, hl196_3, hi196_3, hl196_5, hi196_5, hl196_7, hi196_7, hl196_9, hi196_9, hl196_12, hi196_12⟩ := at_T37 (Kd.S_reads' HO_5.out).2.2 x10_3 p196 q196
              cases e196
              obtain ⟨ce196, hce196, hMe196, hcc196⟩ := Kd.S_get HO_5.out z37 x10_3 p196 (by first | exact q196 | exact of_decide_eq_true (by first | (with_reducible assumption) | assumption) | (have e_ := (Kd.S_reads' HO_5.out).1; omega))
              obtain ⟨ve196_3, ve196_5, ve196_7, ve196_9, ve196_12, rfl, ge196_3, ge196_5, ge196_7, ge196_9, ge196_12⟩ := k37_openM hMe196
              have hv196_3 := hcc196 3 _ rfl
              rw [add_field _ _ 3 (by omega)] at hv196_3
              replace hv196_3 := Option.some.inj (hv196_3.symm.trans hx196_3)
              rw [hv196_3] at ge196_3
              have HL196_3 := Aside0.mk (show Kd.R k48 48 _ _ _ _ ((rd_T37 x5_4 x10_3).f2.f1) from ge196_3)
              clear hv196_3 ge196_3
              have hv196_5 := hcc196 5 _ rfl
              rw [add_field _ _ 5 (by omega)] at hv196_5
              replace hv196_5 := Option.some.inj (hv196_5.symm.trans hx196_5)
              rw [hv196_5] at ge196_5
              have HL196_5 := Aside0.mk (show Kd.R k50 50 _ _ _ _ ((rd_T37 x5_4 x10_3).f3.f1) from ge196_5)
              clear hv196_5 ge196_5
              have hv196_7 := hcc196 7 _ rfl
              rw [add_field _ _ 7 (by omega)] at hv196_7
              replace hv196_7 := Option.some.inj (hv196_7.symm.trans hx196_7)
              rw [hv196_7] at ge196_7
              have HL196_7 := Aside0.mk (show Kd.R k48 48 _ _ _ _ ((rd_T37 x5_4 x10_3).f4.f1) from ge196_7)
              clear hv196_7 ge196_7
              have hv196_9 := hcc196 9 _ rfl
              rw [add_field _ _ 9 (by omega)] at hv196_9
              replace hv196_9 := Option.some.inj (hv196_9.symm.trans hx196_9)
              rw [hv196_9] at ge196_9
              have HL196_9 := Aside0.mk (show Kd.R k50 50 _ _ _ _ ((rd_T37 x5_4 x10_3).f5.f1) from ge196_9)
              clear hv196_9 ge196_9
              have hv196_12 := hcc196 12 _ rfl
              rw [add_field _ _ 12 (by omega)] at hv196_12
              replace hv196_12 := Option.some.inj (hv196_12.symm.trans hx196_12)
              rw [hv196_12] at ge196_12
              have HL196_12 := Aside0.mk (show Kd.R k54 54 _ _ _ _ ((rd_T37 x5_4 x10_3).f8) from ge196_12)
              clear hv196_12 ge196_12
              clear hcc196 hce196
              have HR196_3 := Aside0.mk hi196_3
              have HC196_3 := Aside0.mk hl196_3
              clear hi196_3 hl196_3
              have HR196_5 := Aside0.mk hi196_5
              have HC196_5 := Aside0.mk hl196_5
              clear hi196_5 hl196_5
              have HR196_7 := Aside0.mk hi196_7
              have HC196_7 := Aside0.mk hl196_7
              clear hi196_7 hl196_7
              have HR196_9 := Aside0.mk hi196_9
              have HC196_9 := Aside0.mk hl196_9
              clear hi196_9 hl196_9
              have HR196_12 := Aside0.mk hi196_12
              have HC196_12 := Aside0.mk hl196_12
              clear hi196_12 hl196_12
              replace p196 := eq_true p196
              replace q196 := eq_true q196
              refine start_ (n := 9) (S := fun w' => w'.cell? ⟨gb183, 0, none⟩ = some (.int .i64 6) ∧ w'.cell? ⟨gb183, 1, none⟩ = some (.int .u32 a1_1) ∧ w'.cell? ⟨gb183, 2, none⟩ = some (.int .u32 a1_2) ∧ w'.cell? ⟨gb183, 3, none⟩ = some (.int .i64 t184) ∧ w'.cell? ⟨gb183, 4, none⟩ = some (.int .i64 t185) ∧ w'.cell? (ad196.add ((x10_3).toNat * 15)) = some (.int .i64 ((rd_T37 x5_4 x10_3).f0)) ∧ w'.cell? ⟨(ad196.add ((x10_3).toNat * 15)).block, (ad196.add ((x10_3).toNat * 15)).off + 1, none⟩ = some (.int .i64 ((rd_T37 x5_4 x10_3).f1)) ∧ w'.cell? ⟨(ad196.add ((x10_3).toNat * 15)).block, (ad196.add ((x10_3).toNat * 15)).off + 2, none⟩ = some (.bool ((rd_T37 x5_4 x10_3).f2.f0)) ∧ w'.cell? ⟨(ad196.add ((x10_3).toNat * 15)).block, (ad196.add ((x10_3).toNat * 15)).off + 3, none⟩ = some (.slice A196_3 ((rd_T37 x5_4 x10_3).f2.f1).length c196_3) ∧ w'.cell? ⟨(ad196.add ((x10_3).toNat * 15)).block, (ad196.add ((x10_3).toNat * 15)).off + 4, none⟩ = some (.bool ((rd_T37 x5_4 x10_3).f3.f0)) ∧ w'.cell? ⟨(ad196.add ((x10_3).toNat * 15)).block, (ad196.add ((x10_3).toNat * 15)).off + 5, none⟩ = some (.slice A196_5 ((rd_T37 x5_4 x10_3).f3.f1).length c196_5) ∧ w'.cell? ⟨(ad196.add ((x10_3).toNat * 15)).block, (ad196.add ((x10_3).toNat * 15)).off + 6, none⟩ = some (.bool ((rd_T37 x5_4 x10_3).f4.f0)) ∧ w'.cell? ⟨(ad196.add ((x10_3).toNat * 15)).block, (ad196.add ((x10_3).toNat * 15)).off + 7, none⟩ = some (.slice A196_7 ((rd_T37 x5_4 x10_3).f4.f1).length c196_7) ∧ w'.cell? ⟨(ad196.add ((x10_3).toNat * 15)).block, (ad196.add ((x10_3).toNat * 15)).off + 8, none⟩ = some (.bool ((rd_T37 x5_4 x10_3).f5.f0)) ∧ w'.cell? ⟨(ad196.add ((x10_3).toNat * 15)).block, (ad196.add ((x10_3).toNat * 15)).off + 9, none⟩ = some (.slice A196_9 ((rd_T37 x5_4 x10_3).f5.f1).length c196_9) ∧ w'.cell? ⟨(ad196.add ((x10_3).toNat * 15)).block, (ad196.add ((x10_3).toNat * 15)).off + 10, none⟩ = some (.bool ((rd_T37 x5_4 x10_3).f6)) ∧ w'.cell? ⟨(ad196.add ((x10_3).toNat * 15)).block, (ad196.add ((x10_3).toNat * 15)).off + 11, none⟩ = some (.int .i64 ((rd_T37 x5_4 x10_3).f7)) ∧ w'.cell? ⟨(ad196.add ((x10_3).toNat * 15)).block, (ad196.add ((x10_3).toNat * 15)).off + 12, none⟩ = some (.slice A196_12 ((rd_T37 x5_4 x10_3).f8).length c196_12) ∧ w'.cell? ⟨(ad196.add ((x10_3).toNat * 15)).block, (ad196.add ((x10_3).toNat * 15)).off + 13, none⟩ = some (.int .i64 ((rd_T37 x5_4 x10_3).f9)) ∧ w'.cell? ⟨(ad196.add ((x10_3).toNat * 15)).block, (ad196.add ((x10_3).toNat * 15)).off + 14, none⟩ = some (.int .i64 ((rd_T37 x5_4 x10_3).f10))) (ds := []) #[false, false, false, false, false, false, false, false, false] (by kernel_rfl) rfl rfl ⟨(blk_cell BK183.out 0).trans rfl, (blk_cell BK183.out 1).trans rfl, (blk_cell BK183.out 2).trans rfl, (blk_cell BK183.out 3).trans rfl, (blk_cell BK183.out 4).trans rfl, hx196_0, hx196_1, hx196_2, hx196_3, hx196_4, hx196_5, hx196_6, hx196_7, hx196_8, hx196_9, hx196_10, hx196_11, hx196_12, hx196_13, hx196_14⟩ (fun hHeld => ?_); refine with_tabW rampartlaw18_GroupFlows.tab16 rampartlaw18_GroupFlows.bits16 (fun HT_ HW_ => ?_)
              generalize wc.drew = w31 at HO_5 HO_8 BK183 HB HL196_12 HL196_3 HL196_5 HL196_7 HL196_9 HR196_12 HR196_3 HR196_5 HR196_7 HR196_9 hx196_0 hx196_1 hx196_10 hx196_11 hx196_12 hx196_13 hx196_14 hx196_2 hx196_3 hx196_4 hx196_5 hx196_6 hx196_7 hx196_8 hx196_9 hHeld ⊢
              refine pure_ (i := 0) (N := some 72) (v := ?_) (a' := ?_) #[true, false, false, false, false, false, false, false, false] rfl rfl (any_of HT_.out (by kernel_rfl)) (fun _ _ _ h => h) (Or.inl ⟨by rfl, ?_⟩) ?_ ?_
              rotate_left
              ·
               intro w'
               go_simp
               with_reducible rfl
              rotate_left
              ·
               simp only [Act.put, List.setIfInBounds_toArray, List.set_cons_zero, List.set_cons_succ, i64_w, i32_w]
               rfl
              refine pure_ (i := 1) (N := some 73) (v := ?_) (a' := ?_) #[true, true, false, false, false, false, false, false, false] rfl rfl (any_of HT_.out (by kernel_rfl)) (fun _ _ _ h => h) (Or.inl ⟨by rfl, ?_⟩) ?_ ?_
              rotate_left
              ·
               intro w'
               go_simp
               with_reducible rfl
              rotate_left
              ·
               simp only [Act.put, List.setIfInBounds_toArray, List.set_cons_zero, List.set_cons_succ, i64_w, i32_w]
               rfl
              refine pure_ (i := 2) (N := some 74) (v := ?_) (a' := ?_) #[true, true, true, false, false, false, false, false, false] rfl rfl (any_of HT_.out (by kernel_rfl)) (fun _ _ _ h => h) (Or.inl ⟨by rfl, ?_⟩) ?_ ?_
              rotate_left
              ·
               intro w'
               go_simp
               with_reducible rfl
              rotate_left
              ·
               simp only [Act.put, List.setIfInBounds_toArray, List.set_cons_zero, List.set_cons_succ, i64_w, i32_w]
               rfl
              refine pure_ (i := 5) (N := some 77) (v := ?_) (a' := ?_) #[true, true, true, false, false, true, false, false, false] rfl rfl (any_of HT_.out (by kernel_rfl)) (fun _ _ _ h => h) (Or.inl ⟨by rfl, ?_⟩) ?_ ?_
              rotate_left
              ·
               intro w'
               go_simp
               with_reducible rfl
              rotate_left
              ·
               simp only [Act.put, List.setIfInBounds_toArray, List.set_cons_zero, List.set_cons_succ, i64_w, i32_w]
               rfl
              refine pure_ (i := 7) (N := some 79) (v := ?_) (a' := ?_) #[true, true, true, false, false, true, false, true, false] rfl rfl (any_of HT_.out (by kernel_rfl)) (fun _ _ _ h => h) (Or.inl ⟨by rfl, ?_⟩) ?_ ?_
              rotate_left
              ·
               intro w'
               go_simp
               with_reducible rfl
              rotate_left
              ·
               simp only [Act.put, List.setIfInBounds_toArray, List.set_cons_zero, List.set_cons_succ, i64_w, i32_w]
               rfl
              refine take_ (i := 3) (N := some 75) (v := ?_) (a' := ?_) #[true, true, true, true, false, true, false, true, false] rfl rfl (take_ofW HT_.out HW_.out (by kernel_rfl)) (fun _ _ _ h => h) (Or.inl ⟨by rfl, ?_⟩) hHeld ?_ ?_
              rotate_left
              ·
               rintro w' ⟨s0, s1, s2, s3, s4, s5, s6, s7, s8, s9, s10, s11, s12, s13, s14, s15, s16, s17, s18, s19⟩
               go_simp
               with_reducible rfl
              rotate_left
              ·
               simp only [Act.put, List.setIfInBounds_toArray, List.set_cons_zero, List.set_cons_succ, i64_w, i32_w]
               rfl
              refine take_ (i := 4) (N := some 76) (v := ?_) (a' := ?_) #[true, true, true, true, true, true, false, true, false] rfl rfl (take_ofW HT_.out HW_.out (by kernel_rfl)) (fun _ _ _ h => h) (Or.inl ⟨by rfl, ?_⟩) hHeld ?_ ?_
              rotate_left
              ·
               rintro w' ⟨s0, s1, s2, s3, s4, s5, s6, s7, s8, s9, s10, s11, s12, s13, s14, s15, s16, s17, s18, s19⟩
               go_simp
               with_reducible rfl
              rotate_left
              ·
               simp only [Act.put, List.setIfInBounds_toArray, List.set_cons_zero, List.set_cons_succ, i64_w, i32_w]
               rfl
              refine one_ (i := 6) (N := some 78) #[true, true, true, true, true, true, true, true, false] rfl rfl (one_of HT_.out (by kernel_rfl)) (by decide) (fun K hK => ?_)
              refine goes_ Try.func9 (by kernel_rfl) rfl #[.agg #[.int .i64 ((rd_T37 x5_4 x10_3).f0), .int .i64 ((rd_T37 x5_4 x10_3).f1), .bool ((rd_T37 x5_4 x10_3).f2.f0), .slice A196_3 ((rd_T37 x5_4 x10_3).f2.f1).length c196_3, .bool ((rd_T37 x5_4 x10_3).f3.f0), .slice A196_5 ((rd_T37 x5_4 x10_3).f3.f1).length c196_5, .bool ((rd_T37 x5_4 x10_3).f4.f0), .slice A196_7 ((rd_T37 x5_4 x10_3).f4.f1).length c196_7, .bool ((rd_T37 x5_4 x10_3).f5.f0), .slice A196_9 ((rd_T37 x5_4 x10_3).f5.f1).length c196_9, .bool ((rd_T37 x5_4 x10_3).f6), .int .i64 ((rd_T37 x5_4 x10_3).f7), .slice A196_12 ((rd_T37 x5_4 x10_3).f8).length c196_12, .int .i64 ((rd_T37 x5_4 x10_3).f9), .int .i64 ((rd_T37 x5_4 x10_3).f10)], .agg #[.int .i64 6, .int .u32 a1_1, .int .u32 a1_2, .int .i64 t184, .int .i64 t185], .int .i64 x7_2] (by rfl) rfl rfl (by (try simp only [List.map_toArray, List.map_cons, List.map_nil]); first | done | rfl | (simp only [List.length_drop, List.length_take]; rfl)) ?_
              with_reducible refine (group_Fits.calls kj22 ((rd_T37 x5_4 x10_3).f0) ((rd_T37 x5_4 x10_3).f1) ((rd_T37 x5_4 x10_3).f2.f0) _ _ ((rd_T37 x5_4 x10_3).f2.f1) ((rd_T37 x5_4 x10_3).f3.f0) _ _ ((rd_T37 x5_4 x10_3).f3.f1) ((rd_T37 x5_4 x10_3).f4.f0) _ _ ((rd_T37 x5_4 x10_3).f4.f1) ((rd_T37 x5_4 x10_3).f5.f0) _ _ ((rd_T37 x5_4 x10_3).f5.f1) ((rd_T37 x5_4 x10_3).f6) ((rd_T37 x5_4 x10_3).f7) _ _ ((rd_T37 x5_4 x10_3).f8) ((rd_T37 x5_4 x10_3).f9) ((rd_T37 x5_4 x10_3).f10) 6 a1_1 a1_2 t184 t185 x7_2 t197 _ ?side1 ?side2 ?side3 ?side4 ?side5 ?side6 ?side7 ?side8 ?side9 ?side10 A28.out).mono ?_
              (case side1 => repeat (first | exact (by repeat (first | (with_reducible exact HR196_3.out) | (with_reducible refine Kd.C_alloc ?_ _) | (with_reducible refine Kd.C_drewN ?_ _) | (with_reducible refine Kd.C_drew ?_) | exact HR196_3.out)) | (with_reducible refine Kd.C_alloc ?_ _) | (with_reducible refine Kd.C_drewN ?_ _) | (with_reducible refine Kd.C_drew ?_)))
              (case side2 => exact HC196_3.out)
              (case side3 => repeat (first | exact (by repeat (first | (with_reducible exact HR196_5.out) | (with_reducible refine Kd.C_alloc ?_ _) | (with_reducible refine Kd.C_drewN ?_ _) | (with_reducible refine Kd.C_drew ?_) | exact HR196_5.out)) | (with_reducible refine Kd.C_alloc ?_ _) | (with_reducible refine Kd.C_drewN ?_ _) | (with_reducible refine Kd.C_drew ?_)))
              (case side4 => exact HC196_5.out)
              (case side5 => repeat (first | exact (by repeat (first | (with_reducible exact HR196_7.out) | (with_reducible refine Kd.C_alloc ?_ _) | (with_reducible refine Kd.C_drewN ?_ _) | (with_reducible refine Kd.C_drew ?_) | exact HR196_7.out)) | (with_reducible refine Kd.C_alloc ?_ _) | (with_reducible refine Kd.C_drewN ?_ _) | (with_reducible refine Kd.C_drew ?_)))
              (case side6 => exact HC196_7.out)
              (case side7 => repeat (first | exact (by repeat (first | (with_reducible exact HR196_9.out) | (with_reducible refine Kd.C_alloc ?_ _) | (with_reducible refine Kd.C_drewN ?_ _) | (with_reducible refine Kd.C_drew ?_) | exact HR196_9.out)) | (with_reducible refine Kd.C_alloc ?_ _) | (with_reducible refine Kd.C_drewN ?_ _) | (with_reducible refine Kd.C_drew ?_)))
              (case side8 => exact HC196_9.out)
              (case side9 => repeat (first | exact (by repeat (first | (with_reducible exact HR196_12.out) | (with_reducible refine Kd.C_alloc ?_ _) | (with_reducible refine Kd.C_drewN ?_ _) | (with_reducible refine Kd.C_drew ?_) | exact HR196_12.out)) | (with_reducible refine Kd.C_alloc ?_ _) | (with_reducible refine Kd.C_drewN ?_ _) | (with_reducible refine Kd.C_drew ?_)))
              (case side10 => exact HC196_12.out)
              rintro e w32 ⟨rfl, hb⟩
              have HS5_ := (hb.cell (World.block_lt_of_cell? _ _ (hHeld.2.2.2.2.2.1))).trans (hHeld.2.2.2.2.2.1)
              have HS6_ := (hb.cell (World.block_lt_of_cell? _ _ (hHeld.2.2.2.2.2.2.1))).trans (hHeld.2.2.2.2.2.2.1)
              have HS7_ := (hb.cell (World.block_lt_of_cell? _ _ (hHeld.2.2.2.2.2.2.2.1))).trans (hHeld.2.2.2.2.2.2.2.1)
              have HS8_ := (hb.cell (World.block_lt_of_cell? _ _ (hHeld.2.2.2.2.2.2.2.2.1))).trans (hHeld.2.2.2.2.2.2.2.2.1)
              have HS9_ := (hb.cell (World.block_lt_of_cell? _ _ (hHeld.2.2.2.2.2.2.2.2.2.1))).trans (hHeld.2.2.2.2.2.2.2.2.2.1)
              have HS10_ := (hb.cell (World.block_lt_of_cell? _ _ (hHeld.2.2.2.2.2.2.2.2.2.2.1))).trans (hHeld.2.2.2.2.2.2.2.2.2.2.1)
              have HS11_ := (hb.cell (World.block_lt_of_cell? _ _ (hHeld.2.2.2.2.2.2.2.2.2.2.2.1))).trans (hHeld.2.2.2.2.2.2.2.2.2.2.2.1)
              have HS12_ := (hb.cell (World.block_lt_of_cell? _ _ (hHeld.2.2.2.2.2.2.2.2.2.2.2.2.1))).trans (hHeld.2.2.2.2.2.2.2.2.2.2.2.2.1)
              have HS13_ := (hb.cell (World.block_lt_of_cell? _ _ (hHeld.2.2.2.2.2.2.2.2.2.2.2.2.2.1))).trans (hHeld.2.2.2.2.2.2.2.2.2.2.2.2.2.1)
              have HS14_ := (hb.cell (World.block_lt_of_cell? _ _ (hHeld.2.2.2.2.2.2.2.2.2.2.2.2.2.2.1))).trans (hHeld.2.2.2.2.2.2.2.2.2.2.2.2.2.2.1)
              have HS15_ := (hb.cell (World.block_lt_of_cell? _ _ (hHeld.2.2.2.2.2.2.2.2.2.2.2.2.2.2.2.1))).trans (hHeld.2.2.2.2.2.2.2.2.2.2.2.2.2.2.2.1)
              have HS16_ := (hb.cell (World.block_lt_of_cell? _ _ (hHeld.2.2.2.2.2.2.2.2.2.2.2.2.2.2.2.2.1))).trans (hHeld.2.2.2.2.2.2.2.2.2.2.2.2.2.2.2.2.1)
              have HS17_ := (hb.cell (World.block_lt_of_cell? _ _ (hHeld.2.2.2.2.2.2.2.2.2.2.2.2.2.2.2.2.2.1))).trans (hHeld.2.2.2.2.2.2.2.2.2.2.2.2.2.2.2.2.2.1)
              have HS18_ := (hb.cell (World.block_lt_of_cell? _ _ (hHeld.2.2.2.2.2.2.2.2.2.2.2.2.2.2.2.2.2.2.1))).trans (hHeld.2.2.2.2.2.2.2.2.2.2.2.2.2.2.2.2.2.2.1)
              have HS19_ := (hb.cell (World.block_lt_of_cell? _ _ (hHeld.2.2.2.2.2.2.2.2.2.2.2.2.2.2.2.2.2.2.2))).trans (hHeld.2.2.2.2.2.2.2.2.2.2.2.2.2.2.2.2.2.2.2)
              refine ⟨_, rfl, ?_⟩
              have n0_ := Aside0.mk (Kd.S_below (by (with_reducible repeat (first | apply Kd.S_alloc | apply Kd.S_drewN | apply Kd.S_drew)); exact HO_5.out) hb)
              have n1_ := Aside0.mk (Kd.R_below (by (with_reducible repeat (first | apply Kd.R_alloc | apply Kd.R_drewN | apply Kd.R_drew)); exact HO_8.out) hb)
              have n2_ := Aside0.mk (Kd.R_below (by (with_reducible repeat (first | apply Kd.R_alloc | apply Kd.R_drewN | apply Kd.R_drew)); exact HL196_3.out) hb)
              have n3_ := Aside0.mk (Kd.R_below (by (with_reducible repeat (first | apply Kd.R_alloc | apply Kd.R_drewN | apply Kd.R_drew)); exact HL196_5.out) hb)
              have n4_ := Aside0.mk (Kd.R_below (by (with_reducible repeat (first | apply Kd.R_alloc | apply Kd.R_drewN | apply Kd.R_drew)); exact HL196_7.out) hb)
              have n5_ := Aside0.mk (Kd.R_below (by (with_reducible repeat (first | apply Kd.R_alloc | apply Kd.R_drewN | apply Kd.R_drew)); exact HL196_9.out) hb)
              have n6_ := Aside0.mk (Kd.R_below (by (with_reducible repeat (first | apply Kd.R_alloc | apply Kd.R_drewN | apply Kd.R_drew)); exact HL196_12.out) hb)
              have n7_ := Aside0.mk (blk_below (g := gb183) (o := .cells #[.int .i64 6, .int .u32 a1_1, .int .u32 a1_2, .int .i64 t184, .int .i64 t185] 25 (0, 0)) (by (with_reducible repeat (first | refine blk_drewN ?_ _ | refine blk_drew ?_ | refine blk_alloc ?_ _)); exact BK183.out) hb)
              have n8_ := Aside0.mk (Kd.C_below (by repeat (first | (with_reducible exact HR196_3.out) | (with_reducible refine Kd.C_alloc ?_ _) | (with_reducible refine Kd.C_drewN ?_ _) | (with_reducible refine Kd.C_drew ?_) | exact HR196_3.out)) hb)
              have n9_ := Aside0.mk (Kd.C_below (by repeat (first | (with_reducible exact HR196_5.out) | (with_reducible refine Kd.C_alloc ?_ _) | (with_reducible refine Kd.C_drewN ?_ _) | (with_reducible refine Kd.C_drew ?_) | exact HR196_5.out)) hb)
              have n10_ := Aside0.mk (Kd.C_below (by repeat (first | (with_reducible exact HR196_7.out) | (with_reducible refine Kd.C_alloc ?_ _) | (with_reducible refine Kd.C_drewN ?_ _) | (with_reducible refine Kd.C_drew ?_) | exact HR196_7.out)) hb)
              have n11_ := Aside0.mk (Kd.C_below (by repeat (first | (with_reducible exact HR196_9.out) | (with_reducible refine Kd.C_alloc ?_ _) | (with_reducible refine Kd.C_drewN ?_ _) | (with_reducible refine Kd.C_drew ?_) | exact HR196_9.out)) hb)
              have n12_ := Aside0.mk (Kd.C_below (by repeat (first | (with_reducible exact HR196_12.out) | (with_reducible refine Kd.C_alloc ?_ _) | (with_reducible refine Kd.C_drewN ?_ _) | (with_reducible refine Kd.C_drew ?_) | exact HR196_12.out)) hb)
              have n13_ := Aside0.mk (below_step (by repeat (first | (with_reducible first | exact HB.out | apply below_alloc | apply pw_below_drewN | apply below_drew1 | refine below_set ?_ GE183.out) | exact HB.out)) hb)
              clear HO_5
              clear HO_8
              clear HL196_3
              clear HL196_5
              clear HL196_7
              clear HL196_9
              clear HL196_12
              clear BK183
              clear HR196_3
              clear HR196_5
              clear HR196_7
              clear HR196_9
              clear HR196_12
              clear HB
              have HO_5 := n0_
              have HO_8 := n1_
              have HL196_3 := n2_
              have HL196_5 := n3_
              have HL196_7 := n4_
              have HL196_9 := n5_
              have HL196_12 := n6_
              have BK183 := n7_
              have HR196_3 := n8_
              have HR196_5 := n9_
              have HR196_7 := n10_
              have HR196_9 := n11_
              have HR196_12 := n12_
              have HB := n13_
              clear n0_ n1_ n2_ n3_ n4_ n5_ n6_ n7_ n8_ n9_ n10_ n11_ n12_ n13_
              (try clear hb)
              (try clear hb2)
              (try clear hk)
              (try clear hi)
              refine hK.out _ _ ⟨(blk_cell BK183.out 0).trans rfl, (blk_cell BK183.out 1).trans rfl, (blk_cell BK183.out 2).trans rfl, (blk_cell BK183.out 3).trans rfl, (blk_cell BK183.out 4).trans rfl, HS5_, HS6_, HS7_, HS8_, HS9_, HS10_, HS11_, HS12_, HS13_, HS14_, HS15_, HS16_, HS17_, HS18_, HS19_⟩ (fun hHeld => ?_)
              clear hK K
              refine norm_ (a' := ?_) ?_ ?_
              rotate_left
              ·
               show Act.put _ (some 78) _ = _
               simp only [Act.put, List.setIfInBounds_toArray, List.set_cons_zero, List.set_cons_succ, i64_w, i32_w]
               rfl
              refine pure_ (i := 8) (N := some 80) (v := ?_) (a' := ?_) #[true, true, true, true, true, true, true, true, true] rfl rfl (any_of HT_.out (by kernel_rfl)) (fun _ _ _ h => h) (Or.inl ⟨by rfl, ?_⟩) ?_ ?_
              rotate_left
              ·
               intro w'
               go_simp
               with_reducible rfl
              rotate_left
              ·
               simp only [Act.put, List.setIfInBounds_toArray, List.set_cons_zero, List.set_cons_succ, i64_w, i32_w]
               rfl
              refine done_ (done_of HT_.out (by kernel_rfl)) ?_
              go_upto_region 18 with (fail)
              go_cut [95] (fun v95 wc => ∃ (kq : Nat) (x95_29 : Bool), v95 = .bool x95_29 ∧ Aside0 (rampartlaw18_GroupFlows.j5 kq x5_4 x7_2 t191 x9_3 x10_3 x11_22 x95_29 6 a1_1 a1_2 t184 t185 = some r) ∧ Aside0 (kq ≤ kj22) ∧ Aside0 (Kd.S k37 37 wc w.heap.size (fun _ => True) (.slice (some ad196) x5_4.length co20) x5_4) ∧ Aside0 (Kd.R (Kd.int .i64) 3 wc w.heap.size (fun _ => True) v192 t191) ∧ Aside0 (wc.heap[gb183]? = some (.cells #[.int .i64 6, .int .u32 a1_1, .int .u32 a1_2, .int .i64 t184, .int .i64 t185] 25 (0, 0))) ∧ Aside0 (Kd.C k48 wc A196_3 ((rd_T37 x5_4 x10_3).f2.f1).length ((rd_T37 x5_4 x10_3).f2.f1)) ∧ Aside0 (Kd.C k50 wc A196_5 ((rd_T37 x5_4 x10_3).f3.f1).length ((rd_T37 x5_4 x10_3).f3.f1)) ∧ Aside0 (Kd.C k48 wc A196_7 ((rd_T37 x5_4 x10_3).f4.f1).length ((rd_T37 x5_4 x10_3).f4.f1)) ∧ Aside0 (Kd.C k50 wc A196_9 ((rd_T37 x5_4 x10_3).f5.f1).length ((rd_T37 x5_4 x10_3).f5.f1)) ∧ Aside0 (Kd.C k54 wc A196_12 ((rd_T37 x5_4 x10_3).f8).length ((rd_T37 x5_4 x10_3).f8)) ∧ Aside0 (Below w.heap.size w wc))
              case first =>
               have H := HC30.out
               clear HC30
               by_cases c33 : x11_22 = true
               ·
                subst c33
                have H1 : (if x9_3 ≥ (t191.length : Int) then (rampartlaw18_GroupFlows.j5 kj22 x5_4 x7_2 t191 x9_3 x10_3 true true 6 a1_1 a1_2 t184 t185) else (if 0 ≤ x9_3 then (if x9_3 < (t191.length : Int) then (rampartlaw18_GroupFlows.j5 kj22 x5_4 x7_2 t191 x9_3 x10_3 true ((rd t191 x9_3) != x10_3) 6 a1_1 a1_2 t184 t185) else (none)) else (none))) = some r := by rw [if_pos rfl] at H; exact H
                clear H
                have H := H1
                clear H1
                by_cases c34 : x9_3 ≥ (t191.length : Int)
                ·
                 rw [if_pos c34] at H
                 have c34b0 : decide ((t191.length : Int) ≤ x9_3) = true := decide_eq_true c34
                 clear c34
                 (first | rw [c34b0] | (simp only [i64_w, i32_w]; rw [c34b0]) | skip)
                 have H' := Aside0.mk H
                 clear H
                 obtain ⟨Ao35, co35, eo35⟩ := Kd.R_slice HO_8.out
                 subst eo35
                 go_wp2
                 go_meet
                 case rel => exact ⟨_, (true), (by first | rfl | (simp; done) | (simp [*]; done)), H', ⟨by have := HJ4.out; have := HK2.out; have := HK3.out; have := HJ22.out; first | omega | exact Nat.le_refl _⟩, ⟨by (with_reducible repeat (first | apply Kd.S_alloc | apply Kd.S_drewN | apply Kd.S_drew)); exact HO_5.out⟩, ⟨by (with_reducible repeat (first | apply Kd.R_alloc | apply Kd.R_drewN | apply Kd.R_drew)); exact HO_8.out⟩, ⟨by (with_reducible repeat (first | refine blk_drewN ?_ _ | refine blk_drew ?_ | refine blk_alloc ?_ _)); exact BK183.out⟩, ⟨by repeat (first | (with_reducible exact HR196_3.out) | (with_reducible refine Kd.C_alloc ?_ _) | (with_reducible refine Kd.C_drewN ?_ _) | (with_reducible refine Kd.C_drew ?_) | exact HR196_3.out)⟩, ⟨by repeat (first | (with_reducible exact HR196_5.out) | (with_reducible refine Kd.C_alloc ?_ _) | (with_reducible refine Kd.C_drewN ?_ _) | (with_reducible refine Kd.C_drew ?_) | exact HR196_5.out)⟩, ⟨by repeat (first | (with_reducible exact HR196_7.out) | (with_reducible refine Kd.C_alloc ?_ _) | (with_reducible refine Kd.C_drewN ?_ _) | (with_reducible refine Kd.C_drew ?_) | exact HR196_7.out)⟩, ⟨by repeat (first | (with_reducible exact HR196_9.out) | (with_reducible refine Kd.C_alloc ?_ _) | (with_reducible refine Kd.C_drewN ?_ _) | (with_reducible refine Kd.C_drew ?_) | exact HR196_9.out)⟩, ⟨by repeat (first | (with_reducible exact HR196_12.out) | (with_reducible refine Kd.C_alloc ?_ _) | (with_reducible refine Kd.C_drewN ?_ _) | (with_reducible refine Kd.C_drew ?_) | exact HR196_12.out)⟩, ⟨by repeat (first | (with_reducible first | exact HB.out | apply below_alloc | apply pw_below_drewN | apply below_drew1 | refine below_set ?_ GE183.out) | exact HB.out)⟩⟩
                ·
                 rw [if_neg c34] at H
                 have c34b0 : decide ((t191.length : Int) ≤ x9_3) = false := decide_eq_false c34
                 clear c34
                 (first | rw [c34b0] | (simp only [i64_w, i32_w]; rw [c34b0]) | skip)
                 by_cases c36 : 0 ≤ x9_3
                 ·
                  rw [if_pos c36] at H
                  have c36b0 : decide (0 ≤ x9_3) = true := decide_eq_true c36
                  clear c36
                  by_cases c37 : x9_3 < (t191.length : Int)
                  ·
                   rw [if_pos c37] at H
                   have c37b0 : decide (x9_3 < (t191.length : Int)) = true := decide_eq_true c37
                   clear c37
                   have H' := Aside0.mk H
                   clear H
                   obtain ⟨Ao38, co38, eo38⟩ := Kd.R_slice HO_8.out
                   subst eo38
                   have p198 : 0 ≤ (x9_3 : Int) := of_decide_eq_true (by first | (with_reducible assumption) | assumption)
                   have q198 : x9_3 < (t191.length : Int) := of_decide_eq_true (by first | (with_reducible assumption) | assumption)
                   obtain ⟨ad198, e198, hx198_0⟩ := Kd.at_int (Kd.R_reads' HO_8.out).2.2 x9_3 p198 q198
                   cases e198
                   replace p198 := eq_true p198
                   replace q198 := eq_true q198
                   go_wp2
                   go_meet
                   case rel => exact ⟨_, (((rd t191 x9_3) != x10_3)), (by first | rfl | (simp; done) | (simp [*]; done)), H', ⟨by have := HJ4.out; have := HK2.out; have := HK3.out; have := HJ22.out; first | omega | exact Nat.le_refl _⟩, ⟨by (with_reducible repeat (first | apply Kd.S_alloc | apply Kd.S_drewN | apply Kd.S_drew)); exact HO_5.out⟩, ⟨by (with_reducible repeat (first | apply Kd.R_alloc | apply Kd.R_drewN | apply Kd.R_drew)); exact HO_8.out⟩, ⟨by (with_reducible repeat (first | refine blk_drewN ?_ _ | refine blk_drew ?_ | refine blk_alloc ?_ _)); exact BK183.out⟩, ⟨by repeat (first | (with_reducible exact HR196_3.out) | (with_reducible refine Kd.C_alloc ?_ _) | (with_reducible refine Kd.C_drewN ?_ _) | (with_reducible refine Kd.C_drew ?_) | exact HR196_3.out)⟩, ⟨by repeat (first | (with_reducible exact HR196_5.out) | (with_reducible refine Kd.C_alloc ?_ _) | (with_reducible refine Kd.C_drewN ?_ _) | (with_reducible refine Kd.C_drew ?_) | exact HR196_5.out)⟩, ⟨by repeat (first | (with_reducible exact HR196_7.out) | (with_reducible refine Kd.C_alloc ?_ _) | (with_reducible refine Kd.C_drewN ?_ _) | (with_reducible refine Kd.C_drew ?_) | exact HR196_7.out)⟩, ⟨by repeat (first | (with_reducible exact HR196_9.out) | (with_reducible refine Kd.C_alloc ?_ _) | (with_reducible refine Kd.C_drewN ?_ _) | (with_reducible refine Kd.C_drew ?_) | exact HR196_9.out)⟩, ⟨by repeat (first | (with_reducible exact HR196_12.out) | (with_reducible refine Kd.C_alloc ?_ _) | (with_reducible refine Kd.C_drewN ?_ _) | (with_reducible refine Kd.C_drew ?_) | exact HR196_12.out)⟩, ⟨by repeat (first | (with_reducible first | exact HB.out | apply below_alloc | apply pw_below_drewN | apply below_drew1 | refine below_set ?_ GE183.out) | exact HB.out)⟩⟩
                  ·
                   rw [if_neg c37] at H
                   exact absurd H (by simp)
                 ·
                  rw [if_neg c36] at H
                  exact absurd H (by simp)
               ·
                replace c33 := Bool.eq_false_iff.mpr c33
                subst c33
                have H1 : (rampartlaw18_GroupFlows.j5 kj22 x5_4 x7_2 t191 x9_3 x10_3 false false 6 a1_1 a1_2 t184 t185) = some r := by rw [if_neg (show ¬ (false = true) by decide)] at H; exact H
                clear H
                have H := H1
                clear H1
                have H' := Aside0.mk H
                clear H
                go_wp2
                go_meet
                case rel => exact ⟨_, (false), (by first | rfl | (simp; done) | (simp [*]; done)), H', ⟨by have := HJ4.out; have := HK2.out; have := HK3.out; have := HJ22.out; first | omega | exact Nat.le_refl _⟩, ⟨by (with_reducible repeat (first | apply Kd.S_alloc | apply Kd.S_drewN | apply Kd.S_drew)); exact HO_5.out⟩, ⟨by (with_reducible repeat (first | apply Kd.R_alloc | apply Kd.R_drewN | apply Kd.R_drew)); exact HO_8.out⟩, ⟨by (with_reducible repeat (first | refine blk_drewN ?_ _ | refine blk_drew ?_ | refine blk_alloc ?_ _)); exact BK183.out⟩, ⟨by repeat (first | (with_reducible exact HR196_3.out) | (with_reducible refine Kd.C_alloc ?_ _) | (with_reducible refine Kd.C_drewN ?_ _) | (with_reducible refine Kd.C_drew ?_) | exact HR196_3.out)⟩, ⟨by repeat (first | (with_reducible exact HR196_5.out) | (with_reducible refine Kd.C_alloc ?_ _) | (with_reducible refine Kd.C_drewN ?_ _) | (with_reducible refine Kd.C_drew ?_) | exact HR196_5.out)⟩, ⟨by repeat (first | (with_reducible exact HR196_7.out) | (with_reducible refine Kd.C_alloc ?_ _) | (with_reducible refine Kd.C_drewN ?_ _) | (with_reducible refine Kd.C_drew ?_) | exact HR196_7.out)⟩, ⟨by repeat (first | (with_reducible exact HR196_9.out) | (with_reducible refine Kd.C_alloc ?_ _) | (with_reducible refine Kd.C_drewN ?_ _) | (with_reducible refine Kd.C_drew ?_) | exact HR196_9.out)⟩, ⟨by repeat (first | (with_reducible exact HR196_12.out) | (with_reducible refine Kd.C_alloc ?_ _) | (with_reducible refine Kd.C_drewN ?_ _) | (with_reducible refine Kd.C_drew ?_) | exact HR196_12.out)⟩, ⟨by repeat (first | (with_reducible first | exact HB.out | apply below_alloc | apply pw_below_drewN | apply below_drew1 | refine below_set ?_ GE183.out) | exact HB.out)⟩⟩
              case rest =>
               clear HC30
               try clear c1
               try clear p1
               try clear q1
               try clear hx1
               try clear c2
               try clear p2
               try clear c3
               try clear c6
               try clear p6
               try clear c9
               try clear c11
               try clear c11b0
               try clear c12
               try clear c12b0
               try clear c13
               try clear c13b0
               try clear c15
               try clear c17
               try clear c17b0
               try clear p18
               try clear q18
               try clear hx18
               try clear c19
               try clear p19
               try clear q19
               try clear hx19
               try clear c22
               try clear c22b0
               try clear c24
               try clear c24b0
               try clear c25
               try clear c25b0
               try clear c25b1
               try clear c26
               try clear c26b0
               try clear c27
               try clear c27b0
               try clear c29
               try clear c29b0
               try clear c29b1
               try clear c29b2
               try clear c33
               try clear c34
               try clear c34b0
               try clear c36
               try clear c36b0
               try clear c37
               try clear c37b0
               try clear hcz19_0
               try clear hcz19_1
               try clear hcz19_2
               try clear hcz19_3
               try clear hcz19_4
               try clear hfz19_0
               try clear hfz19_1
               try clear hfz19_2
               try clear hfz19_3
               try clear hfz19_4
               try clear hx186_0
               try clear hx194_0
               try clear hx194_1
               try clear hx194_10
               try clear hx194_11
               try clear hx194_12
               try clear hx194_13
               try clear hx194_14
               try clear hx194_2
               try clear hx194_3
               try clear hx194_4
               try clear hx194_5
               try clear hx194_6
               try clear hx194_7
               try clear hx194_8
               try clear hx194_9
               try clear hx195_0
               try clear hx195_1
               try clear hx195_10
               try clear hx195_11
               try clear hx195_12
               try clear hx195_13
               try clear hx195_14
               try clear hx195_2
               try clear hx195_3
               try clear hx195_4
               try clear hx195_5
               try clear hx195_6
               try clear hx195_7
               try clear hx195_8
               try clear hx195_9
               try clear hx196_0
               try clear hx196_1
               try clear hx196_10
               try clear hx196_11
               try clear hx196_12
               try clear hx196_13
               try clear hx196_14
               try clear hx196_2
               try clear hx196_3
               try clear hx196_4
               try clear hx196_5
               try clear hx196_6
               try clear hx196_7
               try clear hx196_8
               try clear hx196_9
               try clear hx198_0
               try clear p1
               try clear p18
               try clear p186
               try clear p19
               try clear p194
               try clear p195
               try clear p196
               try clear p198
               try clear p2
               try clear p6
               try clear q1
               try clear q18
               try clear q186
               try clear q19
               try clear q194
               try clear q195
               try clear q196
               try clear q198
               obtain ⟨kq, x95_29, rfl, HA, HJ29, HO_5, HO_8, BK183, HR196_3, HR196_5, HR196_7, HR196_9, HR196_12, HB⟩ := hcut
               cases kq with
               | zero => exact absurd HA.out (by simp [rampartlaw18_GroupFlows.j5])
               | succ kj29 =>
                have H := HA.out
                clear HA
                simp only [rampartlaw18_GroupFlows.j5] at H
                by_cases c39 : x95_29 = true
                ·
                 subst c39
                 have H1 : (some false) = some r := by rw [if_pos rfl] at H; exact H
                 clear H
                 have H := H1
                 clear H1
                 exact absurd ((Option.some.inj H).trans HR.out) (by decide)
                ·
                 replace c39 := Bool.eq_false_iff.mpr c39
                 subst c39
                 have H1 : (if x11_22 = true then (rampartlaw18_GroupFlows.l2 kj29 x5_4 x7_2 t191 (wrap64 (x9_3 + 1)) (wrap64 (x10_3 + 1)) 6 a1_1 a1_2 t184 t185) else (rampartlaw18_GroupFlows.l2 kj29 x5_4 x7_2 t191 x9_3 (wrap64 (x10_3 + 1)) 6 a1_1 a1_2 t184 t185)) = some r := by rw [if_neg (show ¬ (false = true) by decide)] at H; exact H
                 clear H
                 have H := H1
                 clear H1
                 by_cases c40 : x11_22 = true
                 ·
                  subst c40
                  have H1 : (rampartlaw18_GroupFlows.l2 kj29 x5_4 x7_2 t191 (wrap64 (x9_3 + 1)) (wrap64 (x10_3 + 1)) 6 a1_1 a1_2 t184 t185) = some r := by rw [if_pos rfl] at H; exact H
                  clear H
                  have H := H1
                  clear H1
                  have H' := Aside0.mk H
                  clear H
                  go_wp2
                  go_roundg kj29
                  case measure => have := HJ4.out; have := HK2.out; have := HK3.out; have := HJ22.out; have := HJ29.out; omega
                  case rel => exact ⟨(wrap64 (x9_3 + 1)), (wrap64 (x10_3 + 1)), (by first | rfl | (simp; done) | (simp [*]; done)), (by first | rfl | (simp; done) | (simp [*]; done)), H', ⟨by have := HJ4.out; have := HK2.out; have := HK3.out; have := HJ22.out; have := HJ29.out; omega⟩, ⟨by (with_reducible repeat (first | apply Kd.S_alloc | apply Kd.S_drewN | apply Kd.S_drew)); exact HO_5.out⟩, ⟨by (with_reducible repeat (first | apply Kd.R_alloc | apply Kd.R_drewN | apply Kd.R_drew)); exact HO_8.out⟩, ⟨by (with_reducible repeat (first | refine blk_drewN ?_ _ | refine blk_drew ?_ | refine blk_alloc ?_ _)); exact BK183.out⟩, ⟨by repeat (first | (with_reducible first | exact HB.out | apply below_alloc | apply pw_below_drewN | apply below_drew1 | refine below_set ?_ GE183.out) | exact HB.out)⟩⟩
                 ·
                  replace c40 := Bool.eq_false_iff.mpr c40
                  subst c40
                  have H1 : (rampartlaw18_GroupFlows.l2 kj29 x5_4 x7_2 t191 x9_3 (wrap64 (x10_3 + 1)) 6 a1_1 a1_2 t184 t185) = some r := by rw [if_neg (show ¬ (false = true) by decide)] at H; exact H
                  clear H
                  have H := H1
                  clear H1
                  have H' := Aside0.mk H
                  clear H
                  go_wp2
                  go_roundg kj29
                  case measure => have := HJ4.out; have := HK2.out; have := HK3.out; have := HJ22.out; have := HJ29.out; omega
                  case rel => exact ⟨(x9_3), (wrap64 (x10_3 + 1)), (by first | rfl | (simp; done) | (simp [*]; done)), (by first | rfl | (simp; done) | (simp [*]; done)), H', ⟨by have := HJ4.out; have := HK2.out; have := HK3.out; have := HJ22.out; have := HJ29.out; omega⟩, ⟨by (with_reducible repeat (first | apply Kd.S_alloc | apply Kd.S_drewN | apply Kd.S_drew)); exact HO_5.out⟩, ⟨by (with_reducible repeat (first | apply Kd.R_alloc | apply Kd.R_drewN | apply Kd.R_drew)); exact HO_8.out⟩, ⟨by (with_reducible repeat (first | refine blk_drewN ?_ _ | refine blk_drew ?_ | refine blk_alloc ?_ _)); exact BK183.out⟩, ⟨by repeat (first | (with_reducible first | exact HB.out | apply below_alloc | apply pw_below_drewN | apply below_drew1 | refine below_set ?_ GE183.out) | exact HB.out)⟩⟩
            ·
             rw [if_neg c27] at H
             exact absurd H (by simp)
           ·
            rw [if_neg c26] at H
            exact absurd H (by simp)
        ·
         rw [if_neg c22] at H
         have c22b0 : decide (x10_3 < (x5_4.length : Int)) = false := decide_eq_false c22
         clear c22
         by_cases c41 : x9_3 = (t191.length : Int)
         ·
          rw [if_pos c41] at H
          have c41b0 : (x9_3 == (t191.length : Int)) = true := beq_iff_eq.mpr c41
          have c41b1 : (x9_3 != (t191.length : Int)) = false := bne_eq_false_iff_eq.mpr c41
          clear c41
          have H' := Aside0.mk H
          clear H
          obtain ⟨Ao42, co42, eo42⟩ := Kd.R_slice HO_8.out
          subst eo42
          go_wp2
          go_roundg k3
          case measure => have := HJ4.out; have := HK2.out; have := HK3.out; omega
          case rel => exact ⟨(wrap64 (x7_2 + 1)), (by first | rfl | (simp; done) | (simp [*]; done)), H', ⟨by have := HJ4.out; have := HK2.out; have := HK3.out; omega⟩, ⟨by (with_reducible repeat (first | apply Kd.S_alloc | apply Kd.S_drewN | apply Kd.S_drew)); exact HO_5.out⟩, ⟨by (with_reducible repeat (first | refine blk_drewN ?_ _ | refine blk_drew ?_ | refine blk_alloc ?_ _)); exact BK183.out⟩, ⟨by repeat (first | (with_reducible first | exact HB.out | apply below_alloc | apply pw_below_drewN | apply below_drew1 | refine below_set ?_ GE183.out) | exact HB.out)⟩⟩
         ·
          rw [if_neg c41] at H
          have c41b0 : (x9_3 == (t191.length : Int)) = false := beq_eq_false_iff_ne.mpr c41
          have c41b1 : (x9_3 != (t191.length : Int)) = true := bne_iff_ne.mpr c41
          exact absurd ((Option.some.inj H).trans HR.out) (by decide)
     ·
      rw [if_neg c17] at H
      have c17b0 : decide (x7_2 < 2) = false := decide_eq_false c17
      clear c17
      replace H := Option.bind_eq_some_iff.mp H
      obtain ⟨t199, A430, H⟩ := H
      replace H : (some t199) = some r := H
      have A43 := Aside0.mk A430
      clear A430
      obtain rfl := Option.some.inj H
      go_wp2_with (first | ((with_reducible refine gate_callee (f := 8) rfl ?_); refine goesL_ (some 103) rfl rfl Try.func8 (by kernel_rfl) rfl #[] rfl (by (try simp only [List.map_toArray, List.map_cons, List.map_nil]); first | done | rfl | (simp only [List.length_drop, List.length_take]; rfl)) ?_; (with_reducible refine (rampartlaw18_awake.calls k2  t199 _ A43.out (by first | rfl | exact HR.out)).mono ?_); rintro e w44 ⟨rfl, hb⟩; refine ⟨_, rfl, ?_⟩; have n0_ := Aside0.mk (Kd.S_below (by (with_reducible repeat (first | apply Kd.S_alloc | apply Kd.S_drewN | apply Kd.S_drew)); exact HO_5.out) hb); have n1_ := Aside0.mk (blk_below (g := gb183) (o := .cells #[.int .i64 6, .int .u32 a1_1, .int .u32 a1_2, .int .i64 t184, .int .i64 t185] 25 (0, 0)) (by (with_reducible repeat (first | refine blk_drewN ?_ _ | refine blk_drew ?_ | refine blk_alloc ?_ _)); exact BK183.out) hb); have n2_ := Aside0.mk (below_step (by repeat (first | (with_reducible first | exact HB.out | apply below_alloc | apply pw_below_drewN | apply below_drew1 | refine below_set ?_ GE183.out) | exact HB.out)) hb); clear HO_5; clear BK183; clear HB; have HO_5 := n0_; have BK183 := n1_; have HB := n2_; clear n0_ n1_ n2_; (try clear hb); (try clear hb2); (try clear hk); (try clear hi)))
      go_ret
      exact ⟨by first | rfl | (simp [errW_none, errW_some] <;> rfl) | (simp [*, errW_none, errW_some] <;> rfl), by repeat (first | (with_reducible first | exact HB.out | apply below_alloc | apply pw_below_drewN | apply below_drew1 | refine below_set ?_ GE183.out) | exact HB.out)⟩

end Go.Proofs.Ytbbafhpnlmmjjaa.HA
