/- What is proved: each Go function of this text answers as the plain Lean function beside it (a law: its given row, out of the plain statement). Conditions: those that stand in each theorem. Written by my drive.py, which calls the printer of the kit for what that covers. -/
import Derived.Test.YtbbafhpnlmmjjaaRows
import Derived.Test.YtbbafhpnlmmjjaaHAx7
import Derived.Test.YtbbafhpnlmmjjaaPureGroupFlows
import Derived.Test.YtbbafhpnlmmjjaaOpen
import Derived.WalkKit
import Derived.ProofKit
import Derived.OpenShut
import Derived.ShutString
import Derived.ChangeOld
import Derived.Below
import Derived.SizedLaws
import Derived.Carry
namespace Go.Proofs.Ytbbafhpnlmmjjaa.groupFlows
open Go.ChangeShapes Go.WideShapes Go.ChangeAt Go.RowKit Go.Proofs.YtbbafhpnlmmjjaaW.PrintWords
open Go.ChangeMaps (open_string shut_string)
set_option linter.unusedVariables false
set_option linter.unusedSimpArgs false
theorem own : ownKnob Try.prog.godebug = none := by kernel_rfl
theorem laidOut : laidOutB Try.prog = true := by kernel_rfl
theorem list5 {α : Type} : ∀ l : List α, l.length = 5 → ∃ c0 c1 c2 c3 c4, l = [c0, c1, c2, c3, c4]
  | [c0, c1, c2, c3, c4], _ => ⟨c0, c1, c2, c3, c4, rfl⟩
theorem open_T25 {H : Type} {enc : TypeId × Value → H} {W : World} {cs : Array Value} {d : DataW H} {ps : List MemPlace} (h : DataW.Trod enc Try.prog W 0 (fun _ => true) true 25 (.agg cs) d ps) :
    ∃ (a0 : Int) (a1 : Int) (a2 : Int) (a3 : Int) (a4 : Int), cs = #[.int .i64 a0, .int .u32 a1, .int .u32 a2, .int .i64 a3, .int .i64 a4] ∧ (Lit.int .i64 a0).wf = true ∧ (Lit.int .u32 a1).wf = true ∧ (Lit.int .u32 a2).wf = true ∧ (Lit.int .i64 a3).wf = true ∧ (Lit.int .i64 a4).wf = true := by
  obtain ⟨fuel, hf⟩ := h
  have hf : DataW.trod enc Try.prog W 0 (fun _ => true) true fuel 25 cs.toList = some (d, ps) := hf
  cases cs with
  | mk l =>
  have hf : DataW.trod enc Try.prog W 0 (fun _ => true) true fuel 25 l = some (d, ps) := hf
  obtain ⟨xs0, n0, _, _, hl0, hx0, hF0⟩ := DataW.trod_struct Try.underlying25 hf
  have hl0 : l.length = 5 := hl0.trans (by kernel_rfl)
  obtain ⟨c0, c1, c2, c3, c4, rfl⟩ := list5 l hl0
  have g0_0 := hF0 0 _ rfl
  obtain ⟨y0_0, e0_0⟩ : ∃ y, xs0[0]? = some y := ⟨_, List.getElem?_eq_getElem (by rw [hx0]; decide)⟩
  rw [e0_0] at g0_0
  have k0_0 : DataW.trod enc Try.prog W 0 (fun _ => true) true n0 3 [c0] = some y0_0 := by
    have z : Try.prog.cellsOf 3 = 1 := by kernel_rfl
    have g2 : DataW.trod enc Try.prog W 0 (fun _ => true) true n0 3 ((([c0, c1, c2, c3, c4] : List Value).drop 0).take (Try.prog.cellsOf 3)) = some y0_0 := g0_0
    rw [z] at g2
    exact g2
  clear g0_0
  obtain ⟨a0, z0, _, w0⟩ := DataW.trod_int Try.underlying3 k0_0
  injection z0 with z0 _
  have g0_1 := hF0 1 _ rfl
  obtain ⟨y0_1, e0_1⟩ : ∃ y, xs0[1]? = some y := ⟨_, List.getElem?_eq_getElem (by rw [hx0]; decide)⟩
  rw [e0_1] at g0_1
  have k0_1 : DataW.trod enc Try.prog W 0 (fun _ => true) true n0 23 [c1] = some y0_1 := by
    have z : Try.prog.cellsOf 23 = 1 := by kernel_rfl
    have g2 : DataW.trod enc Try.prog W 0 (fun _ => true) true n0 23 ((([c0, c1, c2, c3, c4] : List Value).drop 1).take (Try.prog.cellsOf 23)) = some y0_1 := g0_1
    rw [z] at g2
    exact g2
  clear g0_1
  obtain ⟨a1, z1, _, w1⟩ := DataW.trod_int Try.underlying23 k0_1
  injection z1 with z1 _
  have g0_2 := hF0 2 _ rfl
  obtain ⟨y0_2, e0_2⟩ : ∃ y, xs0[2]? = some y := ⟨_, List.getElem?_eq_getElem (by rw [hx0]; decide)⟩
  rw [e0_2] at g0_2
  have k0_2 : DataW.trod enc Try.prog W 0 (fun _ => true) true n0 23 [c2] = some y0_2 := by
    have z : Try.prog.cellsOf 23 = 1 := by kernel_rfl
    have g2 : DataW.trod enc Try.prog W 0 (fun _ => true) true n0 23 ((([c0, c1, c2, c3, c4] : List Value).drop 2).take (Try.prog.cellsOf 23)) = some y0_2 := g0_2
    rw [z] at g2
    exact g2
  clear g0_2
  obtain ⟨a2, z2, _, w2⟩ := DataW.trod_int Try.underlying23 k0_2
  injection z2 with z2 _
  have g0_3 := hF0 3 _ rfl
  obtain ⟨y0_3, e0_3⟩ : ∃ y, xs0[3]? = some y := ⟨_, List.getElem?_eq_getElem (by rw [hx0]; decide)⟩
  rw [e0_3] at g0_3
  have k0_3 : DataW.trod enc Try.prog W 0 (fun _ => true) true n0 3 [c3] = some y0_3 := by
    have z : Try.prog.cellsOf 3 = 1 := by kernel_rfl
    have g2 : DataW.trod enc Try.prog W 0 (fun _ => true) true n0 3 ((([c0, c1, c2, c3, c4] : List Value).drop 3).take (Try.prog.cellsOf 3)) = some y0_3 := g0_3
    rw [z] at g2
    exact g2
  clear g0_3
  obtain ⟨a3, z3, _, w3⟩ := DataW.trod_int Try.underlying3 k0_3
  injection z3 with z3 _
  have g0_4 := hF0 4 _ rfl
  obtain ⟨y0_4, e0_4⟩ : ∃ y, xs0[4]? = some y := ⟨_, List.getElem?_eq_getElem (by rw [hx0]; decide)⟩
  rw [e0_4] at g0_4
  have k0_4 : DataW.trod enc Try.prog W 0 (fun _ => true) true n0 3 [c4] = some y0_4 := by
    have z : Try.prog.cellsOf 3 = 1 := by kernel_rfl
    have g2 : DataW.trod enc Try.prog W 0 (fun _ => true) true n0 3 ((([c0, c1, c2, c3, c4] : List Value).drop 4).take (Try.prog.cellsOf 3)) = some y0_4 := g0_4
    rw [z] at g2
    exact g2
  clear g0_4
  obtain ⟨a4, z4, _, w4⟩ := DataW.trod_int Try.underlying3 k0_4
  injection z4 with z4 _
  subst z0
  subst z1
  subst z2
  subst z3
  subst z4
  exact ⟨a0, a1, a2, a3, a4, rfl, w0, w1, w2, w3, w4⟩
set_option maxRecDepth 100000 in
theorem lifted (os : Os) (started : os.Started) (H : Type) (enc : TypeId × Value → H) :
    ReturnsInHanded {} Try.checked os 6 .any (Rows.groupFlowsSpec.pre6 enc Try.prog Try.f6 Rows.groupFlowsRow.domain false) (Rows.groupFlowsSpec.post enc Try.prog Try.f6 false true false false) := by
  refine returnsInHanded_of_change_sized (C := Try.checked) own started (by kernel_rfl) Try.func6
    (ChangeSpec.witness6 (enc := enc) (C := Try.checked) false ⟨#[], #[.slice none 0 0, .agg #[(.int .i64 0), (.int .u32 0), (.int .u32 0), (.int .i64 0), (.int .i64 0)]], []⟩ 8 (by kernel_rfl) (by kernel_rfl) (by kernel_rfl) (by kernel_rfl)) ?_
  intro W base args ds gs before hval0 hW hcnd hsz0 _
  have hsz : (DataW.weightsEach Try.prog (Try.f6.params.toList ++ Rows.groupFlowsSpec.plain.varTypes Try.prog) (ds ++ gs)).all (· ≤ reachBytes) = true := hsz0
  have hval : ∀ (j : Nat) t v, Try.f6.params[j]? = some t → args[j]? = some v → Value.okWide Try.prog W .any base t v := hval0
  have hW' := hW
  obtain ⟨p, q, hA0, hV, rfl, hfz, hnd⟩ := hW
  have hA : DataW.TrodAll enc Try.prog W 0 (fun _ => true) true Try.f6.params.toList args.toList ds p := hA0
  rw [Try.params6] at hA hval hsz
  obtain ⟨v0, vs0, d0, ds0, p0, q0, hargs, rfl, rfl, h0, r0⟩ := trodAll_cons hA
  obtain ⟨v1, vs1, d1, ds1, p1, q1, rfl, rfl, rfl, h1, r1⟩ := trodAll_cons r0
  obtain ⟨rfl, rfl, rfl⟩ := trodAll_nil r1
  obtain rfl : args = #[v0, v1] := by cases args; simp_all
  obtain ⟨rfl, rfl⟩ := trodVars_none hV
  obtain ⟨b0, len0, cap0, rfl⟩ := okWide_slice Try.underlying39 (hval 0 39 v0 rfl rfl)
  have k0 := h0
  have lt0 : ∀ x ∈ p0, x.block < W.heap.size := by obtain ⟨m, hm⟩ := k0; exact DataW.trod_lt m _ _ _ hm
  obtain ⟨l0, rfl, hc0, hr0, w0⟩ := Open.open_nums Try.underlying39 Try.underlying3 (by kernel_rfl) h0
  obtain ⟨cs1, rfl, _⟩ := okWide_struct Try.underlying25 (hval 1 25 v1 rfl rfl)
  have k1 := h1
  have lt1 : ∀ x ∈ p1, x.block < W.heap.size := by obtain ⟨m, hm⟩ := k1; exact DataW.trod_lt m _ _ _ hm
  obtain ⟨a1_0, a1_1, a1_2, a1_3, a1_4, rfl, w1_0, w1_1, w1_2, w1_3, w1_4⟩ := open_T25 h1
  clear hA0 hval0 hsz0 hsz
  obtain ⟨kk, h⟩ := Pure.GroupFlows l0 a1_0 a1_1 a1_2 a1_3 a1_4 w0 w1_0 w1_1 w1_2 w1_3 w1_4
  refine (HA.rampartlaw18_GroupFlows.calls kk b0 cap0 l0 a1_0 a1_1 a1_2 a1_3 a1_4 true W hr0 hc0 h rfl).mono fun e W' ⟨he, bel⟩ => ?_
  subst he
  exact ⟨_, rfl, _, _, _, [], _, [], hW', trodAll_mk1 (shut_bool Try.underlying4 _), (trodAll_cons_mk (Below.trod laidOut (by kernel_rfl) (of_decide_eq_true (by kernel_rfl)) k0 bel lt0) (trodAll_cons_mk (Below.trod laidOut (by kernel_rfl) (of_decide_eq_true (by kernel_rfl)) k1 bel lt1) trodAll_mk0)), rfl, bel.frame _, fun h => by cases h⟩
theorem over : Rows.groupFlowsRow.holds Try.pinned (OpenSpec.ofChange Rows.groupFlowsSpec) :=
  OpenClaim.holds_of_wide 6 Try.f6 rfl rfl rfl rfl rfl rfl rfl ⟨rfl, rfl, rfl, rfl, rfl⟩ rfl rfl rfl rfl rfl (by kernel_rfl) Try.func6 (by kernel_rfl)
    (of_decide_eq_true (by kernel_rfl)) (by unfold Func.isWrapper; first | (rw [if_pos (by decide +kernel)]; kernel_rfl) | (rw [if_neg (by decide +kernel)]; exact ⟨rfl, rfl⟩))
    (fun os started H enc _ => lifted os started H enc)
theorem proved : Rows.GroupFlowsSaid := over
#print axioms proved
end Go.Proofs.Ytbbafhpnlmmjjaa.groupFlows
namespace Go.Proofs.Ytbbafhpnlmmjjaa
/-- The row, under a short name, for the claim. -/
theorem groupFlows_holds : Rows.GroupFlowsSaid := groupFlows.proved
end Go.Proofs.Ytbbafhpnlmmjjaa
