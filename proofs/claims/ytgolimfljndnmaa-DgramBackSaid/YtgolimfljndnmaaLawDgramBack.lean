/- What is proved: each Go function of this text answers as the plain Lean function beside it (a law: its given row, out of the plain statement). Conditions: those that stand in each theorem. Written by my drive.py, which calls the printer of the kit for what that covers. -/
import Derived.Test.YtgolimfljndnmaaRows
import Derived.Test.YtgolimfljndnmaaHFx11
import Derived.Test.YtgolimfljndnmaaPureDgramBack
import Derived.Test.YtgolimfljndnmaaOpen
import Derived.WalkKit
import Derived.ProofKit
import Derived.OpenShut
import Derived.ShutString
import Derived.ChangeOld
import Derived.Below
import Derived.SizedLaws
import Derived.Carry
namespace Go.Proofs.Ytgolimfljndnmaa.dgramBack
open Go.ChangeShapes Go.WideShapes Go.ChangeAt Go.RowKit Go.Proofs.YtgolimfljndnmaaW.PrintWords
open Go.ChangeMaps (open_string shut_string)
set_option linter.unusedVariables false
set_option linter.unusedSimpArgs false
theorem own : ownKnob Try.prog.godebug = none := by kernel_rfl
theorem laidOut : laidOutB Try.prog = true := by kernel_rfl
theorem list5 {α : Type} : ∀ l : List α, l.length = 5 → ∃ c0 c1 c2 c3 c4, l = [c0, c1, c2, c3, c4]
  | [c0, c1, c2, c3, c4], _ => ⟨c0, c1, c2, c3, c4, rfl⟩
theorem open_T53 {H : Type} {enc : TypeId × Value → H} {W : World} {cs : Array Value} {d : DataW H} {ps : List MemPlace} (h : DataW.Trod enc Try.prog W 0 (fun _ => true) true 53 (.agg cs) d ps) :
    ∃ (a0 : Int) (a1 : Int) (a2 : Int) (a3 : Int) (a4 : Int), cs = #[.int .i64 a0, .int .i64 a1, .int .i64 a2, .int .i64 a3, .int .u32 a4] ∧ (Lit.int .i64 a0).wf = true ∧ (Lit.int .i64 a1).wf = true ∧ (Lit.int .i64 a2).wf = true ∧ (Lit.int .i64 a3).wf = true ∧ (Lit.int .u32 a4).wf = true := by
  obtain ⟨fuel, hf⟩ := h
  have hf : DataW.trod enc Try.prog W 0 (fun _ => true) true fuel 53 cs.toList = some (d, ps) := hf
  cases cs with
  | mk l =>
  have hf : DataW.trod enc Try.prog W 0 (fun _ => true) true fuel 53 l = some (d, ps) := hf
  obtain ⟨xs0, n0, _, _, hl0, hx0, hF0⟩ := DataW.trod_struct Try.underlying53 hf
  have hl0 : l.length = 5 := hl0.trans (by kernel_rfl)
  obtain ⟨c0, c1, c2, c3, c4, rfl⟩ := list5 l hl0
  have g0_0 := hF0 0 _ rfl
  obtain ⟨y0_0, e0_0⟩ : ∃ y, xs0[0]? = some y := ⟨_, List.getElem?_eq_getElem (by rw [hx0]; decide)⟩
  rw [e0_0] at g0_0
  have k0_0 : DataW.trod enc Try.prog W 0 (fun _ => true) true n0 3 [c0] = some y0_0 := by
    have z : Try.prog.cellsOf 3 = 1 := by kernel_rfl
    have g2 : DataW.trod enc Try.prog W 0 (fun _ => true) true n0 3 ((([c0, c1, c2, c3, c4] : List Value).drop 0).take (Try.prog.cellsOf 3)) = some y0_0 := g0_0
    rw [z] at g2
    exact g2
  clear g0_0
  obtain ⟨a0, z0, _, w0⟩ := DataW.trod_int Try.underlying3 k0_0
  injection z0 with z0 _
  have g0_1 := hF0 1 _ rfl
  obtain ⟨y0_1, e0_1⟩ : ∃ y, xs0[1]? = some y := ⟨_, List.getElem?_eq_getElem (by rw [hx0]; decide)⟩
  rw [e0_1] at g0_1
  have k0_1 : DataW.trod enc Try.prog W 0 (fun _ => true) true n0 3 [c1] = some y0_1 := by
    have z : Try.prog.cellsOf 3 = 1 := by kernel_rfl
    have g2 : DataW.trod enc Try.prog W 0 (fun _ => true) true n0 3 ((([c0, c1, c2, c3, c4] : List Value).drop 1).take (Try.prog.cellsOf 3)) = some y0_1 := g0_1
    rw [z] at g2
    exact g2
  clear g0_1
  obtain ⟨a1, z1, _, w1⟩ := DataW.trod_int Try.underlying3 k0_1
  injection z1 with z1 _
  have g0_2 := hF0 2 _ rfl
  obtain ⟨y0_2, e0_2⟩ : ∃ y, xs0[2]? = some y := ⟨_, List.getElem?_eq_getElem (by rw [hx0]; decide)⟩
  rw [e0_2] at g0_2
  have k0_2 : DataW.trod enc Try.prog W 0 (fun _ => true) true n0 3 [c2] = some y0_2 := by
    have z : Try.prog.cellsOf 3 = 1 := by kernel_rfl
    have g2 : DataW.trod enc Try.prog W 0 (fun _ => true) true n0 3 ((([c0, c1, c2, c3, c4] : List Value).drop 2).take (Try.prog.cellsOf 3)) = some y0_2 := g0_2
    rw [z] at g2
    exact g2
  clear g0_2
  obtain ⟨a2, z2, _, w2⟩ := DataW.trod_int Try.underlying3 k0_2
  injection z2 with z2 _
  have g0_3 := hF0 3 _ rfl
  obtain ⟨y0_3, e0_3⟩ : ∃ y, xs0[3]? = some y := ⟨_, List.getElem?_eq_getElem (by rw [hx0]; decide)⟩
  rw [e0_3] at g0_3
  have k0_3 : DataW.trod enc Try.prog W 0 (fun _ => true) true n0 3 [c3] = some y0_3 := by
    have z : Try.prog.cellsOf 3 = 1 := by kernel_rfl
    have g2 : DataW.trod enc Try.prog W 0 (fun _ => true) true n0 3 ((([c0, c1, c2, c3, c4] : List Value).drop 3).take (Try.prog.cellsOf 3)) = some y0_3 := g0_3
    rw [z] at g2
    exact g2
  clear g0_3
  obtain ⟨a3, z3, _, w3⟩ := DataW.trod_int Try.underlying3 k0_3
  injection z3 with z3 _
  have g0_4 := hF0 4 _ rfl
  obtain ⟨y0_4, e0_4⟩ : ∃ y, xs0[4]? = some y := ⟨_, List.getElem?_eq_getElem (by rw [hx0]; decide)⟩
  rw [e0_4] at g0_4
  have k0_4 : DataW.trod enc Try.prog W 0 (fun _ => true) true n0 22 [c4] = some y0_4 := by
    have z : Try.prog.cellsOf 22 = 1 := by kernel_rfl
    have g2 : DataW.trod enc Try.prog W 0 (fun _ => true) true n0 22 ((([c0, c1, c2, c3, c4] : List Value).drop 4).take (Try.prog.cellsOf 22)) = some y0_4 := g0_4
    rw [z] at g2
    exact g2
  clear g0_4
  obtain ⟨a4, z4, _, w4⟩ := DataW.trod_int Try.underlying22 k0_4
  injection z4 with z4 _
  subst z0
  subst z1
  subst z2
  subst z3
  subst z4
  exact ⟨a0, a1, a2, a3, a4, rfl, w0, w1, w2, w3, w4⟩
set_option maxRecDepth 100000 in
theorem lifted (os : Os) (started : os.Started) (H : Type) (enc : TypeId × Value → H) :
    ReturnsInHanded {} Try.checked os 13 .any (Rows.dgramBackSpec.pre6 enc Try.prog Try.f13 Rows.dgramBackRow.domain false) (Rows.dgramBackSpec.post enc Try.prog Try.f13 false true false false) := by
  refine returnsInHanded_of_change_sized (C := Try.checked) own started (by kernel_rfl) Try.func13
    (ChangeSpec.witness6 (enc := enc) (C := Try.checked) false ⟨#[], #[.int .u32 0, .int .u32 0, .agg #[(.int .i64 0), (.int .i64 0), (.int .i64 0), (.int .i64 0), (.int .u32 0)], .string ByteArray.empty, .int .i64 0], []⟩ 8 (by kernel_rfl) (by kernel_rfl) (by kernel_rfl) (by kernel_rfl)) ?_
  intro W base args ds gs before hval0 hW hcnd hsz0 _
  have hsz : (DataW.weightsEach Try.prog (Try.f13.params.toList ++ Rows.dgramBackSpec.plain.varTypes Try.prog) (ds ++ gs)).all (· ≤ reachBytes) = true := hsz0
  have hval : ∀ (j : Nat) t v, Try.f13.params[j]? = some t → args[j]? = some v → Value.okWide Try.prog W .any base t v := hval0
  have hW' := hW
  obtain ⟨p, q, hA0, hV, rfl, hfz, hnd⟩ := hW
  have hA : DataW.TrodAll enc Try.prog W 0 (fun _ => true) true Try.f13.params.toList args.toList ds p := hA0
  rw [Try.params13] at hA hval hsz
  obtain ⟨v0, vs0, d0, ds0, p0, q0, hargs, rfl, rfl, h0, r0⟩ := trodAll_cons hA
  obtain ⟨v1, vs1, d1, ds1, p1, q1, rfl, rfl, rfl, h1, r1⟩ := trodAll_cons r0
  obtain ⟨v2, vs2, d2, ds2, p2, q2, rfl, rfl, rfl, h2, r2⟩ := trodAll_cons r1
  obtain ⟨v3, vs3, d3, ds3, p3, q3, rfl, rfl, rfl, h3, r3⟩ := trodAll_cons r2
  obtain ⟨v4, vs4, d4, ds4, p4, q4, rfl, rfl, rfl, h4, r4⟩ := trodAll_cons r3
  obtain ⟨rfl, rfl, rfl⟩ := trodAll_nil r4
  obtain rfl : args = #[v0, v1, v2, v3, v4] := by cases args; simp_all
  obtain ⟨rfl, rfl⟩ := trodVars_none hV
  obtain ⟨a0, rfl, rfl, rfl, w0⟩ := open_int Try.underlying22 (hval 0 22 v0 rfl rfl) h0
  obtain ⟨a1, rfl, rfl, rfl, w1⟩ := open_int Try.underlying22 (hval 1 22 v1 rfl rfl) h1
  obtain ⟨cs2, rfl, _⟩ := okWide_struct Try.underlying53 (hval 2 53 v2 rfl rfl)
  have k2 := h2
  have lt2 : ∀ x ∈ p2, x.block < W.heap.size := by obtain ⟨m, hm⟩ := k2; exact DataW.trod_lt m _ _ _ hm
  obtain ⟨a2_0, a2_1, a2_2, a2_3, a2_4, rfl, w2_0, w2_1, w2_2, w2_3, w2_4⟩ := open_T53 h2
  obtain ⟨a3, rfl, rfl, rfl, y3⟩ := open_string Try.underlying9 (hval 3 9 v3 rfl rfl) h3
  have w3 : a3.size ≤ 140737488351232 := by
    have z := sized_string hsz (j := 3) (t := 9) rfl rfl
    rw [Array.length_toList] at z
    exact z
  obtain ⟨a4, rfl, rfl, rfl, w4⟩ := open_int Try.underlying3 (hval 4 3 v4 rfl rfl) h4
  clear hA0 hval0 hsz0 hsz
  obtain ⟨kk, h⟩ := Pure.DgramBack a0 a1 a2_0 a2_1 a2_2 a2_3 a2_4 a3 a4 w0 w1 w2_0 w2_1 w2_2 w2_3 w2_4 w3 w4
  refine (HF.rampartlaw05_DgramBack.calls kk a0 a1 a2_0 a2_1 a2_2 a2_3 a2_4 a3 a4 true W  h rfl).mono fun e W' ⟨he, bel⟩ => ?_
  subst he
  exact ⟨_, rfl, _, _, _, [], _, [], hW', trodAll_mk1 (shut_bool Try.underlying4 _), (trodAll_cons_mk (shut_int Try.underlying22 w0) (trodAll_cons_mk (shut_int Try.underlying22 w1) (trodAll_cons_mk (Below.trod laidOut (by kernel_rfl) (of_decide_eq_true (by kernel_rfl)) k2 bel lt2) (trodAll_cons_mk (shut_string Try.underlying9 y3) (trodAll_cons_mk (shut_int Try.underlying3 w4) trodAll_mk0))))), rfl, bel.frame _, fun h => by cases h⟩
theorem over : Rows.dgramBackRow.holds Try.pinned (OpenSpec.ofChange Rows.dgramBackSpec) :=
  OpenClaim.holds_of_wide 13 Try.f13 rfl rfl rfl rfl rfl rfl rfl ⟨rfl, rfl, rfl, rfl, rfl⟩ rfl rfl rfl rfl rfl (by kernel_rfl) Try.func13 (by kernel_rfl)
    (of_decide_eq_true (by kernel_rfl)) (by unfold Func.isWrapper; first | (rw [if_pos (by decide +kernel)]; kernel_rfl) | (rw [if_neg (by decide +kernel)]; exact ⟨rfl, rfl⟩))
    (fun os started H enc _ => lifted os started H enc)
theorem proved : Rows.DgramBackSaid := over
#print axioms proved
end Go.Proofs.Ytgolimfljndnmaa.dgramBack
namespace Go.Proofs.Ytgolimfljndnmaa
/-- The row, under a short name, for the claim. -/
theorem dgramBack_holds : Rows.DgramBackSaid := dgramBack.proved
end Go.Proofs.Ytgolimfljndnmaa
