/- What is proved: each Go function of this text answers as the plain Lean function beside it (a law: its given row, out of the plain statement). Conditions: those that stand in each theorem. Written by my drive.py, which calls the printer of the kit for what that covers. -/
import Derived.Test.YtgolimfljndnmaaRows
import Derived.Test.YtgolimfljndnmaaHBx8
import Derived.Test.YtgolimfljndnmaaPureIpv4Back
import Derived.Test.YtgolimfljndnmaaOpen
import Derived.WalkKit
import Derived.ProofKit
import Derived.OpenShut
import Derived.ShutString
import Derived.ChangeOld
import Derived.Below
import Derived.SizedLaws
import Derived.Carry
namespace Go.Proofs.Ytgolimfljndnmaa.ipv4Back
open Go.ChangeShapes Go.WideShapes Go.ChangeAt Go.RowKit Go.Proofs.YtgolimfljndnmaaW.PrintWords
open Go.ChangeMaps (open_string shut_string)
set_option linter.unusedVariables false
set_option linter.unusedSimpArgs false
theorem own : ownKnob Try.prog.godebug = none := by kernel_rfl
theorem laidOut : laidOutB Try.prog = true := by kernel_rfl
theorem list10 {α : Type} : ∀ l : List α, l.length = 10 → ∃ c0 c1 c2 c3 c4 c5 c6 c7 c8 c9, l = [c0, c1, c2, c3, c4, c5, c6, c7, c8, c9]
  | [c0, c1, c2, c3, c4, c5, c6, c7, c8, c9], _ => ⟨c0, c1, c2, c3, c4, c5, c6, c7, c8, c9, rfl⟩
theorem open_T24 {H : Type} {enc : TypeId × Value → H} {W : World} {cs : Array Value} {d : DataW H} {ps : List MemPlace} (h : DataW.Trod enc Try.prog W 0 (fun _ => true) true 24 (.agg cs) d ps) :
    ∃ (a0 : Int) (a1 : Int) (a2 : Bool) (a3 : Bool) (a4 : Int) (a5 : Int) (a6 : Int) (a7 : Int) (a8 : Int) (a9 : ByteArray), cs = #[.int .i64 a0, .int .i64 a1, .bool a2, .bool a3, .int .i64 a4, .int .i64 a5, .int .i64 a6, .int .u32 a7, .int .u32 a8, .string a9] ∧ (Lit.int .i64 a0).wf = true ∧ (Lit.int .i64 a1).wf = true ∧ True ∧ True ∧ (Lit.int .i64 a4).wf = true ∧ (Lit.int .i64 a5).wf = true ∧ (Lit.int .i64 a6).wf = true ∧ (Lit.int .u32 a7).wf = true ∧ (Lit.int .u32 a8).wf = true ∧ a9.size ≤ maxLen := by
  obtain ⟨fuel, hf⟩ := h
  have hf : DataW.trod enc Try.prog W 0 (fun _ => true) true fuel 24 cs.toList = some (d, ps) := hf
  cases cs with
  | mk l =>
  have hf : DataW.trod enc Try.prog W 0 (fun _ => true) true fuel 24 l = some (d, ps) := hf
  obtain ⟨xs0, n0, _, _, hl0, hx0, hF0⟩ := DataW.trod_struct Try.underlying24 hf
  have hl0 : l.length = 10 := hl0.trans (by kernel_rfl)
  obtain ⟨c0, c1, c2, c3, c4, c5, c6, c7, c8, c9, rfl⟩ := list10 l hl0
  have g0_0 := hF0 0 _ rfl
  obtain ⟨y0_0, e0_0⟩ : ∃ y, xs0[0]? = some y := ⟨_, List.getElem?_eq_getElem (by rw [hx0]; decide)⟩
  rw [e0_0] at g0_0
  have k0_0 : DataW.trod enc Try.prog W 0 (fun _ => true) true n0 3 [c0] = some y0_0 := by
    have z : Try.prog.cellsOf 3 = 1 := by kernel_rfl
    have g2 : DataW.trod enc Try.prog W 0 (fun _ => true) true n0 3 ((([c0, c1, c2, c3, c4, c5, c6, c7, c8, c9] : List Value).drop 0).take (Try.prog.cellsOf 3)) = some y0_0 := g0_0
    rw [z] at g2
    exact g2
  clear g0_0
  obtain ⟨a0, z0, _, w0⟩ := DataW.trod_int Try.underlying3 k0_0
  injection z0 with z0 _
  have g0_1 := hF0 1 _ rfl
  obtain ⟨y0_1, e0_1⟩ : ∃ y, xs0[1]? = some y := ⟨_, List.getElem?_eq_getElem (by rw [hx0]; decide)⟩
  rw [e0_1] at g0_1
  have k0_1 : DataW.trod enc Try.prog W 0 (fun _ => true) true n0 3 [c1] = some y0_1 := by
    have z : Try.prog.cellsOf 3 = 1 := by kernel_rfl
    have g2 : DataW.trod enc Try.prog W 0 (fun _ => true) true n0 3 ((([c0, c1, c2, c3, c4, c5, c6, c7, c8, c9] : List Value).drop 1).take (Try.prog.cellsOf 3)) = some y0_1 := g0_1
    rw [z] at g2
    exact g2
  clear g0_1
  obtain ⟨a1, z1, _, w1⟩ := DataW.trod_int Try.underlying3 k0_1
  injection z1 with z1 _
  have g0_2 := hF0 2 _ rfl
  obtain ⟨y0_2, e0_2⟩ : ∃ y, xs0[2]? = some y := ⟨_, List.getElem?_eq_getElem (by rw [hx0]; decide)⟩
  rw [e0_2] at g0_2
  have k0_2 : DataW.trod enc Try.prog W 0 (fun _ => true) true n0 4 [c2] = some y0_2 := by
    have z : Try.prog.cellsOf 4 = 1 := by kernel_rfl
    have g2 : DataW.trod enc Try.prog W 0 (fun _ => true) true n0 4 ((([c0, c1, c2, c3, c4, c5, c6, c7, c8, c9] : List Value).drop 2).take (Try.prog.cellsOf 4)) = some y0_2 := g0_2
    rw [z] at g2
    exact g2
  clear g0_2
  obtain ⟨a2, z2, _⟩ := DataW.trod_bool Try.underlying4 k0_2
  have w2 := trivial
  injection z2 with z2 _
  have g0_3 := hF0 3 _ rfl
  obtain ⟨y0_3, e0_3⟩ : ∃ y, xs0[3]? = some y := ⟨_, List.getElem?_eq_getElem (by rw [hx0]; decide)⟩
  rw [e0_3] at g0_3
  have k0_3 : DataW.trod enc Try.prog W 0 (fun _ => true) true n0 4 [c3] = some y0_3 := by
    have z : Try.prog.cellsOf 4 = 1 := by kernel_rfl
    have g2 : DataW.trod enc Try.prog W 0 (fun _ => true) true n0 4 ((([c0, c1, c2, c3, c4, c5, c6, c7, c8, c9] : List Value).drop 3).take (Try.prog.cellsOf 4)) = some y0_3 := g0_3
    rw [z] at g2
    exact g2
  clear g0_3
  obtain ⟨a3, z3, _⟩ := DataW.trod_bool Try.underlying4 k0_3
  have w3 := trivial
  injection z3 with z3 _
  have g0_4 := hF0 4 _ rfl
  obtain ⟨y0_4, e0_4⟩ : ∃ y, xs0[4]? = some y := ⟨_, List.getElem?_eq_getElem (by rw [hx0]; decide)⟩
  rw [e0_4] at g0_4
  have k0_4 : DataW.trod enc Try.prog W 0 (fun _ => true) true n0 3 [c4] = some y0_4 := by
    have z : Try.prog.cellsOf 3 = 1 := by kernel_rfl
    have g2 : DataW.trod enc Try.prog W 0 (fun _ => true) true n0 3 ((([c0, c1, c2, c3, c4, c5, c6, c7, c8, c9] : List Value).drop 4).take (Try.prog.cellsOf 3)) = some y0_4 := g0_4
    rw [z] at g2
    exact g2
  clear g0_4
  obtain ⟨a4, z4, _, w4⟩ := DataW.trod_int Try.underlying3 k0_4
  injection z4 with z4 _
  have g0_5 := hF0 5 _ rfl
  obtain ⟨y0_5, e0_5⟩ : ∃ y, xs0[5]? = some y := ⟨_, List.getElem?_eq_getElem (by rw [hx0]; decide)⟩
  rw [e0_5] at g0_5
  have k0_5 : DataW.trod enc Try.prog W 0 (fun _ => true) true n0 3 [c5] = some y0_5 := by
    have z : Try.prog.cellsOf 3 = 1 := by kernel_rfl
    have g2 : DataW.trod enc Try.prog W 0 (fun _ => true) true n0 3 ((([c0, c1, c2, c3, c4, c5, c6, c7, c8, c9] : List Value).drop 5).take (Try.prog.cellsOf 3)) = some y0_5 := g0_5
    rw [z] at g2
    exact g2
  clear g0_5
  obtain ⟨a5, z5, _, w5⟩ := DataW.trod_int Try.underlying3 k0_5
  injection z5 with z5 _
  have g0_6 := hF0 6 _ rfl
  obtain ⟨y0_6, e0_6⟩ : ∃ y, xs0[6]? = some y := ⟨_, List.getElem?_eq_getElem (by rw [hx0]; decide)⟩
  rw [e0_6] at g0_6
  have k0_6 : DataW.trod enc Try.prog W 0 (fun _ => true) true n0 3 [c6] = some y0_6 := by
    have z : Try.prog.cellsOf 3 = 1 := by kernel_rfl
    have g2 : DataW.trod enc Try.prog W 0 (fun _ => true) true n0 3 ((([c0, c1, c2, c3, c4, c5, c6, c7, c8, c9] : List Value).drop 6).take (Try.prog.cellsOf 3)) = some y0_6 := g0_6
    rw [z] at g2
    exact g2
  clear g0_6
  obtain ⟨a6, z6, _, w6⟩ := DataW.trod_int Try.underlying3 k0_6
  injection z6 with z6 _
  have g0_7 := hF0 7 _ rfl
  obtain ⟨y0_7, e0_7⟩ : ∃ y, xs0[7]? = some y := ⟨_, List.getElem?_eq_getElem (by rw [hx0]; decide)⟩
  rw [e0_7] at g0_7
  have k0_7 : DataW.trod enc Try.prog W 0 (fun _ => true) true n0 22 [c7] = some y0_7 := by
    have z : Try.prog.cellsOf 22 = 1 := by kernel_rfl
    have g2 : DataW.trod enc Try.prog W 0 (fun _ => true) true n0 22 ((([c0, c1, c2, c3, c4, c5, c6, c7, c8, c9] : List Value).drop 7).take (Try.prog.cellsOf 22)) = some y0_7 := g0_7
    rw [z] at g2
    exact g2
  clear g0_7
  obtain ⟨a7, z7, _, w7⟩ := DataW.trod_int Try.underlying22 k0_7
  injection z7 with z7 _
  have g0_8 := hF0 8 _ rfl
  obtain ⟨y0_8, e0_8⟩ : ∃ y, xs0[8]? = some y := ⟨_, List.getElem?_eq_getElem (by rw [hx0]; decide)⟩
  rw [e0_8] at g0_8
  have k0_8 : DataW.trod enc Try.prog W 0 (fun _ => true) true n0 22 [c8] = some y0_8 := by
    have z : Try.prog.cellsOf 22 = 1 := by kernel_rfl
    have g2 : DataW.trod enc Try.prog W 0 (fun _ => true) true n0 22 ((([c0, c1, c2, c3, c4, c5, c6, c7, c8, c9] : List Value).drop 8).take (Try.prog.cellsOf 22)) = some y0_8 := g0_8
    rw [z] at g2
    exact g2
  clear g0_8
  obtain ⟨a8, z8, _, w8⟩ := DataW.trod_int Try.underlying22 k0_8
  injection z8 with z8 _
  have g0_9 := hF0 9 _ rfl
  obtain ⟨y0_9, e0_9⟩ : ∃ y, xs0[9]? = some y := ⟨_, List.getElem?_eq_getElem (by rw [hx0]; decide)⟩
  rw [e0_9] at g0_9
  have k0_9 : DataW.trod enc Try.prog W 0 (fun _ => true) true n0 9 [c9] = some y0_9 := by
    have z : Try.prog.cellsOf 9 = 1 := by kernel_rfl
    have g2 : DataW.trod enc Try.prog W 0 (fun _ => true) true n0 9 ((([c0, c1, c2, c3, c4, c5, c6, c7, c8, c9] : List Value).drop 9).take (Try.prog.cellsOf 9)) = some y0_9 := g0_9
    rw [z] at g2
    exact g2
  clear g0_9
  obtain ⟨a9, z9, _, w9⟩ := DataW.trod_string Try.underlying9 k0_9
  injection z9 with z9 _
  subst z0
  subst z1
  subst z2
  subst z3
  subst z4
  subst z5
  subst z6
  subst z7
  subst z8
  subst z9
  exact ⟨a0, a1, a2, a3, a4, a5, a6, a7, a8, a9, rfl, w0, w1, w2, w3, w4, w5, w6, w7, w8, w9⟩
set_option maxRecDepth 100000 in
theorem lifted (os : Os) (started : os.Started) (H : Type) (enc : TypeId × Value → H) :
    ReturnsInHanded {} Try.checked os 4 .any (Rows.ipv4BackSpec.pre6 enc Try.prog Try.f4 Rows.ipv4BackRow.domain false) (Rows.ipv4BackSpec.post enc Try.prog Try.f4 false true false false) := by
  refine returnsInHanded_of_change_sized (C := Try.checked) own started (by kernel_rfl) Try.func4
    (ChangeSpec.witness6 (enc := enc) (C := Try.checked) false ⟨#[], #[.agg #[(.int .i64 0), (.int .i64 0), (.bool false), (.bool false), (.int .i64 0), (.int .i64 0), (.int .i64 0), (.int .u32 0), (.int .u32 0), (.string ⟨#[]⟩)], .string ByteArray.empty, .string ByteArray.empty, .int .i64 0], []⟩ 8 (by kernel_rfl) (by kernel_rfl) (by kernel_rfl) (by kernel_rfl)) ?_
  intro W base args ds gs before hval0 hW hcnd hsz0 _
  have hsz : (DataW.weightsEach Try.prog (Try.f4.params.toList ++ Rows.ipv4BackSpec.plain.varTypes Try.prog) (ds ++ gs)).all (· ≤ reachBytes) = true := hsz0
  have hval : ∀ (j : Nat) t v, Try.f4.params[j]? = some t → args[j]? = some v → Value.okWide Try.prog W .any base t v := hval0
  have hW' := hW
  obtain ⟨p, q, hA0, hV, rfl, hfz, hnd⟩ := hW
  have hA : DataW.TrodAll enc Try.prog W 0 (fun _ => true) true Try.f4.params.toList args.toList ds p := hA0
  rw [Try.params4] at hA hval hsz
  obtain ⟨v0, vs0, d0, ds0, p0, q0, hargs, rfl, rfl, h0, r0⟩ := trodAll_cons hA
  obtain ⟨v1, vs1, d1, ds1, p1, q1, rfl, rfl, rfl, h1, r1⟩ := trodAll_cons r0
  obtain ⟨v2, vs2, d2, ds2, p2, q2, rfl, rfl, rfl, h2, r2⟩ := trodAll_cons r1
  obtain ⟨v3, vs3, d3, ds3, p3, q3, rfl, rfl, rfl, h3, r3⟩ := trodAll_cons r2
  obtain ⟨rfl, rfl, rfl⟩ := trodAll_nil r3
  obtain rfl : args = #[v0, v1, v2, v3] := by cases args; simp_all
  obtain ⟨rfl, rfl⟩ := trodVars_none hV
  obtain ⟨cs0, rfl, _⟩ := okWide_struct Try.underlying24 (hval 0 24 v0 rfl rfl)
  have k0 := h0
  have lt0 : ∀ x ∈ p0, x.block < W.heap.size := by obtain ⟨m, hm⟩ := k0; exact DataW.trod_lt m _ _ _ hm
  obtain ⟨a0_0, a0_1, a0_2, a0_3, a0_4, a0_5, a0_6, a0_7, a0_8, a0_9, rfl, w0_0, w0_1, w0_2, w0_3, w0_4, w0_5, w0_6, w0_7, w0_8, w0_9⟩ := open_T24 h0
  obtain ⟨a1, rfl, rfl, rfl, y1⟩ := open_string Try.underlying9 (hval 1 9 v1 rfl rfl) h1
  have w1 : a1.size ≤ 140737488351232 := by
    have z := sized_string hsz (j := 1) (t := 9) rfl rfl
    rw [Array.length_toList] at z
    exact z
  obtain ⟨a2, rfl, rfl, rfl, y2⟩ := open_string Try.underlying9 (hval 2 9 v2 rfl rfl) h2
  have w2 : a2.size ≤ 140737488351232 := by
    have z := sized_string hsz (j := 2) (t := 9) rfl rfl
    rw [Array.length_toList] at z
    exact z
  obtain ⟨a3, rfl, rfl, rfl, w3⟩ := open_int Try.underlying3 (hval 3 3 v3 rfl rfl) h3
  clear hA0 hval0 hsz0 hsz
  obtain ⟨kk, h⟩ := Pure.Ipv4Back a0_0 a0_1 a0_2 a0_3 a0_4 a0_5 a0_6 a0_7 a0_8 a0_9 a1 a2 a3 w0_0 w0_1 w0_4 w0_5 w0_6 w0_7 w0_8 w0_9 w1 w2 w3
  refine (HB.rampartlaw03_Ipv4Back.calls kk a0_0 a0_1 a0_2 a0_3 a0_4 a0_5 a0_6 a0_7 a0_8 a0_9 a1 a2 a3 true W  h rfl).mono fun e W' ⟨he, bel⟩ => ?_
  subst he
  exact ⟨_, rfl, _, _, _, [], _, [], hW', trodAll_mk1 (shut_bool Try.underlying4 _), (trodAll_cons_mk (Below.trod laidOut (by kernel_rfl) (of_decide_eq_true (by kernel_rfl)) k0 bel lt0) (trodAll_cons_mk (shut_string Try.underlying9 y1) (trodAll_cons_mk (shut_string Try.underlying9 y2) (trodAll_cons_mk (shut_int Try.underlying3 w3) trodAll_mk0)))), rfl, bel.frame _, fun h => by cases h⟩
theorem over : Rows.ipv4BackRow.holds Try.pinned (OpenSpec.ofChange Rows.ipv4BackSpec) :=
  OpenClaim.holds_of_wide 4 Try.f4 rfl rfl rfl rfl rfl rfl rfl ⟨rfl, rfl, rfl, rfl, rfl⟩ rfl rfl rfl rfl rfl (by kernel_rfl) Try.func4 (by kernel_rfl)
    (of_decide_eq_true (by kernel_rfl)) (by unfold Func.isWrapper; first | (rw [if_pos (by decide +kernel)]; kernel_rfl) | (rw [if_neg (by decide +kernel)]; exact ⟨rfl, rfl⟩))
    (fun os started H enc _ => lifted os started H enc)
theorem proved : Rows.Ipv4BackSaid := over
#print axioms proved
end Go.Proofs.Ytgolimfljndnmaa.ipv4Back
namespace Go.Proofs.Ytgolimfljndnmaa
/-- The row, under a short name, for the claim. -/
theorem ipv4Back_holds : Rows.Ipv4BackSaid := ipv4Back.proved
end Go.Proofs.Ytgolimfljndnmaa
