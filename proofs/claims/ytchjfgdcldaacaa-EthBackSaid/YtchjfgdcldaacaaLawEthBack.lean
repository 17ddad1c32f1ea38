/- What is proved: each Go function of this text answers as the plain Lean function beside it (a law: its given row, out of the plain statement). Conditions: those that stand in each theorem. Written by my drive.py, which calls the printer of the kit for what that covers. -/
import Derived.Test.YtchjfgdcldaacaaRows
import Derived.Test.YtchjfgdcldaacaaHGx7
import Derived.Test.YtchjfgdcldaacaaPureEthBack
import Derived.Test.YtchjfgdcldaacaaOpen
import Derived.WalkKit
import Derived.ProofKit
import Derived.OpenShut
import Derived.ShutString
import Derived.ChangeOld
import Derived.Below
import Derived.SizedLaws
import Derived.Carry
namespace Go.Proofs.Ytchjfgdcldaacaa.ethBack
open Go.ChangeShapes Go.WideShapes Go.ChangeAt Go.RowKit Go.Proofs.YtchjfgdcldaacaaW.PrintWords
open Go.ChangeMaps (open_string shut_string)
set_option linter.unusedVariables false
set_option linter.unusedSimpArgs false
theorem own : ownKnob Try.prog.godebug = none := by kernel_rfl
theorem laidOut : laidOutB Try.prog = true := by kernel_rfl
theorem list13 {α : Type} : ∀ l : List α, l.length = 13 → ∃ c0 c1 c2 c3 c4 c5 c6 c7 c8 c9 c10 c11 c12, l = [c0, c1, c2, c3, c4, c5, c6, c7, c8, c9, c10, c11, c12]
  | [c0, c1, c2, c3, c4, c5, c6, c7, c8, c9, c10, c11, c12], _ => ⟨c0, c1, c2, c3, c4, c5, c6, c7, c8, c9, c10, c11, c12, rfl⟩
theorem open_T26 {H : Type} {enc : TypeId × Value → H} {W : World} {cs : Array Value} {d : DataW H} {ps : List MemPlace} (h : DataW.Trod enc Try.prog W 0 (fun _ => true) true 26 (.agg cs) d ps) :
    ∃ (a0 : Int) (a1 : Int) (a2 : Int) (a3 : Int) (a4 : Int) (a5 : Int) (a6 : Int) (a7 : Int) (a8 : Int) (a9 : Int) (a10 : Int) (a11 : Int) (a12 : Int), cs = #[.int .u8 a0, .int .u8 a1, .int .u8 a2, .int .u8 a3, .int .u8 a4, .int .u8 a5, .int .u8 a6, .int .u8 a7, .int .u8 a8, .int .u8 a9, .int .u8 a10, .int .u8 a11, .int .i64 a12] ∧ (Lit.int .u8 a0).wf = true ∧ (Lit.int .u8 a1).wf = true ∧ (Lit.int .u8 a2).wf = true ∧ (Lit.int .u8 a3).wf = true ∧ (Lit.int .u8 a4).wf = true ∧ (Lit.int .u8 a5).wf = true ∧ (Lit.int .u8 a6).wf = true ∧ (Lit.int .u8 a7).wf = true ∧ (Lit.int .u8 a8).wf = true ∧ (Lit.int .u8 a9).wf = true ∧ (Lit.int .u8 a10).wf = true ∧ (Lit.int .u8 a11).wf = true ∧ (Lit.int .i64 a12).wf = true := by
  obtain ⟨fuel, hf⟩ := h
  have hf : DataW.trod enc Try.prog W 0 (fun _ => true) true fuel 26 cs.toList = some (d, ps) := hf
  cases cs with
  | mk l =>
  have hf : DataW.trod enc Try.prog W 0 (fun _ => true) true fuel 26 l = some (d, ps) := hf
  obtain ⟨xs0, n0, _, _, hl0, hx0, hF0⟩ := DataW.trod_struct Try.underlying26 hf
  have hl0 : l.length = 13 := hl0.trans (by kernel_rfl)
  obtain ⟨c0, c1, c2, c3, c4, c5, c6, c7, c8, c9, c10, c11, c12, rfl⟩ := list13 l hl0
  have g0_0 := hF0 0 _ rfl
  obtain ⟨y0_0, e0_0⟩ : ∃ y, xs0[0]? = some y := ⟨_, List.getElem?_eq_getElem (by rw [hx0]; decide)⟩
  rw [e0_0] at g0_0
  have k0_0 : DataW.trod enc Try.prog W 0 (fun _ => true) true n0 24 [c0, c1, c2, c3, c4, c5] = some y0_0 := by
    have z : Try.prog.cellsOf 24 = 6 := by kernel_rfl
    have g2 : DataW.trod enc Try.prog W 0 (fun _ => true) true n0 24 ((([c0, c1, c2, c3, c4, c5, c6, c7, c8, c9, c10, c11, c12] : List Value).drop 0).take (Try.prog.cellsOf 24)) = some y0_0 := g0_0
    rw [z] at g2
    exact g2
  clear g0_0
  obtain ⟨xs1, n1, _, _, hl1, hx1, hF1⟩ := DataW.trod_array Try.underlying24 k0_0
  have g1_0 := hF1 0 (by decide)
  obtain ⟨y1_0, e1_0⟩ : ∃ y, xs1[0]? = some y := ⟨_, List.getElem?_eq_getElem (by rw [hx1]; decide)⟩
  rw [e1_0] at g1_0
  have k1_0 : DataW.trod enc Try.prog W 0 (fun _ => true) true n1 5 [c0] = some y1_0 := by
    have z : Try.prog.cellsOf 5 = 1 := by kernel_rfl
    have g2 : DataW.trod enc Try.prog W 0 (fun _ => true) true n1 5 ((([c0, c1, c2, c3, c4, c5] : List Value).drop (0 * Try.prog.cellsOf 5)).take (Try.prog.cellsOf 5)) = some y1_0 := g1_0
    rw [z] at g2
    exact g2
  clear g1_0
  obtain ⟨a0, z0, _, w0⟩ := DataW.trod_int Try.underlying5 k1_0
  injection z0 with z0 _
  have g1_1 := hF1 1 (by decide)
  obtain ⟨y1_1, e1_1⟩ : ∃ y, xs1[1]? = some y := ⟨_, List.getElem?_eq_getElem (by rw [hx1]; decide)⟩
  rw [e1_1] at g1_1
  have k1_1 : DataW.trod enc Try.prog W 0 (fun _ => true) true n1 5 [c1] = some y1_1 := by
    have z : Try.prog.cellsOf 5 = 1 := by kernel_rfl
    have g2 : DataW.trod enc Try.prog W 0 (fun _ => true) true n1 5 ((([c0, c1, c2, c3, c4, c5] : List Value).drop (1 * Try.prog.cellsOf 5)).take (Try.prog.cellsOf 5)) = some y1_1 := g1_1
    rw [z] at g2
    exact g2
  clear g1_1
  obtain ⟨a1, z1, _, w1⟩ := DataW.trod_int Try.underlying5 k1_1
  injection z1 with z1 _
  have g1_2 := hF1 2 (by decide)
  obtain ⟨y1_2, e1_2⟩ : ∃ y, xs1[2]? = some y := ⟨_, List.getElem?_eq_getElem (by rw [hx1]; decide)⟩
  rw [e1_2] at g1_2
  have k1_2 : DataW.trod enc Try.prog W 0 (fun _ => true) true n1 5 [c2] = some y1_2 := by
    have z : Try.prog.cellsOf 5 = 1 := by kernel_rfl
    have g2 : DataW.trod enc Try.prog W 0 (fun _ => true) true n1 5 ((([c0, c1, c2, c3, c4, c5] : List Value).drop (2 * Try.prog.cellsOf 5)).take (Try.prog.cellsOf 5)) = some y1_2 := g1_2
    rw [z] at g2
    exact g2
  clear g1_2
  obtain ⟨a2, z2, _, w2⟩ := DataW.trod_int Try.underlying5 k1_2
  injection z2 with z2 _
  have g1_3 := hF1 3 (by decide)
  obtain ⟨y1_3, e1_3⟩ : ∃ y, xs1[3]? = some y := ⟨_, List.getElem?_eq_getElem (by rw [hx1]; decide)⟩
  rw [e1_3] at g1_3
  have k1_3 : DataW.trod enc Try.prog W 0 (fun _ => true) true n1 5 [c3] = some y1_3 := by
    have z : Try.prog.cellsOf 5 = 1 := by kernel_rfl
    have g2 : DataW.trod enc Try.prog W 0 (fun _ => true) true n1 5 ((([c0, c1, c2, c3, c4, c5] : List Value).drop (3 * Try.prog.cellsOf 5)).take (Try.prog.cellsOf 5)) = some y1_3 := g1_3
    rw [z] at g2
    exact g2
  clear g1_3
  obtain ⟨a3, z3, _, w3⟩ := DataW.trod_int Try.underlying5 k1_3
  injection z3 with z3 _
  have g1_4 := hF1 4 (by decide)
  obtain ⟨y1_4, e1_4⟩ : ∃ y, xs1[4]? = some y := ⟨_, List.getElem?_eq_getElem (by rw [hx1]; decide)⟩
  rw [e1_4] at g1_4
  have k1_4 : DataW.trod enc Try.prog W 0 (fun _ => true) true n1 5 [c4] = some y1_4 := by
    have z : Try.prog.cellsOf 5 = 1 := by kernel_rfl
    have g2 : DataW.trod enc Try.prog W 0 (fun _ => true) true n1 5 ((([c0, c1, c2, c3, c4, c5] : List Value).drop (4 * Try.prog.cellsOf 5)).take (Try.prog.cellsOf 5)) = some y1_4 := g1_4
    rw [z] at g2
    exact g2
  clear g1_4
  obtain ⟨a4, z4, _, w4⟩ := DataW.trod_int Try.underlying5 k1_4
  injection z4 with z4 _
  have g1_5 := hF1 5 (by decide)
  obtain ⟨y1_5, e1_5⟩ : ∃ y, xs1[5]? = some y := ⟨_, List.getElem?_eq_getElem (by rw [hx1]; decide)⟩
  rw [e1_5] at g1_5
  have k1_5 : DataW.trod enc Try.prog W 0 (fun _ => true) true n1 5 [c5] = some y1_5 := by
    have z : Try.prog.cellsOf 5 = 1 := by kernel_rfl
    have g2 : DataW.trod enc Try.prog W 0 (fun _ => true) true n1 5 ((([c0, c1, c2, c3, c4, c5] : List Value).drop (5 * Try.prog.cellsOf 5)).take (Try.prog.cellsOf 5)) = some y1_5 := g1_5
    rw [z] at g2
    exact g2
  clear g1_5
  obtain ⟨a5, z5, _, w5⟩ := DataW.trod_int Try.underlying5 k1_5
  injection z5 with z5 _
  have g0_1 := hF0 1 _ rfl
  obtain ⟨y0_1, e0_1⟩ : ∃ y, xs0[1]? = some y := ⟨_, List.getElem?_eq_getElem (by rw [hx0]; decide)⟩
  rw [e0_1] at g0_1
  have k0_1 : DataW.trod enc Try.prog W 0 (fun _ => true) true n0 24 [c6, c7, c8, c9, c10, c11] = some y0_1 := by
    have z : Try.prog.cellsOf 24 = 6 := by kernel_rfl
    have g2 : DataW.trod enc Try.prog W 0 (fun _ => true) true n0 24 ((([c0, c1, c2, c3, c4, c5, c6, c7, c8, c9, c10, c11, c12] : List Value).drop 6).take (Try.prog.cellsOf 24)) = some y0_1 := g0_1
    rw [z] at g2
    exact g2
  clear g0_1
  obtain ⟨xs8, n8, _, _, hl8, hx8, hF8⟩ := DataW.trod_array Try.underlying24 k0_1
  have g8_0 := hF8 0 (by decide)
  obtain ⟨y8_0, e8_0⟩ : ∃ y, xs8[0]? = some y := ⟨_, List.getElem?_eq_getElem (by rw [hx8]; decide)⟩
  rw [e8_0] at g8_0
  have k8_0 : DataW.trod enc Try.prog W 0 (fun _ => true) true n8 5 [c6] = some y8_0 := by
    have z : Try.prog.cellsOf 5 = 1 := by kernel_rfl
    have g2 : DataW.trod enc Try.prog W 0 (fun _ => true) true n8 5 ((([c6, c7, c8, c9, c10, c11] : List Value).drop (0 * Try.prog.cellsOf 5)).take (Try.prog.cellsOf 5)) = some y8_0 := g8_0
    rw [z] at g2
    exact g2
  clear g8_0
  obtain ⟨a6, z6, _, w6⟩ := DataW.trod_int Try.underlying5 k8_0
  injection z6 with z6 _
  have g8_1 := hF8 1 (by decide)
  obtain ⟨y8_1, e8_1⟩ : ∃ y, xs8[1]? = some y := ⟨_, List.getElem?_eq_getElem (by rw [hx8]; decide)⟩
  rw [e8_1] at g8_1
  have k8_1 : DataW.trod enc Try.prog W 0 (fun _ => true) true n8 5 [c7] = some y8_1 := by
    have z : Try.prog.cellsOf 5 = 1 := by kernel_rfl
    have g2 : DataW.trod enc Try.prog W 0 (fun _ => true) true n8 5 ((([c6, c7, c8, c9, c10, c11] : List Value).drop (1 * Try.prog.cellsOf 5)).take (Try.prog.cellsOf 5)) = some y8_1 := g8_1
    rw [z] at g2
    exact g2
  clear g8_1
  obtain ⟨a7, z7, _, w7⟩ := DataW.trod_int Try.underlying5 k8_1
  injection z7 with z7 _
  have g8_2 := hF8 2 (by decide)
  obtain ⟨y8_2, e8_2⟩ : ∃ y, xs8[2]? = some y := ⟨_, List.getElem?_eq_getElem (by rw [hx8]; decide)⟩
  rw [e8_2] at g8_2
  have k8_2 : DataW.trod enc Try.prog W 0 (fun _ => true) true n8 5 [c8] = some y8_2 := by
    have z : Try.prog.cellsOf 5 = 1 := by kernel_rfl
    have g2 : DataW.trod enc Try.prog W 0 (fun _ => true) true n8 5 ((([c6, c7, c8, c9, c10, c11] : List Value).drop (2 * Try.prog.cellsOf 5)).take (Try.prog.cellsOf 5)) = some y8_2 := g8_2
    rw [z] at g2
    exact g2
  clear g8_2
  obtain ⟨a8, z8, _, w8⟩ := DataW.trod_int Try.underlying5 k8_2
  injection z8 with z8 _
  have g8_3 := hF8 3 (by decide)
  obtain ⟨y8_3, e8_3⟩ : ∃ y, xs8[3]? = some y := ⟨_, List.getElem?_eq_getElem (by rw [hx8]; decide)⟩
  rw [e8_3] at g8_3
  have k8_3 : DataW.trod enc Try.prog W 0 (fun _ => true) true n8 5 [c9] = some y8_3 := by
    have z : Try.prog.cellsOf 5 = 1 := by kernel_rfl
    have g2 : DataW.trod enc Try.prog W 0 (fun _ => true) true n8 5 ((([c6, c7, c8, c9, c10, c11] : List Value).drop (3 * Try.prog.cellsOf 5)).take (Try.prog.cellsOf 5)) = some y8_3 := g8_3
    rw [z] at g2
    exact g2
  clear g8_3
  obtain ⟨a9, z9, _, w9⟩ := DataW.trod_int Try.underlying5 k8_3
  injection z9 with z9 _
  have g8_4 := hF8 4 (by decide)
  obtain ⟨y8_4, e8_4⟩ : ∃ y, xs8[4]? = some y := ⟨_, List.getElem?_eq_getElem (by rw [hx8]; decide)⟩
  rw [e8_4] at g8_4
  have k8_4 : DataW.trod enc Try.prog W 0 (fun _ => true) true n8 5 [c10] = some y8_4 := by
    have z : Try.prog.cellsOf 5 = 1 := by kernel_rfl
    have g2 : DataW.trod enc Try.prog W 0 (fun _ => true) true n8 5 ((([c6, c7, c8, c9, c10, c11] : List Value).drop (4 * Try.prog.cellsOf 5)).take (Try.prog.cellsOf 5)) = some y8_4 := g8_4
    rw [z] at g2
    exact g2
  clear g8_4
  obtain ⟨a10, z10, _, w10⟩ := DataW.trod_int Try.underlying5 k8_4
  injection z10 with z10 _
  have g8_5 := hF8 5 (by decide)
  obtain ⟨y8_5, e8_5⟩ : ∃ y, xs8[5]? = some y := ⟨_, List.getElem?_eq_getElem (by rw [hx8]; decide)⟩
  rw [e8_5] at g8_5
  have k8_5 : DataW.trod enc Try.prog W 0 (fun _ => true) true n8 5 [c11] = some y8_5 := by
    have z : Try.prog.cellsOf 5 = 1 := by kernel_rfl
    have g2 : DataW.trod enc Try.prog W 0 (fun _ => true) true n8 5 ((([c6, c7, c8, c9, c10, c11] : List Value).drop (5 * Try.prog.cellsOf 5)).take (Try.prog.cellsOf 5)) = some y8_5 := g8_5
    rw [z] at g2
    exact g2
  clear g8_5
  obtain ⟨a11, z11, _, w11⟩ := DataW.trod_int Try.underlying5 k8_5
  injection z11 with z11 _
  have g0_2 := hF0 2 _ rfl
  obtain ⟨y0_2, e0_2⟩ : ∃ y, xs0[2]? = some y := ⟨_, List.getElem?_eq_getElem (by rw [hx0]; decide)⟩
  rw [e0_2] at g0_2
  have k0_2 : DataW.trod enc Try.prog W 0 (fun _ => true) true n0 3 [c12] = some y0_2 := by
    have z : Try.prog.cellsOf 3 = 1 := by kernel_rfl
    have g2 : DataW.trod enc Try.prog W 0 (fun _ => true) true n0 3 ((([c0, c1, c2, c3, c4, c5, c6, c7, c8, c9, c10, c11, c12] : List Value).drop 12).take (Try.prog.cellsOf 3)) = some y0_2 := g0_2
    rw [z] at g2
    exact g2
  clear g0_2
  obtain ⟨a12, z12, _, w12⟩ := DataW.trod_int Try.underlying3 k0_2
  injection z12 with z12 _
  subst z0
  subst z1
  subst z2
  subst z3
  subst z4
  subst z5
  subst z6
  subst z7
  subst z8
  subst z9
  subst z10
  subst z11
  subst z12
  exact ⟨a0, a1, a2, a3, a4, a5, a6, a7, a8, a9, a10, a11, a12, rfl, w0, w1, w2, w3, w4, w5, w6, w7, w8, w9, w10, w11, w12⟩
set_option maxRecDepth 100000 in
theorem lifted (os : Os) (started : os.Started) (H : Type) (enc : TypeId × Value → H) :
    ReturnsInHanded {} Try.checked os 8 .any (Rows.ethBackSpec.pre6 enc Try.prog Try.f8 Rows.ethBackRow.domain false) (Rows.ethBackSpec.post enc Try.prog Try.f8 false true false false) := by
  refine returnsInHanded_of_change_sized (C := Try.checked) own started (by kernel_rfl) Try.func8
    (ChangeSpec.witness6 (enc := enc) (C := Try.checked) false ⟨#[], #[.agg #[(.int .u8 0), (.int .u8 0), (.int .u8 0), (.int .u8 0), (.int .u8 0), (.int .u8 0), (.int .u8 0), (.int .u8 0), (.int .u8 0), (.int .u8 0), (.int .u8 0), (.int .u8 0), (.int .i64 0)], .string ByteArray.empty, .string ByteArray.empty], []⟩ 8 (by kernel_rfl) (by kernel_rfl) (by kernel_rfl) (by kernel_rfl)) ?_
  intro W base args ds gs before hval0 hW hcnd hsz0 _
  have hsz : (DataW.weightsEach Try.prog (Try.f8.params.toList ++ Rows.ethBackSpec.plain.varTypes Try.prog) (ds ++ gs)).all (· ≤ reachBytes) = true := hsz0
  have hval : ∀ (j : Nat) t v, Try.f8.params[j]? = some t → args[j]? = some v → Value.okWide Try.prog W .any base t v := hval0
  have hW' := hW
  obtain ⟨p, q, hA0, hV, rfl, hfz, hnd⟩ := hW
  have hA : DataW.TrodAll enc Try.prog W 0 (fun _ => true) true Try.f8.params.toList args.toList ds p := hA0
  rw [Try.params8] at hA hval hsz
  obtain ⟨v0, vs0, d0, ds0, p0, q0, hargs, rfl, rfl, h0, r0⟩ := trodAll_cons hA
  obtain ⟨v1, vs1, d1, ds1, p1, q1, rfl, rfl, rfl, h1, r1⟩ := trodAll_cons r0
  obtain ⟨v2, vs2, d2, ds2, p2, q2, rfl, rfl, rfl, h2, r2⟩ := trodAll_cons r1
  obtain ⟨rfl, rfl, rfl⟩ := trodAll_nil r2
  obtain rfl : args = #[v0, v1, v2] := by cases args; simp_all
  obtain ⟨rfl, rfl⟩ := trodVars_none hV
  obtain ⟨cs0, rfl, _⟩ := okWide_struct Try.underlying26 (hval 0 26 v0 rfl rfl)
  have k0 := h0
  have lt0 : ∀ x ∈ p0, x.block < W.heap.size := by obtain ⟨m, hm⟩ := k0; exact DataW.trod_lt m _ _ _ hm
  obtain ⟨a0_0, a0_1, a0_2, a0_3, a0_4, a0_5, a0_6, a0_7, a0_8, a0_9, a0_10, a0_11, a0_12, rfl, w0_0, w0_1, w0_2, w0_3, w0_4, w0_5, w0_6, w0_7, w0_8, w0_9, w0_10, w0_11, w0_12⟩ := open_T26 h0
  obtain ⟨a1, rfl, rfl, rfl, y1⟩ := open_string Try.underlying9 (hval 1 9 v1 rfl rfl) h1
  have w1 : a1.size ≤ 140737488351232 := by
    have z := sized_string hsz (j := 1) (t := 9) rfl rfl
    rw [Array.length_toList] at z
    exact z
  obtain ⟨a2, rfl, rfl, rfl, y2⟩ := open_string Try.underlying9 (hval 2 9 v2 rfl rfl) h2
  have w2 : a2.size ≤ 140737488351232 := by
    have z := sized_string hsz (j := 2) (t := 9) rfl rfl
    rw [Array.length_toList] at z
    exact z
  clear hA0 hval0 hsz0 hsz
  obtain ⟨kk, h⟩ := Pure.EthBack a0_0 a0_1 a0_2 a0_3 a0_4 a0_5 a0_6 a0_7 a0_8 a0_9 a0_10 a0_11 a0_12 a1 a2 w0_0 w0_1 w0_2 w0_3 w0_4 w0_5 w0_6 w0_7 w0_8 w0_9 w0_10 w0_11 w0_12 w1 w2
  refine (HG.rampartlaw02_EthBack.calls kk a0_0 a0_1 a0_2 a0_3 a0_4 a0_5 a0_6 a0_7 a0_8 a0_9 a0_10 a0_11 a0_12 a1 a2 true W  h rfl).mono fun e W' ⟨he, bel⟩ => ?_
  subst he
  exact ⟨_, rfl, _, _, _, [], _, [], hW', trodAll_mk1 (shut_bool Try.underlying4 _), (trodAll_cons_mk (Below.trod laidOut (by kernel_rfl) (of_decide_eq_true (by kernel_rfl)) k0 bel lt0) (trodAll_cons_mk (shut_string Try.underlying9 y1) (trodAll_cons_mk (shut_string Try.underlying9 y2) trodAll_mk0))), rfl, bel.frame _, fun h => by cases h⟩
theorem over : Rows.ethBackRow.holds Try.pinned (OpenSpec.ofChange Rows.ethBackSpec) :=
  OpenClaim.holds_of_wide 8 Try.f8 rfl rfl rfl rfl rfl rfl rfl ⟨rfl, rfl, rfl, rfl, rfl⟩ rfl rfl rfl rfl rfl (by kernel_rfl) Try.func8 (by kernel_rfl)
    (of_decide_eq_true (by kernel_rfl)) (by unfold Func.isWrapper; first | (rw [if_pos (by decide +kernel)]; kernel_rfl) | (rw [if_neg (by decide +kernel)]; exact ⟨rfl, rfl⟩))
    (fun os started H enc _ => lifted os started H enc)
theorem proved : Rows.EthBackSaid := over
#print axioms proved
end Go.Proofs.Ytchjfgdcldaacaa.ethBack
namespace Go.Proofs.Ytchjfgdcldaacaa
/-- The row, under a short name, for the claim. -/
theorem ethBack_holds : Rows.EthBackSaid := ethBack.proved
end Go.Proofs.Ytchjfgdcldaacaa
