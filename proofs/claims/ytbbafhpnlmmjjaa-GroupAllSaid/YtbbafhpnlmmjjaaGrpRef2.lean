/- What is proved: the reference's nets: covers. Conditions: those that stand in each theorem. -/
import Derived.Test.YtbbafhpnlmmjjaaGrpRef1
namespace Go.Proofs.Ytbbafhpnlmmjjaa
set_option linter.unusedVariables false
set_option linter.unusedSimpArgs false
set_option linter.unusedSectionVars false
open Go.RowKit Fw
def covR (n m : Int × Int) : Bool := decide (n.2 ≤ m.2) && inR n m.1
set_option maxRecDepth 100000 in
theorem cov_walk (x y : Int × Int) (w : World) (h : x.2 ≤ 32) (h0 : -9223372036854775808 ≤ x.2) : Calls Try.prog 27 #[.agg (ncs x).toArray, .agg (ncs y).toArray] w fun e w' => e = .returned (.bool (covR x y)) ∧ Mv (fun _ => False) w w' := by
  refine calls_W (n := 16) (vs := [.agg (ncs x).toArray, .agg (ncs y).toArray]) Try.func27 rfl rfl rfl ?_
  refine W.seq (W.list ?_)
  refine Ls.box rfl rfl rfl rfl rfl (vs := ncs x) rfl ?_
  have hb1 : BX (w.alloc (.cells (ncs x).toArray 48)) w.heap.size 48 (ncs x) := heap_alloc_new w (.cells (ncs x).toArray 48)
  have m1 : Mv (fun _ => False) w (w.alloc (.cells (ncs x).toArray 48)) := (Mv.refl _ w).alloc _
  generalize w.alloc (.cells (ncs x).toArray 48) = w1 at hb1 m1
  obtain ⟨r, hr⟩ : ∃ r, r = w.heap.size := ⟨_, rfl⟩
  rw [← hr] at hb1
  rw [← hr]
  refine Ls.box rfl rfl rfl rfl rfl (vs := ncs y) rfl ?_
  have hc2 : BX (w1.alloc (.cells (ncs y).toArray 48)) w1.heap.size 48 (ncs y) := heap_alloc_new w1 (.cells (ncs y).toArray 48)
  have m2 : Mv (fun _ => False) w1 (w1.alloc (.cells (ncs y).toArray 48)) := (Mv.refl _ w1).alloc _
  generalize w1.alloc (.cells (ncs y).toArray 48) = w2 at hc2 m2
  obtain ⟨q, hq⟩ : ∃ q, q = w1.heap.size := ⟨_, rfl⟩
  rw [← hq] at hc2
  rw [← hq]
  have hb2 := hb1.moved m2 (fun e => e)
  have m2 := m1.trans m2
  apply Ls.runK LO [2, 3] 1
  · repeat' (first | rfl | with_reducible assumption | assumption | constructor)
  intro w3 f3 s3 hf3
  replace hf3 : f3 = [(2, _), (3, _)] := hf3
  subst hf3
  refine Ls.nil (N.to ?_)
  have m3 := m2.same s3
  have hb3 := hb2.same s3
  have hc3 := hc2.same s3
  clear m1 hb1 hb2 hc2 m2 s3
  have d1 : Cl w3 ⟨r, 1, none⟩ (.int .i64 x.2) := hb3.cl rfl
  have d2 : Cl w3 ⟨q, 1, none⟩ (.int .i64 y.2) := hc3.cl rfl
  have d3 : Cl w3 ⟨q, 0, none⟩ (.int .u32 y.1) := hc3.cl rfl
  have d4 : CellsAt w3 r 0 2 (ncs x) := hb3.cells
  refine W.seq (W.list ?_)
  by_cases hle : x.2 ≤ y.2
  · have k1 : Kn (decide (x.2 ≤ y.2)) true := .yes hle
    apply Ls.runK LO [10, 11, 13] 9
    · repeat' (first | rfl | with_reducible assumption | assumption | constructor)
    intro w4 f4 s4 hf4
    replace hf4 : f4 = [(10, _), (11, _), (13, _)] := hf4
    subst hf4
    have m4 := m3.same s4
    refine Ls.call LO rfl rfl rfl rfl rfl (vs := [.agg (ncs x).toArray, .int .u32 y.1]) rfl (inr_walk x y.1 w4 h h0) ?_
    rintro _ w5 ⟨rfl, m5⟩
    refine ⟨_, rfl, ?_⟩
    apply Ls.runK LO [4] 2
    · repeat' (first | rfl | with_reducible assumption | assumption | constructor)
    intro w6 f6 s6 hf6
    replace hf6 : f6 = [(4, _)] := hf6
    subst hf6
    have e : covR x y = inR x y.1 := by unfold covR; rw [decide_eq_true hle]; rfl
    exact Ls.nil (N.to (W.ret (post LO (rs := [.tmp 4]) rfl (vs := [.bool (inR x y.1)]) (.tmp rfl .nil) ⟨by rw [e]; rfl, (m4.trans m5).same s6⟩)))
  · have k1 : Kn (decide (x.2 ≤ y.2)) false := .no hle
    apply Ls.runK LO [4] 12
    · repeat' (first | rfl | with_reducible assumption | assumption | constructor)
    intro w4 f4 s4 hf4
    replace hf4 : f4 = [(4, _)] := hf4
    subst hf4
    have e : covR x y = false := by unfold covR; rw [decide_eq_false hle]; rfl
    exact Ls.nil (N.to (W.ret (post LO (rs := [.tmp 4]) rfl (vs := [.bool false]) (.tmp rfl .nil) ⟨by rw [e]; rfl, m3.same s4⟩)))
end Go.Proofs.Ytbbafhpnlmmjjaa
