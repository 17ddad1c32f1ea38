/- What is proved: both ways round, as its row asks. Conditions: those that stand in each theorem. -/
import Derived.Test.YtbbafhpnlmmjjaaGrpLaw2
import Derived.Test.YtbbafhpnlmmjjaaFwArg
import Derived.OpenShut
namespace Go.Proofs.Ytbbafhpnlmmjjaa
set_option linter.unusedVariables false
set_option linter.unusedSimpArgs false
set_option linter.unusedSectionVars false
open Go.RowKit Go.ChangeShapes Fw
theorem open_tup {H : Type} {enc : TypeId × Value → H} {W : World} {n : Nat} {cs : List Value} {r : DataW H × List MemPlace} (h : DataW.trod enc Try.prog W 0 (fun _ => true) true n 25 cs = some r) : ∃ x : TupV, cs = x.cs := by
  obtain ⟨m, o⟩ := opn (l := [(0, 3), (1, 23), (2, 23), (3, 3), (4, 3)]) (by kernel_rfl) (by kernel_rfl) h
  have z3 : Try.prog.cellsOf 3 = 1 := by kernel_rfl
  have z23 : Try.prog.cellsOf 23 = 1 := by kernel_rfl
  have hl : cs.length = 5 := o.len.trans (by kernel_rfl)
  obtain ⟨x0, h0, _⟩ := o.int (i := 0) rfl Try.underlying3 z3
  obtain ⟨x1, h1, _⟩ := o.int (i := 1) rfl Try.underlying23 z23
  obtain ⟨x2, h2, _⟩ := o.int (i := 2) rfl Try.underlying23 z23
  obtain ⟨x3, h3, _⟩ := o.int (i := 3) rfl Try.underlying3 z3
  obtain ⟨x4, h4, _⟩ := o.int (i := 4) rfl Try.underlying3 z3
  refine ⟨⟨x0, x1, x2, x3, x4⟩, list_is (by rw [hl]; rfl) fun j u hj => ?_⟩
  match j, hj with
  | 0, hj => cases hj; exact h0
  | 1, hj => cases hj; exact h1
  | 2, hj => cases hj; exact h2
  | 3, hj => cases hj; exact h3
  | 4, hj => cases hj; exact h4
  | j + 5, hj => simp [TupV.cs] at hj
theorem open_api_Tuple {H : Type} {enc : TypeId × Value → H} {W : World} {cs : Array Value} {d : DataW H} {ps : List MemPlace} (h : DataW.Trod enc Try.prog W 0 (fun _ => true) true 25 (.agg cs) d ps) : ∃ x : TupV, cs = x.cs.toArray ∧ True := by
  obtain ⟨fuel, hf⟩ := h
  have hf : DataW.trod enc Try.prog W 0 (fun _ => true) true fuel 25 cs.toList = some (d, ps) := hf
  obtain ⟨x, hx⟩ := open_tup hf
  exact ⟨x, by rw [← hx], True.intro⟩
theorem both_law (b : Option Addr) (cap : Nat) (l : List Int) (t : TupV) (dir : Int) (w : World) (hr : Rd w 1 (.slice b l.length cap) l.length (l.flatMap fun n => [Value.int .i64 n])) (hl : ∀ n ∈ l, (Lit.int .i64 n).wf = true) (_ : True) (hd : (Lit.int .i64 dir).wf = true) :
    Calls Try.prog 4 #[.slice b l.length cap, .agg t.cs.toArray, .int .i64 dir] w (Yes w) :=
  both_walk _ l t dir w ⟨hr, fun n hn => bounds_i64 (hl n hn)⟩ (bounds_i64 hd)
end Go.Proofs.Ytbbafhpnlmmjjaa
