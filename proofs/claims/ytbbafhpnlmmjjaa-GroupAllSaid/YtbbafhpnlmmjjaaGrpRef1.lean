/- What is proved: the reference's nets: mask, in, Check. Conditions: those that stand in each theorem. -/
import Derived.Test.YtbbafhpnlmmjjaaGrpCont
namespace Go.Proofs.Ytbbafhpnlmmjjaa
set_option linter.unusedVariables false
set_option linter.unusedSimpArgs false
set_option linter.unusedSectionVars false
open Go.RowKit Fw
def mkR (n : Int) : Int := if n ≤ 0 then 0 else IntKind.u32.wrap (4294967295 * 2 ^ (min (32 - n).toNat IntKind.u32.bits))
theorem mask_says (n : Int) (w : World) (h : n ≤ 32) (h0 : -9223372036854775808 ≤ n) : Calls Try.prog 28 #[.int .i64 n] w (Says w (.int .u32 (mkR n))) := by
  refine calls_W (n := 9) (vs := [.int .i64 n]) Try.func28 rfl rfl rfl ?_
  apply W.readS LO mixed [0] (by kernel_rfl)
  · repeat' (first | rfl | with_reducible assumption | assumption | constructor)
  intro w1 f1 s1 hf1
  replace hf1 : f1 = [(0, _)] := hf1
  subst hf1
  by_cases hn : n ≤ 0
  · have k1 : Kn (decide (n ≤ 0)) true := .yes hn
    have e : mkR n = 0 := if_pos hn
    rw [e]
    refine W.cutS (fun _ _ => False) ?_ (fun _ _ h => h.elim)
    apply W.readS LO mixed [4] (by kernel_rfl)
    · repeat' (first | rfl | with_reducible assumption | assumption | constructor)
    intro w2 f2 s2 hf2
    replace hf2 : f2 = [(4, _)] := hf2
    subst hf2
    refine W.cond (b := true) rfl (fun _ => ?_) (fun h => by cases h)
    apply W.readS LO mixed [2] (by kernel_rfl)
    · repeat' (first | rfl | with_reducible assumption | assumption | constructor)
    intro w3 f3 s3 hf3
    replace hf3 : f3 = [(2, _)] := hf3
    subst hf3
    exact W.ret (N.thenR (post LO (rs := [.tmp 2]) rfl (vs := [.int .u32 0]) (.tmp rfl .nil) ⟨rfl, (s1.trans s2).trans s3⟩))
  · refine W.cutS (fun w' g => Same w w' ∧ g = [(0, .int .i64 n)]) ?_ ?_
    · have k1 : Kn (decide (n ≤ 0)) false := .no hn
      apply W.readS LO mixed [0, 4] (by kernel_rfl)
      · repeat' (first | rfl | with_reducible assumption | assumption | constructor)
      intro w2 f2 s2 hf2
      replace hf2 : f2 = [(0, _), (4, _)] := hf2
      subst hf2
      refine W.cond (b := false) rfl (fun h => by cases h) (fun _ => W.skip ?_)
      exact N.cut ⟨s1.trans s2, rfl⟩ (sub_keys rfl)
    rintro w2 _ ⟨s2, rfl⟩
    have k2 : Kn (IntKind.i64.wrap (32 - n)) (32 - n) := .of (IntWalk.i64_in _ (by omega))
    have k3 : Kn (IntKind.u64.wrap (32 - n)) (32 - n) := .of (IntWalk.u64_in _ (by omega))
    have p0 : 0 ≤ 32 - n := by omega
    have k4 : Kn (IntKind.u32.wrap (4294967295 * 2 ^ (min (32 - n).toNat IntKind.u32.bits))) (mkR n) := .of (by unfold mkR; rw [if_neg hn])
    apply W.readS LO mixed [2] (by kernel_rfl)
    · repeat' (first | rfl | with_reducible assumption | assumption | constructor)
    intro w3 f3 s3 hf3
    replace hf3 : f3 = [(2, _)] := hf3
    subst hf3
    exact W.ret (post LO (rs := [.tmp 2]) rfl (vs := [.int .u32 (mkR n)]) (.tmp rfl .nil) ⟨rfl, s2.trans s3⟩)
def inR (n : Int × Int) (a : Int) : Bool := bits .and .u32 (bits .xor .u32 n.1 a) (mkR n.2) == 0
theorem inr_walk (x : Int × Int) (a : Int) (w : World) (h : x.2 ≤ 32) (h0 : -9223372036854775808 ≤ x.2) : Calls Try.prog 33 #[.agg (ncs x).toArray, .int .u32 a] w fun e w' => e = .returned (.bool (inR x a)) ∧ Mv (fun _ => False) w w' := by
  refine calls_W (n := 14) (vs := [.agg (ncs x).toArray, .int .u32 a]) Try.func33 rfl rfl rfl ?_
  refine W.seq (W.list ?_)
  refine Ls.box rfl rfl rfl rfl rfl (vs := ncs x) rfl ?_
  have hb1 : BX (w.alloc (.cells (ncs x).toArray 48)) w.heap.size 48 (ncs x) := heap_alloc_new w (.cells (ncs x).toArray 48)
  have m1 : Mv (fun _ => False) w (w.alloc (.cells (ncs x).toArray 48)) := (Mv.refl _ w).alloc _
  generalize w.alloc (.cells (ncs x).toArray 48) = w1 at hb1 m1
  obtain ⟨r, hr⟩ : ∃ r, r = w.heap.size := ⟨_, rfl⟩
  rw [← hr] at hb1
  rw [← hr]
  apply Ls.runK LO [1, 2] 1
  · repeat' (first | rfl | with_reducible assumption | assumption | constructor)
  intro w2 f2 s2 hf2
  replace hf2 : f2 = [(1, _), (2, _)] := hf2
  subst hf2
  refine Ls.nil (N.to ?_)
  have m2 := m1.same s2
  have hb2 := hb1.same s2
  have d1 : Cl w2 ⟨r, 0, none⟩ (.int .u32 x.1) := hb2.cl rfl
  have d2 : Cl w2 ⟨r, 1, none⟩ (.int .i64 x.2) := hb2.cl rfl
  have q1 := quiet_of (w := w2) fun w' s' => mask_says x.2 w' h h0
  apply W.readS LO mixed [4] (by kernel_rfl)
  · repeat' (first | rfl | with_reducible assumption | assumption | constructor)
  intro w3 f3 s3 hf3
  replace hf3 : f3 = [(4, _)] := hf3
  subst hf3
  exact W.ret (post LO (rs := [.tmp 4]) rfl (vs := [.bool (inR x a)]) (.tmp rfl .nil) ⟨rfl, m2.same s3⟩)
end Go.Proofs.Ytbbafhpnlmmjjaa
