/- What is proved: the reference's sums. Conditions: those that stand in each theorem. -/
import Derived.Test.YtbidgeaigiijpaaNetBk3
namespace Go.Proofs.Ytbidgeaigiijpaa
set_option linter.unusedVariables false
set_option linter.unusedSimpArgs false
set_option linter.unusedSectionVars false
open Go.RowKit Fw Nt
set_option maxRecDepth 100000 in
theorem radd_says (a b : Int) (w : World) : Calls Try.prog 71 #[.int .i64 a, .int .i64 b] w (Says w (.int .i64 (red (a % 65536 + b % 65536)))) := by
  refine calls_W (n := 19) (vs := [.int .i64 a, .int .i64 b]) Try.func71 rfl rfl rfl ?_
  apply W.readS LO mixed [0, 1] (by kernel_rfl)
  · repeat' (first | rfl | with_reducible assumption | assumption | constructor)
  intro w1 f1 s1 hf1
  replace hf1 : f1 = [(0, _), (1, _)] := hf1
  subst hf1
  obtain ⟨R, hR⟩ : ∃ R, R = red (a % 65536 + b % 65536) := ⟨_, rfl⟩
  obtain ⟨x, hx⟩ : ∃ x, x = a % 65536 + b % 65536 := ⟨_, rfl⟩
  rw [← hx] at hR
  rw [← hx, ← hR]
  have k1 : Kn (bits .and .i64 a 65535) (a % 65536) := .of (and_any a)
  have k2 : Kn (bits .and .i64 b 65535) (b % 65536) := .of (and_any b)
  have k3 : Kn (IntKind.i64.wrap (a % 65536 + b % 65536)) x := .of (by rw [← hx]; exact IntWalk.i64_in _ (by omega))
  have hx0 : 0 ≤ x ∧ x ≤ 131070 := by omega
  apply W.readS LO mixed [5] (by kernel_rfl)
  · repeat' (first | rfl | with_reducible assumption | assumption | constructor)
  intro w2 f2 s2 hf2
  replace hf2 : f2 = [(5, _)] := hf2
  subst hf2
  refine W.cutS (fun w' g => Same w w' ∧ g = [(5, .int .i64 R)]) ?_ ?_
  · refine W.block (W.loop (fun k w' g => ∃ v : Int, k = v.toNat ∧ 0 ≤ v ∧ v ≤ 131070 ∧ red v = R ∧ Same w w' ∧ g = [(5, .int .i64 v)]) x.toNat _ ⟨x, rfl, hx0.1, hx0.2, hR.symm, s1.trans s2, rfl⟩ (sub_keys rfl) ?_)
    clear k1 k2 k3
    rintro k w3 _ ⟨v, hk, v0, v1, hv, s3, rfl⟩
    by_cases hlt : 65535 < v
    · have k1 : Kn (decide (65535 < v)) true := .yes hlt
      refine W.seq ?_
      apply W.readS LO mixed [5, 12] (by kernel_rfl)
      · repeat' (first | rfl | with_reducible assumption | assumption | constructor)
      intro w4 f4 s4 hf4
      replace hf4 : f4 = [(5, _), (12, _)] := hf4
      subst hf4
      refine W.cond (b := true) rfl (fun _ => W.skip (N.to ?_)) (fun h => by cases h)
      have k2 : Kn (bits .and .i64 v 65535) (v % 65536) := .of (and_any v)
      have p16 : (0 : Int) ≤ 16 := by decide
      have k3 : Kn (v.fdiv (2 ^ (min (16 : Int).toNat IntKind.i64.bits))) (v / 65536) := fdivk (by decide) rfl
      have k4 : Kn (IntKind.i64.wrap (v % 65536 + v / 65536)) (v % 65536 + v / 65536) := i64k (by omega)
      refine W.block ?_
      apply W.readN LO mixed [5] (by kernel_rfl)
      · repeat' (first | rfl | with_reducible assumption | assumption | constructor)
      intro w5 f5 s5 hf5
      replace hf5 : f5 = [(5, _)] := hf5
      subst hf5
      exact N.inb (N.round (v % 65536 + v / 65536).toNat _ (by omega) ⟨_, rfl, by omega, by omega, by rw [red_step v0]; exact hv, (s3.trans s4).trans s5, rfl⟩ (sub_keys rfl))
    · have k1 : Kn (decide (65535 < v)) false := .no hlt
      refine W.seq ?_
      apply W.readS LO mixed [5, 12] (by kernel_rfl)
      · repeat' (first | rfl | with_reducible assumption | assumption | constructor)
      intro w4 f4 s4 hf4
      replace hf4 : f4 = [(5, _), (12, _)] := hf4
      subst hf4
      refine W.cond (b := false) rfl (fun h => by cases h) (fun _ => W.exit ?_)
      have e : R = v := by rw [← hv]; exact red_small v0 (by omega)
      rw [e]
      exact N.thenE (N.thenE (N.out (N.cut ⟨s3.trans s4, rfl⟩ (sub_keys rfl))))
  rintro w3 _ ⟨s3, rfl⟩
  apply W.readS LO mixed [4] (by kernel_rfl)
  · repeat' (first | rfl | with_reducible assumption | assumption | constructor)
  intro w4 f4 s4 hf4
  replace hf4 : f4 = [(4, _)] := hf4
  subst hf4
  exact W.ret (post LO (rs := [.tmp 4]) rfl (vs := [.int .i64 R]) (.tmp rfl .nil) ⟨rfl, s3.trans s4⟩)
end Go.Proofs.Ytbidgeaigiijpaa
