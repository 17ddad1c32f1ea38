/- What is proved: the plain statement of SumAdds: numbers of sixteen bits are added in whatever order, bracketed in whatever way, and their bytes lead back. Conditions: each argument is a number of its kind, nothing else. -/
import Derived.Test.YtchjfgdcldaacaaPureSumLib
namespace Go.Proofs.Ytchjfgdcldaacaa.Pure
open Go.RowKit Go.Proofs.Ytchjfgdcldaacaa.HA Go.Proofs.YtchjfgdcldaacaaW.PrintWords Go.Proofs.YtchjfgdcldaacaaW.PrintLast Go.Proofs.YtchjfgdcldaacaaW.PrintMore
set_option linter.unusedVariables false
set_option linter.unusedSimpArgs false
theorem add_ev (a b : Int) (ha : 0 ≤ a) (ha2 : a ≤ 65535) (hb : 0 ≤ b) (hb2 : b ≤ 65535) : Ev (fun k => sum_Add.f k a b) (red (a + b)) := by
  refine Ev.congr (f := fun k => (sum_fold.f k (a + b)).bind fun t => some t) (fun k => ?_) (Ev.bind (foldf_ev (by omega) (by omega)) (Ev.now _))
  simp only [sum_Add.f]
  rw [and_low ha (by omega), and_low hb (by omega), show wrap64 (a % 65536 + b % 65536) = a + b by unfold wrap64; omega]
theorem SumAdds : rampartlaw01_SumAdds.Pure := by
  intro a b c ha hb hc
  have ha := bounds_i64 ha
  have hb := bounds_i64 hb
  have hc := bounds_i64 hc
  have p1 := at_some a 65536 (by omega) (by omega) ha
  have p2 := at_some b 65536 (by omega) (by omega) hb
  have p3 := at_some c 65536 (by omega) (by omega) hc
  generalize hx : a % 65536 = x at p1
  generalize hy : b % 65536 = y at p2
  generalize hz : c % 65536 = z at p3
  have bx : 0 ≤ x ∧ x ≤ 65535 := by omega
  have by' : 0 ≤ y ∧ y ≤ 65535 := by omega
  have bz : 0 ≤ z ∧ z ≤ 65535 := by omega
  have r1 := red_range (v := x + y) (by omega)
  have r2 := red_range (v := y + z) (by omega)
  obtain ⟨K0, h0⟩ := sumAwake_ev
  obtain ⟨K1, h1⟩ := add_ev x y bx.1 bx.2 by'.1 by'.2
  obtain ⟨K2, h2⟩ := add_ev y x by'.1 by'.2 bx.1 bx.2
  obtain ⟨K3, h3⟩ := add_ev (red (x + y)) z r1.1 r1.2 bz.1 bz.2
  obtain ⟨K4, h4⟩ := add_ev y z by'.1 by'.2 bz.1 bz.2
  obtain ⟨K5, h5⟩ := add_ev x (red (y + z)) bx.1 bx.2 r2.1 r2.2
  obtain ⟨K6, h6⟩ := add_ev x 0 bx.1 bx.2 (by omega) (by omega)
  obtain ⟨K7, h7⟩ := add_ev x (65535 - x) bx.1 bx.2 (by omega) (by omega)
  obtain ⟨K8, h8⟩ := big_ev_nat x 2 (by omega)
  obtain ⟨K9, h9⟩ := big_ev_nat x 7 (by omega)
  generalize hk : K0 + K1 + K2 + K3 + K4 + K5 + K6 + K7 + K8 + K9 = k
  refine ⟨k, ?_⟩
  have e0 := h0 k (by omega)
  have e1 := h1 k (by omega)
  have e2 := h2 k (by omega)
  have e3 := h3 k (by omega)
  have e4 := h4 k (by omega)
  have e5 := h5 k (by omega)
  have e6 := h6 k (by omega)
  have e7 := h7 k (by omega)
  have e8 : sum_Big.f k x 2 = some (bigS x 2) := h8 k (by omega)
  have e9 : sum_Big.f k x 7 = some (bigS x 7) := h9 k (by omega)
  have n8 := num_some (bigS x 2) (by rw [bigS_size]; omega)
  have n9 := num_some (bigS x 7) (by rw [bigS_size]; omega)
  rw [numOf_big x 2 (by omega), show (256 : Int) ^ 2 = 65536 from rfl, Int.emod_eq_of_lt bx.1 (by omega)] at n8
  rw [numOf_big x 7 (by omega), show (256 : Int) ^ 7 = 72057594037927936 from rfl, Int.emod_eq_of_lt bx.1 (by omega)] at n9
  have q3 : red (red (x + y) + z) = red (x + red (y + z)) := by
    rw [red_add (by omega) bz.1, red_add' bx.1 (by omega), Int.add_assoc]
  have q6 : red (x + 0) = x := by rw [Int.add_zero, red_small bx.1 bx.2]
  have q7 : red (x + (65535 - x)) = 65535 := by rw [show x + (65535 - x) = 65535 by omega]; rfl
  have ew : wrap64 (65535 - x) = 65535 - x := by unfold wrap64; omega
  rw [Int.add_comm y x] at e2
  rw [q6] at e6
  rw [q7] at e7
  rw [← q3] at e5
  simp only [rampartlaw01_SumAdds.f, p1, p2, p3, ew, e1, e2, e3, e4, e5, e6, e7, e8, e9, n8, n9, e0, Option.bind_some, if_true]
  rw [if_pos r1.1, if_pos r1.2]
end Go.Proofs.Ytchjfgdcldaacaa.Pure
