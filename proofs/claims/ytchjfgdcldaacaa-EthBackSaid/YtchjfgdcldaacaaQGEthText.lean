/- What is proved: six bytes as a text, and what a head is like: closed forms. Conditions: those that stand in each theorem. -/
import Derived.Test.YtchjfgdcldaacaaQGEthLib
import Derived.Test.YtchjfgdcldaacaaHGx3
import Derived.Test.YtchjfgdcldaacaaHGx4
namespace Go.Proofs.Ytchjfgdcldaacaa.QG
open Go.RowKit Go.Proofs.Ytchjfgdcldaacaa.HG Go.Proofs.YtchjfgdcldaacaaW.PrintWords Go.Proofs.YtchjfgdcldaacaaW.PrintLast Go.Proofs.YtchjfgdcldaacaaW.PrintMore
set_option linter.unusedVariables false
set_option linter.unusedSimpArgs false
theorem text_step (k i : Nat) (b : ByteArray) (l : List Int) (hi : i < 6) (hb : b.size = 6) (hl : l.length < 100) : rampartref02_text.l0 (k + 1) b l ((i : Nat) : Int) = rampartref02_text.l0 k b (l ++ [bt b (i : Int)]) ((i + 1 : Nat) : Int) := by
  have w : wrap64 ((i : Int) + 1) = ((i + 1 : Nat) : Int) := by unfold wrap64; omega
  simp only [rampartref02_text.l0]
  rw [if_pos (show (i : Int) < 6 by omega), if_pos (Int.natCast_nonneg _), if_pos (show (i : Int) < (b.size : Int) by omega), if_pos (show l.length < 140737488355328 by omega), w]
theorem text_ev (x0 x1 x2 x3 x4 x5 : Int) (h : okSix x0 x1 x2 x3 x4 x5) : Ev (fun k => rampartref02_text.f k x0 x1 x2 x3 x4 x5) (strOfNums [x0, x1, x2, x3, x4, x5]) := by
  obtain ⟨e0, e1, e2, e3, e4, e5⟩ := six_bt h
  have hb : (strOfNums [x0, x1, x2, x3, x4, x5]).size = 6 := strOfNums_size _
  refine ⟨7, fun k hk => ?_⟩
  obtain ⟨k, rfl⟩ : ∃ n, k = n + 7 := ⟨k - 7, by omega⟩
  show rampartref02_text.f (k + 7) x0 x1 x2 x3 x4 x5 = _
  unfold rampartref02_text.f
  rw [if_pos h]
  unfold rampartref02_text.g
  generalize hB : strOfNums [x0, x1, x2, x3, x4, x5] = b at e0 e1 e2 e3 e4 e5 hb ⊢
  have s0 := text_step (k + 6) 0 b [] (by omega) hb (by decide)
  have s1 := text_step (k + 5) 1 b ([] ++ [bt b ((0 : Nat) : Int)]) (by omega) hb (by simp)
  have s2 := text_step (k + 4) 2 b ([] ++ [bt b ((0 : Nat) : Int)] ++ [bt b ((1 : Nat) : Int)]) (by omega) hb (by simp)
  have s3 := text_step (k + 3) 3 b ([] ++ [bt b ((0 : Nat) : Int)] ++ [bt b ((1 : Nat) : Int)] ++ [bt b ((2 : Nat) : Int)]) (by omega) hb (by simp)
  have s4 := text_step (k + 2) 4 b ([] ++ [bt b ((0 : Nat) : Int)] ++ [bt b ((1 : Nat) : Int)] ++ [bt b ((2 : Nat) : Int)] ++ [bt b ((3 : Nat) : Int)]) (by omega) hb (by simp)
  have s5 := text_step (k + 1) 5 b ([] ++ [bt b ((0 : Nat) : Int)] ++ [bt b ((1 : Nat) : Int)] ++ [bt b ((2 : Nat) : Int)] ++ [bt b ((3 : Nat) : Int)] ++ [bt b ((4 : Nat) : Int)]) (by omega) hb (by simp)
  refine s0.trans (s1.trans (s2.trans (s3.trans (s4.trans (s5.trans ?_)))))
  have z0 : bt b ((0 : Nat) : Int) = x0 := e0
  have z1 : bt b ((1 : Nat) : Int) = x1 := e1
  have z2 : bt b ((2 : Nat) : Int) = x2 := e2
  have z3 : bt b ((3 : Nat) : Int) = x3 := e3
  have z4 : bt b ((4 : Nat) : Int) = x4 := e4
  have z5 : bt b ((5 : Nat) : Int) = x5 := e5
  rw [z0, z1, z2, z3, z4, z5]
  simp only [rampartref02_text.l0]
  rw [if_neg (show ¬ ((5 + 1 : Nat) : Int) < 6 by omega), ← hB]
  rfl
theorem same_self (x0 x1 x2 x3 x4 x5 x6 x7 x8 x9 x10 x11 n : Int) (h0 : okSix x0 x1 x2 x3 x4 x5) (h1 : okSix x6 x7 x8 x9 x10 x11) :
    Ev (fun k => rampartref02_Same.f k x0 x1 x2 x3 x4 x5 x6 x7 x8 x9 x10 x11 n x0 x1 x2 x3 x4 x5 x6 x7 x8 x9 x10 x11 n) true := by
  obtain ⟨K0, q0⟩ := text_ev x0 x1 x2 x3 x4 x5 h0
  obtain ⟨K1, q1⟩ := text_ev x6 x7 x8 x9 x10 x11 h1
  refine ⟨K0 + K1, fun k hk => ?_⟩
  have e0 : rampartref02_text.f k x0 x1 x2 x3 x4 x5 = some (strOfNums [x0, x1, x2, x3, x4, x5]) := q0 k (by omega)
  have e1 : rampartref02_text.f k x6 x7 x8 x9 x10 x11 = some (strOfNums [x6, x7, x8, x9, x10, x11]) := q1 k (by omega)
  simp only [rampartref02_Same.f]
  rw [e0, Option.bind_some, Option.bind_some, if_pos rfl, e1, Option.bind_some, Option.bind_some, if_pos rfl, beq_self_eq_true]
theorem same_got (g : GotE) (h : okG g) : Ev (fun k => rampartref02_Same.f k g.1 g.2.1 g.2.2.1 g.2.2.2.1 g.2.2.2.2.1 g.2.2.2.2.2.1 g.2.2.2.2.2.2.1 g.2.2.2.2.2.2.2.1 g.2.2.2.2.2.2.2.2.1 g.2.2.2.2.2.2.2.2.2.1 g.2.2.2.2.2.2.2.2.2.2.1 g.2.2.2.2.2.2.2.2.2.2.2.1 g.2.2.2.2.2.2.2.2.2.2.2.2.1
    g.1 g.2.1 g.2.2.1 g.2.2.2.1 g.2.2.2.2.1 g.2.2.2.2.2.1 g.2.2.2.2.2.2.1 g.2.2.2.2.2.2.2.1 g.2.2.2.2.2.2.2.2.1 g.2.2.2.2.2.2.2.2.2.1 g.2.2.2.2.2.2.2.2.2.2.1 g.2.2.2.2.2.2.2.2.2.2.2.1 g.2.2.2.2.2.2.2.2.2.2.2.2.1) true := same_self _ _ _ _ _ _ _ _ _ _ _ _ _ h.1 h.2
end Go.Proofs.Ytchjfgdcldaacaa.QG
