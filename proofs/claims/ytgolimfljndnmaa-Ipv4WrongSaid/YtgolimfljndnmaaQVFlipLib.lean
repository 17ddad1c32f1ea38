/- What is proved: a text whose sum is 0 has another sum when one byte of it is another. Conditions: those that stand in each theorem. -/
import Derived.Test.YtgolimfljndnmaaQVSumLib
namespace Go.Proofs.Ytgolimfljndnmaa.QV
open Go.RowKit Go.Proofs.Ytgolimfljndnmaa.HV Go.Proofs.YtgolimfljndnmaaW.PrintWords Go.Proofs.YtgolimfljndnmaaW.PrintLast Go.Proofs.YtgolimfljndnmaaW.PrintMore
set_option linter.unusedVariables false
set_option linter.unusedSimpArgs false
theorem wsum_set : ∀ (l : List UInt8) (i : Nat) (c : UInt8) (p : Int) (h : i < l.length), wsum (l.set i c) p = wsum l p + ((c.toNat : Int) - (l[i].toNat : Int)) * wt (p + i)
  | [], i, c, p, h => by simp at h
  | b :: l, 0, c, p, h => by
    simp only [List.set_cons_zero, wsum, List.getElem_cons_zero]
    rw [show p + ((0 : Nat) : Int) = p by simp, Int.sub_mul]
    omega
  | b :: l, i + 1, c, p, h => by
    have := wsum_set l i c (p + 1) (by simpa using h)
    simp only [List.set_cons_succ, wsum, List.getElem_cons_succ]
    rw [this, show p + 1 + (i : Int) = p + ((i + 1 : Nat) : Int) by omega]
    omega
theorem sum_zero {l : List UInt8} (h : sumOf l = 0) : wsum l 0 % 65535 = 0 := by
  have := wsum_nonneg l 0
  unfold sumOf red at h
  split at h <;> omega
theorem flip_sum (l : List UInt8) (i : Nat) (c : UInt8) (h : i < l.length) (hc : c ≠ l[i]) (h0 : sumOf l = 0) : sumOf (l.set i c) ≠ 0 := by
  intro h1
  have z0 := sum_zero h0
  have z1 := sum_zero h1
  rw [wsum_set l i c 0 h] at z1
  have hw : wt (0 + (i : Int)) = 256 ∨ wt (0 + (i : Int)) = 1 := by unfold wt; split <;> simp
  have b1 := c.toNat_lt
  have b2 := (l[i]).toNat_lt
  have hne : c.toNat ≠ (l[i]).toNat := fun e => hc (UInt8.toNat_inj.mp e)
  rcases hw with hw | hw <;> rw [hw] at z1 <;> omega
theorem xor_ne (b : UInt8) (m : Int) (h0 : 0 ≤ m) (h1 : m < 8) : Go.bits .xor .u8 (b.toNat : Int) (shl .u8 1 m) ≠ (b.toNat : Int) := by
  have key : ∀ b : Fin 256, ∀ m : Fin 8, Go.bits .xor .u8 ((b.val : Nat) : Int) (shl .u8 1 ((m.val : Nat) : Int)) ≠ ((b.val : Nat) : Int) := by decide +kernel
  have := key ⟨b.toNat, b.toNat_lt⟩ ⟨m.toNat, by omega⟩
  have e : ((m.toNat : Nat) : Int) = m := by omega
  simpa [e] using this
end Go.Proofs.Ytgolimfljndnmaa.QV
