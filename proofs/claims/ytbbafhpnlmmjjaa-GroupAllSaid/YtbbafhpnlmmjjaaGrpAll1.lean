/- What is proved: the reference's sets of addresses, plain and walked. Conditions: those that stand in each theorem. -/
import Derived.Test.YtbbafhpnlmmjjaaGrpRef3
import Derived.Test.YtbbafhpnlmmjjaaFwMeet
import Derived.Shelf.Spec.TrailingZeros
namespace Go.Proofs.Ytbbafhpnlmmjjaa
set_option linter.unusedVariables false
set_option linter.unusedSimpArgs false
set_option linter.unusedSectionVars false
open Go.RowKit Fw
theorem mk_lt (n : Int) : 0 ≤ mk n ∧ mk n < 4294967296 := by
  unfold mk
  generalize IntKind.u64.wrap _ = x
  simp only [IntKind.wrap_u32]
  omega
theorem mkR_eq (n : Int) (h0 : 0 ≤ n) (h1 : n ≤ 32) : mkR n = mk n := by
  obtain ⟨k, rfl⟩ := Int.eq_ofNat_of_zero_le h0
  have h : (List.range 33).all (fun k : Nat => mkR k == mk k) = true := by kernel_rfl
  have := List.all_eq_true.1 h k (List.mem_range.2 (by omega))
  simpa using this
theorem bits_xor_u32_nat (a b : Nat) (ha : a < 4294967296) (hb : b < 4294967296) : bits .xor .u32 (a : Int) (b : Int) = ((a ^^^ b : Nat) : Int) := by
  have hx : a ^^^ b < 2 ^ 32 := Nat.xor_lt_two_pow (by omega) (by omega)
  have h1 : (BitVec.ofInt 32 (a : Int)).toNat = a := by
    rw [BitVec.ofInt_natCast, BitVec.toNat_ofNat]; exact Nat.mod_eq_of_lt (by omega)
  have h2 : (BitVec.ofInt 32 (b : Int)).toNat = b := by
    rw [BitVec.ofInt_natCast, BitVec.toNat_ofNat]; exact Nat.mod_eq_of_lt (by omega)
  show IntKind.u32.wrap ((BitVec.ofInt 32 (a : Int) ^^^ BitVec.ofInt 32 (b : Int)).toNat : Int) = _
  rw [BitVec.toNat_xor, h1, h2, IntKind.wrap_u32]
  omega
theorem inR_eq (x : Int × Int) (a : Int) (h0 : 0 ≤ x.2) (h1 : x.2 ≤ 32) (hx : 0 ≤ x.1 ∧ x.1 < 4294967296) (ha : 0 ≤ a ∧ a < 4294967296) : inR x a = inN x a := by
  unfold inR inN
  rw [mkR_eq _ h0 h1]
  obtain ⟨m0, m1⟩ := mk_lt x.2
  obtain ⟨m, hm⟩ := Int.eq_ofNat_of_zero_le m0
  obtain ⟨p, hp⟩ := Int.eq_ofNat_of_zero_le hx.1
  obtain ⟨q, hq⟩ := Int.eq_ofNat_of_zero_le ha.1
  rw [hm, hp, hq]
  have hm' : m < 4294967296 := by omega
  have hp' : p < 4294967296 := by omega
  have hq' : q < 4294967296 := by omega
  have hpq : p ^^^ q < 4294967296 := Nat.xor_lt_two_pow (n := 32) hp' hq'
  rw [bits_xor_u32_nat p q hp' hq', bits_and_u32_nat _ m hpq hm', bits_and_u32_nat q m hq' hm', bits_and_u32_nat p m hp' hm']
  rw [Nat.and_xor_distrib_right]
  by_cases e : p &&& m = q &&& m
  · rw [e, Nat.xor_self]; simp
  · have e2 : ¬ (p &&& m) ^^^ (q &&& m) = 0 := fun h => e (by
      have h2 : ((p &&& m) ^^^ (q &&& m)) ^^^ (q &&& m) = 0 ^^^ (q &&& m) := by rw [h]
      rw [Nat.xor_assoc, Nat.xor_self, Nat.xor_zero, Nat.zero_xor] at h2
      exact h2)
    have e3 : ¬ (q &&& m) = p &&& m := fun h => e h.symm
    have l : ((((p &&& m) ^^^ (q &&& m) : Nat) : Int) == 0) = false := by
      rw [beq_eq_false_iff_ne]; omega
    have r : (((q &&& m : Nat) : Int) == ((p &&& m : Nat) : Int)) = false := by
      rw [beq_eq_false_iff_ne]; omega
    rw [l, r]
end Go.Proofs.Ytbbafhpnlmmjjaa
