/- What is proved: each Go function of this text answers as the plain Lean function beside it (a law: its given row, out of the plain statement). Conditions: those that stand in each theorem. Written by my drive.py, which calls the printer of the kit for what that covers. -/
import Derived.Test.YtgolimfljndnmaaHFx0
import Derived.Test.YtgolimfljndnmaaHFx1
namespace Go.Proofs.Ytgolimfljndnmaa.HF
open Go.RowKit Go.Proofs.YtgolimfljndnmaaW.PrintWords Go.Proofs.YtgolimfljndnmaaW.PrintLast Go.Proofs.YtgolimfljndnmaaW.PrintMore
attribute [local go_sem] max2_int min2_int max_two min_two max_three min_three max_four min_four   -- for this text's walks alone
set_option linter.unusedVariables false
set_option linter.unusedSimpArgs false

/-! ### dgram_pseudo: function 59 -/
def dgram_pseudo.f (k : Nat) (a0 : Int) (a1 : Int) (a2 : Int) : Option (ByteArray) := (sum_Big.f k (wrap64 (a0)) 4).bind fun t108 => ((sum_Big.f k (wrap64 (a1)) 4).bind fun t109 => (if t108.size + t109.size ≤ 9223372036854775807 then (if (t108 ++ t109).size + 1 ≤ 9223372036854775807 then ((sum_Big.f k 17 1).bind fun t110 => (if ((t108 ++ t109) ++ (⟨#[0]⟩ : ByteArray)).size + t110.size ≤ 9223372036854775807 then ((sum_Big.f k a2 2).bind fun t111 => (if (((t108 ++ t109) ++ (⟨#[0]⟩ : ByteArray)) ++ t110).size + t111.size ≤ 9223372036854775807 then (some ((((t108 ++ t109) ++ (⟨#[0]⟩ : ByteArray)) ++ t110) ++ t111)) else (none))) else (none))) else (none)) else (none)))
theorem dgram_pseudo.mono : ∀ a0 a1 a2 k, LeO (dgram_pseudo.f k a0 a1 a2) (dgram_pseudo.f (k + 1) a0 a1 a2) := by
 intro a0 a1 a2 k
 unfold dgram_pseudo.f
 repeat' first
   | (with_reducible exact sum_Big.mono _ _ _)
   | (with_reducible exact LeO.refl _)
   | (with_reducible exact LeO.none _)
   | (with_reducible refine LeO.ite ?_ ?_)
   | (with_reducible refine LeO.bind ?_ (fun _ => ?_))
   | exact sum_Big.mono _ _ _
   | exact LeO.none _
   | refine LeO.ite ?_ ?_
   | refine LeO.bind ?_ (fun _ => ?_)
set_option maxHeartbeats 8000000 in
set_option maxRecDepth 100000 in
theorem dgram_pseudo.calls (k : Nat) (a0 : Int) (a1 : Int) (a2 : Int) (r : ByteArray) (w : World) (h : dgram_pseudo.f k a0 a1 a2 = some r) :
  Calls Try.prog 59 #[.int .u32 a0, .int .u32 a1, .int .i64 a2] w fun e w' => e = .returned (.string r) ∧ Below w.heap.size w w' := by
 have HB := Aside0.mk (Below.refl w.heap.size w)
 have H : ((sum_Big.f k (wrap64 (a0)) 4).bind fun t108 => ((sum_Big.f k (wrap64 (a1)) 4).bind fun t109 => (if t108.size + t109.size ≤ 9223372036854775807 then (if (t108 ++ t109).size + 1 ≤ 9223372036854775807 then ((sum_Big.f k 17 1).bind fun t110 => (if ((t108 ++ t109) ++ (⟨#[0]⟩ : ByteArray)).size + t110.size ≤ 9223372036854775807 then ((sum_Big.f k a2 2).bind fun t111 => (if (((t108 ++ t109) ++ (⟨#[0]⟩ : ByteArray)) ++ t110).size + t111.size ≤ 9223372036854775807 then (some ((((t108 ++ t109) ++ (⟨#[0]⟩ : ByteArray)) ++ t110) ++ t111)) else (none))) else (none))) else (none)) else (none)))) = some r := h
 clear h
 replace H := Option.bind_eq_some_iff.mp H
 obtain ⟨t108, A40, H⟩ := H
 replace H : ((sum_Big.f k (wrap64 (a1)) 4).bind fun t109 => (if t108.size + t109.size ≤ 9223372036854775807 then (if (t108 ++ t109).size + 1 ≤ 9223372036854775807 then ((sum_Big.f k 17 1).bind fun t110 => (if ((t108 ++ t109) ++ (⟨#[0]⟩ : ByteArray)).size + t110.size ≤ 9223372036854775807 then ((sum_Big.f k a2 2).bind fun t111 => (if (((t108 ++ t109) ++ (⟨#[0]⟩ : ByteArray)) ++ t110).size + t111.size ≤ 9223372036854775807 then (some ((((t108 ++ t109) ++ (⟨#[0]⟩ : ByteArray)) ++ t110) ++ t111)) else (none))) else (none))) else (none)) else (none))) = some r := H
 have A4 := Aside0.mk A40
 clear A40
 replace H := Option.bind_eq_some_iff.mp H
 obtain ⟨t109, A50, H⟩ := H
 replace H : (if t108.size + t109.size ≤ 9223372036854775807 then (if (t108 ++ t109).size + 1 ≤ 9223372036854775807 then ((sum_Big.f k 17 1).bind fun t110 => (if ((t108 ++ t109) ++ (⟨#[0]⟩ : ByteArray)).size + t110.size ≤ 9223372036854775807 then ((sum_Big.f k a2 2).bind fun t111 => (if (((t108 ++ t109) ++ (⟨#[0]⟩ : ByteArray)) ++ t110).size + t111.size ≤ 9223372036854775807 then (some ((((t108 ++ t109) ++ (⟨#[0]⟩ : ByteArray)) ++ t110) ++ t111)) else (none))) else (none))) else (none)) else (none)) = some r := H
 have A5 := Aside0.mk A50
 clear A50
 by_cases c6 : t108.size + t109.size ≤ 9223372036854775807
 ·
  rw [if_pos c6] at H
  have c6b0 := eq_true c6
  have c6b1 : decide (t108.size + t109.size ≤ 9223372036854775807) = true := decide_eq_true c6
  try have c6b2 : (9223372036854775807 < t108.size + t109.size) = False := eq_false (Nat.not_lt.2 c6)
  by_cases c7 : (t108 ++ t109).size + 1 ≤ 9223372036854775807
  ·
   rw [if_pos c7] at H
   have c7b0 := eq_true c7
   have c7b1 : decide ((t108 ++ t109).size + 1 ≤ 9223372036854775807) = true := decide_eq_true c7
   try have c7b2 : (9223372036854775807 < (t108 ++ t109).size + 1) = False := eq_false (Nat.not_lt.2 c7)
   have c7b3 : (9223372036854775807 < t108.size + t109.size + 1) = False := eq_false (Nat.not_lt.2 (by have z_ := c7; simp only [ByteArray.size_append] at z_; exact z_))
   replace H := Option.bind_eq_some_iff.mp H
   obtain ⟨t110, A80, H⟩ := H
   replace H : (if ((t108 ++ t109) ++ (⟨#[0]⟩ : ByteArray)).size + t110.size ≤ 9223372036854775807 then ((sum_Big.f k a2 2).bind fun t111 => (if (((t108 ++ t109) ++ (⟨#[0]⟩ : ByteArray)) ++ t110).size + t111.size ≤ 9223372036854775807 then (some ((((t108 ++ t109) ++ (⟨#[0]⟩ : ByteArray)) ++ t110) ++ t111)) else (none))) else (none)) = some r := H
   have A8 := Aside0.mk A80
   clear A80
   by_cases c9 : ((t108 ++ t109) ++ (⟨#[0]⟩ : ByteArray)).size + t110.size ≤ 9223372036854775807
   ·
    rw [if_pos c9] at H
    have c9b0 := eq_true c9
    have c9b1 : decide (((t108 ++ t109) ++ (⟨#[0]⟩ : ByteArray)).size + t110.size ≤ 9223372036854775807) = true := decide_eq_true c9
    try have c9b2 : (9223372036854775807 < ((t108 ++ t109) ++ (⟨#[0]⟩ : ByteArray)).size + t110.size) = False := eq_false (Nat.not_lt.2 c9)
    have c9b3 : (9223372036854775807 < t108.size + t109.size + 1 + t110.size) = False := eq_false (Nat.not_lt.2 (by have z_ := c9; simp only [ByteArray.size_append] at z_; exact z_))
    replace H := Option.bind_eq_some_iff.mp H
    obtain ⟨t111, A100, H⟩ := H
    replace H : (if (((t108 ++ t109) ++ (⟨#[0]⟩ : ByteArray)) ++ t110).size + t111.size ≤ 9223372036854775807 then (some ((((t108 ++ t109) ++ (⟨#[0]⟩ : ByteArray)) ++ t110) ++ t111)) else (none)) = some r := H
    have A10 := Aside0.mk A100
    clear A100
    by_cases c11 : (((t108 ++ t109) ++ (⟨#[0]⟩ : ByteArray)) ++ t110).size + t111.size ≤ 9223372036854775807
    ·
     rw [if_pos c11] at H
     have c11b0 := eq_true c11
     have c11b1 : decide ((((t108 ++ t109) ++ (⟨#[0]⟩ : ByteArray)) ++ t110).size + t111.size ≤ 9223372036854775807) = true := decide_eq_true c11
     try have c11b2 : (9223372036854775807 < (((t108 ++ t109) ++ (⟨#[0]⟩ : ByteArray)) ++ t110).size + t111.size) = False := eq_false (Nat.not_lt.2 c11)
     have c11b3 : (9223372036854775807 < t108.size + t109.size + 1 + t110.size + t111.size) = False := eq_false (Nat.not_lt.2 (by have z_ := c11; simp only [ByteArray.size_append] at z_; exact z_))
     obtain rfl := Option.some.inj H
     go_enter Try.func59, Try.ntmps59
     go_wp2_with (first | ((with_reducible refine gate_callee (f := 42) rfl ?_); refine goesL_ (some 9) rfl rfl Try.func42 (by kernel_rfl) rfl #[.int .i64 (wrap64 (a0)), .int .i64 4] rfl (by (try simp only [List.map_toArray, List.map_cons, List.map_nil]); first | done | rfl | (simp only [List.length_drop, List.length_take]; rfl)) ?_; (with_reducible refine (sum_Big.calls k (wrap64 (a0)) 4 t108 _ A4.out).mono ?_); rintro e w12 ⟨rfl, hb⟩; refine ⟨_, rfl, ?_⟩; have n0_ := Aside0.mk (below_step (by repeat (first | (with_reducible first | exact HB.out | apply below_alloc | apply pw_below_drewN | apply below_drew1) | exact HB.out)) hb); clear HB; have HB := n0_; clear n0_; (try clear hb); (try clear hb2); (try clear hk); (try clear hi)) | ((with_reducible refine gate_callee (f := 42) rfl ?_); refine goesL_ (some 12) rfl rfl Try.func42 (by kernel_rfl) rfl #[.int .i64 (wrap64 (a1)), .int .i64 4] rfl (by (try simp only [List.map_toArray, List.map_cons, List.map_nil]); first | done | rfl | (simp only [List.length_drop, List.length_take]; rfl)) ?_; (with_reducible refine (sum_Big.calls k (wrap64 (a1)) 4 t109 _ A5.out).mono ?_); rintro e w13 ⟨rfl, hb⟩; refine ⟨_, rfl, ?_⟩; have n0_ := Aside0.mk (below_step (by repeat (first | (with_reducible first | exact HB.out | apply below_alloc | apply pw_below_drewN | apply below_drew1) | exact HB.out)) hb); clear HB; have HB := n0_; clear n0_; (try clear hb); (try clear hb2); (try clear hk); (try clear hi)) | ((with_reducible refine gate_callee (f := 42) rfl ?_); refine goesL_ (some 15) rfl rfl Try.func42 (by kernel_rfl) rfl #[.int .i64 17, .int .i64 1] rfl (by (try simp only [List.map_toArray, List.map_cons, List.map_nil]); first | done | rfl | (simp only [List.length_drop, List.length_take]; rfl)) ?_; (with_reducible refine (sum_Big.calls k 17 1 t110 _ A8.out).mono ?_); rintro e w14 ⟨rfl, hb⟩; refine ⟨_, rfl, ?_⟩; have n0_ := Aside0.mk (below_step (by repeat (first | (with_reducible first | exact HB.out | apply below_alloc | apply pw_below_drewN | apply below_drew1) | exact HB.out)) hb); clear HB; have HB := n0_; clear n0_; (try clear hb); (try clear hb2); (try clear hk); (try clear hi)) | ((with_reducible refine gate_callee (f := 42) rfl ?_); refine goesL_ (some 18) rfl rfl Try.func42 (by kernel_rfl) rfl #[.int .i64 a2, .int .i64 2] rfl (by (try simp only [List.map_toArray, List.map_cons, List.map_nil]); first | done | rfl | (simp only [List.length_drop, List.length_take]; rfl)) ?_; (with_reducible refine (sum_Big.calls k a2 2 t111 _ A10.out).mono ?_); rintro e w15 ⟨rfl, hb⟩; refine ⟨_, rfl, ?_⟩; have n0_ := Aside0.mk (below_step (by repeat (first | (with_reducible first | exact HB.out | apply below_alloc | apply pw_below_drewN | apply below_drew1) | exact HB.out)) hb); clear HB; have HB := n0_; clear n0_; (try clear hb); (try clear hb2); (try clear hk); (try clear hi)))
     go_ret
     exact ⟨by first | rfl | (simp [errW_none, errW_some] <;> rfl) | (simp [*, errW_none, errW_some] <;> rfl), by repeat (first | (with_reducible first | exact HB.out | apply below_alloc | apply pw_below_drewN | apply below_drew1) | exact HB.out)⟩
    ·
     rw [if_neg c11] at H
     exact absurd H (by simp)
   ·
    rw [if_neg c9] at H
    exact absurd H (by simp)
  ·
   rw [if_neg c7] at H
   exact absurd H (by simp)
 ·
  rw [if_neg c6] at H
  exact absurd H (by simp)

end Go.Proofs.Ytgolimfljndnmaa.HF
