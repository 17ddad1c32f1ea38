/- What is proved: what the functions of seq and of its reference answer. Conditions: the numbers are of their kinds. -/
import Derived.Test.YtieolnekccacbaaProg
import Derived.WalkKit
import Derived.WalkSpells
import Derived.WalkLawsBesides
import Derived.Lib.Hide
namespace Go.Proofs.Ytieolnekccacbaa
set_option linter.unusedVariables false
set_option linter.unusedSimpArgs false
set_option linter.unusedSectionVars false
open Go.RowKit

theorem ret_int {k : IntKind} {a b : Int} (h : a = b) : Ending.returned (.int k a) = .returned (.int k b) := by rw [h]

theorem to_u32 (a : Int) (w : World) : Calls Try.prog 36 #[.int .i64 a] w fun e w' => e = .returned (.int .u32 (a % 4294967296)) ∧ w' = w := by
  go_enter Try.func36, Try.ntmps36
  go_wp2
  go_ret
  exact ⟨by first | rfl | simp, rfl⟩
theorem to_i64 (a : Int) (w : World) : Calls Try.prog 37 #[.int .i32 a] w fun e w' => e = .returned (.int .i64 (wrap64 a)) ∧ w' = w := by
  go_enter Try.func37, Try.ntmps37
  go_wp2
  go_ret
  exact ⟨by first | rfl | simp, rfl⟩
theorem to_i32 (a : Int) (w : World) : Calls Try.prog 38 #[.int .u32 a] w fun e w' => e = .returned (.int .i32 (wrap32 a)) ∧ w' = w := by
  go_enter Try.func38, Try.ntmps38
  go_wp2
  go_ret
  exact ⟨by first | rfl | simp, rfl⟩
/-- The signed difference, going round. -/
def sd (a b : Int) : Int := wrap32 ((a - b) % 4294967296)
theorem sd_range (a b : Int) : -2147483648 ≤ sd a b ∧ sd a b < 2147483648 := by unfold sd wrap32; omega
theorem diff_any (a b : Int) (w : World) : Calls Try.prog 34 #[.int .u32 a, .int .u32 b] w fun e w' => e = .returned (.int .i64 (sd a b)) ∧ w' = w := by
  have hr : wrap64 (sd a b) = sd a b := by have := sd_range a b; unfold wrap64; omega
  go_enter Try.func34, Try.ntmps34
  go_wp2_with (first
    | (go_at_call 38; refine (to_i32 _ _).mono ?_; rintro e w' ⟨rfl, rfl⟩)
    | (go_at_call 37; refine (to_i64 _ _).mono ?_; rintro e w' ⟨rfl, rfl⟩))
  go_ret
  exact ⟨by rw [← hr]; rfl, rfl⟩
theorem plus_any (a n : Int) (w : World) : Calls Try.prog 32 #[.int .u32 a, .int .i64 n] w fun e w' => e = .returned (.int .u32 ((a + n % 4294967296) % 4294967296)) ∧ w' = w := by
  go_enter Try.func32, Try.ntmps32
  go_wp2_with (first
    | (go_at_call 36; refine (to_u32 _ _).mono ?_; rintro e w' ⟨rfl, rfl⟩))
  go_ret
  exact ⟨rfl, rfl⟩
/-- The place of a number that is nearest to a place that is in 0 .. 2^40. -/
def plc (start n near : Int) : Int := near + sd n ((start + near) % 4294967296)
theorem place_any (s n near : Int) (w : World) (h0 : 0 ≤ near) (h1 : near ≤ 1099511627776) :
    Calls Try.prog 24 #[.int .u32 s, .int .u32 n, .int .i64 near] w fun e w' => e = .returned (.int .i64 (plc s n near)) ∧ w' = w := by
  have hp : (s + near % 4294967296) % 4294967296 = (s + near) % 4294967296 := by omega
  have hr := sd_range n ((s + near) % 4294967296)
  go_enter Try.func24, Try.ntmps24
  go_wp2_with (first
    | (go_at_call 32; refine (plus_any _ _ _).mono ?_; rintro e w' ⟨rfl, rfl⟩)
    | (go_at_call 34; refine (diff_any _ _ _).mono ?_; rintro e w' ⟨rfl, rfl⟩))
  all_goals
    go_ret
    refine ⟨ret_int ?_, rfl⟩
    unfold plc
    first | (rw [show near = 0 by omega]; have := sd_range n (s % 4294967296); rw [Int.add_zero, Int.zero_add]; unfold wrap64; omega) | rfl | (unfold wrap64; omega)
end Go.Proofs.Ytieolnekccacbaa
