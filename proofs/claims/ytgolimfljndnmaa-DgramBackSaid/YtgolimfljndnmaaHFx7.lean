/- What is proved: each Go function of this text answers as the plain Lean function beside it (a law: its given row, out of the plain statement). Conditions: those that stand in each theorem. Written by my drive.py, which calls the printer of the kit for what that covers. -/
import Derived.Test.YtgolimfljndnmaaHFx0
import Derived.Test.YtgolimfljndnmaaHFx2
import Derived.Test.YtgolimfljndnmaaHFx6
namespace Go.Proofs.Ytgolimfljndnmaa.HF
open Go.RowKit Go.Proofs.YtgolimfljndnmaaW.PrintWords Go.Proofs.YtgolimfljndnmaaW.PrintLast Go.Proofs.YtgolimfljndnmaaW.PrintMore
attribute [local go_sem] max2_int min2_int max_two min_two max_three min_three max_four min_four   -- for this text's walks alone
set_option linter.unusedVariables false
set_option linter.unusedSimpArgs false

/-! ### dgram_GetICMP_2: function 64 -/
/-! ### dgram_sumsI: function 64 -/
def dgram_sumsI.f (k : Nat) (a0 : ByteArray) : Option (Bool) := (sum_Of.f k (([a0] : List ByteArray))).bind fun t140 => (some (t140 != 0))
theorem dgram_sumsI.mono : ∀ a0 k, LeO (dgram_sumsI.f k a0) (dgram_sumsI.f (k + 1) a0) := by
 intro a0 k
 unfold dgram_sumsI.f
 repeat' first
   | (with_reducible exact sum_Of.mono _ _)
   | (with_reducible exact LeO.refl _)
   | (with_reducible exact LeO.none _)
   | (with_reducible refine LeO.ite ?_ ?_)
   | (with_reducible refine LeO.bind ?_ (fun _ => ?_))
   | exact sum_Of.mono _ _
   | exact LeO.none _
   | refine LeO.ite ?_ ?_
   | refine LeO.bind ?_ (fun _ => ?_)
set_option maxHeartbeats 8000000 in
set_option maxRecDepth 100000 in
theorem dgram_sumsI.calls (k : Nat) (a0 : ByteArray) (r : Bool) (w : World) (h : dgram_sumsI.f k a0 = some r) :
  Calls Try.prog 64 #[.string a0] w fun e w' => e = .returned (.bool r) ∧ Below w.heap.size w w' := by
 have HB := Aside0.mk (Below.refl w.heap.size w)
 have H : ((sum_Of.f k (([a0] : List ByteArray))).bind fun t140 => (some (t140 != 0))) = some r := h
 clear h
 obtain ⟨y137, hy137⟩ : ∃ y_ : List ByteArray, y_ = (([a0] : List ByteArray)) := ⟨_, rfl⟩
 replace H : ((sum_Of.f k y137).bind fun t140 => (some (t140 != 0))) = some r := by first | (rw [hy137]; with_reducible exact H) | (have H2_ := (Option.bind_some _ _).symm.trans H; rw [hy137]; with_reducible exact H2_) | (have H2_ := (Option.bind_some _ _).symm.trans H; with_reducible exact H2_) | with_reducible exact H | (rw [hy137]; exact H) | exact H
 have Ny137 := Aside0.mk hy137
 clear hy137
 replace H := Option.bind_eq_some_iff.mp H
 obtain ⟨t140, A20, H⟩ := H
 replace H : (some (t140 != 0)) = some r := H
 have A2 := Aside0.mk A20
 clear A20
 obtain rfl := Option.some.inj H
 go_enter Try.func64, Try.ntmps64
 go_wp2_with (first | ((with_reducible refine gate_dst (N := 4) rfl ?_); refine Kd.R_lit Kd.string _ 9 ?hg (N := 4) ?hd (xs := ([a0] : List ByteArray)) (inner := [.string a0]) (ok := fun _ => True) (okp := fun _ => True) ?hr ?hp (fun _ hk => hk) trivial (Below.refl _ _) (Nat.le_refl _) (by simp) ?_; (case hd => rfl); (case hg => rfl); (case hr => first | (go_simp; done) | (go_simp; rfl)); (case hp => exact (Reps.one (show Kd.M Kd.string _ _ _ a0 [.string a0] from rfl) (Reps.none _ _))); intro v138 w3 ho4 hb hg_ hnew_; clear hg_ hnew_; (first | rw [← Ny137.out] at ho4 | (simp only [Int.reduceToNat] at ho4; rw [← Ny137.out] at ho4)); have n0_ := Aside0.mk (Kd.R_lower ho4 (below_size (by repeat (first | (with_reducible first | exact HB.out | apply below_alloc | apply pw_below_drewN | apply below_drew1) | exact HB.out)))); have n1_ := Aside0.mk (below_step (by repeat (first | (with_reducible first | exact HB.out | apply below_alloc | apply pw_below_drewN | apply below_drew1) | exact HB.out)) hb); clear HB; have HO139 := n0_; have HB := n1_; clear n0_ n1_; clear hb ho4; obtain ⟨Ao5, co5, eo5⟩ := Kd.R_slice HO139.out; subst eo5) | ((with_reducible refine gate_callee (f := 44) rfl ?_); refine goesL_ (some 5) rfl rfl Try.func44 (by kernel_rfl) rfl #[.slice Ao5 y137.length co5] rfl (by (try simp only [List.map_toArray, List.map_cons, List.map_nil]); first | done | rfl | (simp only [List.length_drop, List.length_take]; rfl)) ?_; (with_reducible refine (sum_Of.calls k _ _ y137 t140 _ ?side1 ?side2 A2.out).mono ?_); (case side1 => repeat (first | exact (Kd.R_reads' HO139.out).2.2 | (with_reducible refine Kd.C_alloc ?_ _) | (with_reducible refine Kd.C_drewN ?_ _) | (with_reducible refine Kd.C_drew ?_))); (case side2 => exact (Kd.R_reads' HO139.out).2.1); rintro e w' ⟨rfl, ⟨nd, rfl⟩⟩; refine ⟨_, rfl, ?_⟩))
 go_ret
 exact ⟨by first | rfl | (simp [errW_none, errW_some] <;> rfl) | (simp [*, errW_none, errW_some] <;> rfl), by repeat (first | (with_reducible first | exact HB.out | apply below_alloc | apply pw_below_drewN | apply below_drew1) | exact HB.out)⟩

def dgram_GetICMP_2.f (k : Nat) (a0 : ByteArray) : Option Int := if (a0.size : Int) < 8 then some 2 else (dgram_GetICMP_1.f a0).bind fun b => if b = true then some 3 else if (a0.size : Int) > 2000 then some 5 else (dgram_sumsI.f k a0).bind fun c => if c = true then some 4 else some 0
theorem dgram_GetICMP_2.mono : ∀ a0 k, LeO (dgram_GetICMP_2.f k a0) (dgram_GetICMP_2.f (k + 1) a0) := fun a0 k => LeO.ite (LeO.refl _) (LeO.bind (LeO.refl _) (fun _ => LeO.ite (LeO.refl _) (LeO.ite (LeO.refl _) (LeO.bind (dgram_sumsI.mono a0 k) (fun _ => LeO.refl _)))))
set_option maxRecDepth 100000 in
set_option maxHeartbeats 4000000 in
theorem dgram_GetICMP_2.calls (k : Nat) (a0 : ByteArray) (r : Int) (w : World) (h : dgram_GetICMP_2.f k a0 = some r) :
  Calls Try.prog 60 #[.string a0, .func (.func 63) #[] #[], .func (.func 64) #[] #[]] w fun e w' => e = .returned (.int .i64 r) ∧ Below w.heap.size w w' := by
 unfold dgram_GetICMP_2.f at h
 by_cases c1 : (a0.size : Int) < 8
 ·
  rw [if_pos c1] at h
  obtain rfl := Option.some.inj h
  have d1 : decide ((a0.size : Int) < 8) = true := decide_eq_true c1
  clear h c1
  go_enter Try.func60, Try.ntmps60
  go_wp2
  go_ret
  exact ⟨rfl, Below.refl _ _⟩
 rw [if_neg c1] at h
 have d1 : decide ((a0.size : Int) < 8) = false := decide_eq_false c1
 clear c1
 obtain ⟨b, A10, h⟩ := Option.bind_eq_some_iff.mp h
 have A1 := Aside0.mk A10
 clear A10
 by_cases c2 : b = true
 ·
  subst c2
  rw [if_pos rfl] at h
  obtain rfl := Option.some.inj h
  clear h
  go_enter Try.func60, Try.ntmps60
  go_wp2_with (go_at_call 63; refine (dgram_GetICMP_1.calls a0 true _ A1.out).mono ?_; rintro e w1 ⟨rfl, ⟨nd, rfl⟩⟩)
  go_ret
  exact ⟨rfl, pw_below_drewN (Below.refl _ _) nd⟩
 obtain rfl : b = false := by simpa using c2
 clear c2
 rw [if_neg Bool.false_ne_true] at h
 by_cases c3 : (a0.size : Int) > 2000
 ·
  rw [if_pos c3] at h
  obtain rfl := Option.some.inj h
  have d2 : decide (2000 < (a0.size : Int)) = true := decide_eq_true c3
  clear h c3
  go_enter Try.func60, Try.ntmps60
  go_wp2_with (go_at_call 63; refine (dgram_GetICMP_1.calls a0 false _ A1.out).mono ?_; rintro e w1 ⟨rfl, ⟨nd, rfl⟩⟩)
  go_ret
  exact ⟨rfl, pw_below_drewN (Below.refl _ _) nd⟩
 rw [if_neg c3] at h
 have d2 : decide (2000 < (a0.size : Int)) = false := decide_eq_false c3
 clear c3
 obtain ⟨c, A20, h⟩ := Option.bind_eq_some_iff.mp h
 have A2 := Aside0.mk A20
 clear A20
 by_cases c4 : c = true
 ·
  subst c4
  rw [if_pos rfl] at h
  obtain rfl := Option.some.inj h
  clear h
  go_enter Try.func60, Try.ntmps60
  go_wp2_with (first | (go_at_call 63; refine (dgram_GetICMP_1.calls a0 false _ A1.out).mono ?_; rintro e w1 ⟨rfl, ⟨nd, rfl⟩⟩) | (go_at_call 64; refine (dgram_sumsI.calls k a0 true _ A2.out).mono ?_; rintro e w2 ⟨rfl, hb2⟩))
  go_ret
  exact ⟨rfl, below_step (pw_below_drewN (Below.refl _ _) nd) hb2⟩
 ·
  obtain rfl : c = false := by simpa using c4
  rw [if_neg c4] at h
  obtain rfl := Option.some.inj h
  clear h c4
  go_enter Try.func60, Try.ntmps60
  go_wp2_with (first | (go_at_call 63; refine (dgram_GetICMP_1.calls a0 false _ A1.out).mono ?_; rintro e w1 ⟨rfl, ⟨nd, rfl⟩⟩) | (go_at_call 64; refine (dgram_sumsI.calls k a0 false _ A2.out).mono ?_; rintro e w2 ⟨rfl, hb2⟩))
  go_ret
  exact ⟨rfl, below_step (pw_below_drewN (Below.refl _ _) nd) hb2⟩


end Go.Proofs.Ytgolimfljndnmaa.HF
