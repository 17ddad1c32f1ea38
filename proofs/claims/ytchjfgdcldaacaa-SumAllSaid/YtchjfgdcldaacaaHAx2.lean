/- What is proved: each Go function of this text answers as the plain Lean function beside it (a law: its given row, out of the plain statement). Conditions: those that stand in each theorem. Written by my drive.py, which calls the printer of the kit for what that covers. -/
import Derived.Test.YtchjfgdcldaacaaHAx0
import Derived.Test.YtchjfgdcldaacaaHAx1
namespace Go.Proofs.Ytchjfgdcldaacaa.HA
open Go.RowKit Go.Proofs.YtchjfgdcldaacaaW.PrintWords Go.Proofs.YtchjfgdcldaacaaW.PrintLast Go.Proofs.YtchjfgdcldaacaaW.PrintMore
attribute [local go_sem] max2_int min2_int max_two min_two max_three min_three max_four min_four   -- for this text's walks alone
set_option linter.unusedVariables false
set_option linter.unusedSimpArgs false

/-! ### rampartref01_Big: function 26 -/
def rampartref01_Big.l0 : Nat → Int → Int → ByteArray → Int → Option (ByteArray)
  | 0, _, _, _, _ => none
  | k + 1, x0, x1, x5, x6 => if x6 < x1 then (if x6 < 8 then ((some (([(x0) % 256] : List Int) : List Int)).bind fun y117 => (if (strOfNums y117).size + x5.size ≤ 9223372036854775807 then (rampartref01_Big.l0 k (x0 / 256) x1 ((strOfNums y117) ++ x5) (wrap64 (x6 + 1))) else (none))) else (some x5)) else (some x5)
def rampartref01_Big.f (k : Nat) (a0 : Int) (a1 : Int) : Option (ByteArray) := rampartref01_Big.l0 k a0 a1 (⟨#[]⟩ : ByteArray) 0
theorem rampartref01_Big.mono_l : ∀ k, (∀ y0 y1 y2 y3, LeO (rampartref01_Big.l0 k y0 y1 y2 y3) (rampartref01_Big.l0 (k + 1) y0 y1 y2 y3))
  | 0 => fun _ _ _ _ r h => by simp [rampartref01_Big.l0] at h
  | k + 1 => by
    have ih0 := rampartref01_Big.mono_l k
    · intro y0 y1 y2 y3
      unfold rampartref01_Big.l0
      repeat' first
      | (with_reducible exact ih0 _ _ _ _)
      | (with_reducible exact LeO.refl _)
      | (with_reducible exact LeO.none _)
      | (with_reducible refine LeO.ite ?_ ?_)
      | (with_reducible refine LeO.bind ?_ (fun _ => ?_))
      | exact ih0 _ _ _ _
      | exact LeO.none _
      | refine LeO.ite ?_ ?_
      | refine LeO.bind ?_ (fun _ => ?_)
theorem rampartref01_Big.mono : ∀ a0 a1 k, LeO (rampartref01_Big.f k a0 a1) (rampartref01_Big.f (k + 1) a0 a1) := by
  intro a0 a1 k
  have ih0 := rampartref01_Big.mono_l k
  unfold rampartref01_Big.f
  repeat' first
      | (with_reducible exact ih0 _ _ _ _)
      | (with_reducible exact LeO.refl _)
      | (with_reducible exact LeO.none _)
      | (with_reducible refine LeO.ite ?_ ?_)
      | (with_reducible refine LeO.bind ?_ (fun _ => ?_))
      | exact ih0 _ _ _ _
      | exact LeO.none _
      | refine LeO.ite ?_ ?_
      | refine LeO.bind ?_ (fun _ => ?_)
set_option maxHeartbeats 8000000 in
set_option maxRecDepth 100000 in
theorem rampartref01_Big.calls (k : Nat) (a0 : Int) (a1 : Int) (r : ByteArray) (w : World) (h : rampartref01_Big.f k a0 a1 = some r) :
    Calls Try.prog 26 #[.int .i64 a0, .int .i64 a1] w fun e w' => e = .returned (.string r) ∧ Below w.heap.size w w' := by
  have HB := Aside0.mk (Below.refl w.heap.size w)
  have H : (rampartref01_Big.l0 k a0 a1 (⟨#[]⟩ : ByteArray) 0) = some r := h
  clear h
  have H' := Aside0.mk H
  clear H
  go_enter Try.func26, Try.ntmps26
  go_wp2
  go_loopg [0, 5, 6] k (fun kq v0 v5 v6 w' => ∃ (x0_1 : Int) (x5_1 : ByteArray) (x6_1 : Int), v0 = .int .i64 x0_1 ∧ v5 = .string x5_1 ∧ v6 = .int .i64 x6_1 ∧ Aside0 (rampartref01_Big.l0 kq x0_1 a1 x5_1 x6_1 = some r) ∧ Aside0 (kq ≤ k) ∧ Aside0 (Below w.heap.size w w'))
  case atStart => exact ⟨(a0), ((⟨#[]⟩ : ByteArray)), (0), (by first | rfl | (simp; done) | (simp [*]; done)), (by first | rfl | (simp; done) | (simp [*]; done)), (by first | rfl | (simp; done) | (simp [*]; done)), H', ⟨Nat.le_refl _⟩, ⟨by repeat (first | (with_reducible first | exact HB.out | apply below_alloc | apply pw_below_drewN | apply below_drew1) | exact HB.out)⟩⟩
  case round =>
    clear H'
    try clear c2
    try clear p2
    obtain ⟨x0_1, x5_1, x6_1, rfl, rfl, rfl, HA, HK1, HB⟩ := hrel
    cases gk with
    | zero => exact absurd HA.out (by simp [rampartref01_Big.l0])
    | succ k1 =>
      have H := HA.out
      clear HA
      simp only [rampartref01_Big.l0] at H
      by_cases c3 : x6_1 < a1
      · rw [if_pos c3] at H
        have c3b0 : decide (x6_1 < a1) = true := decide_eq_true c3
        clear c3
        by_cases c4 : x6_1 < 8
        · rw [if_pos c4] at H
          have c4b0 : decide (x6_1 < 8) = true := decide_eq_true c4
          clear c4
          obtain ⟨y117, hy117⟩ : ∃ y_ : List Int, y_ = (([(x0_1) % 256] : List Int)) := ⟨_, rfl⟩
          replace H : (if (strOfNums y117).size + x5_1.size ≤ 9223372036854775807 then (rampartref01_Big.l0 k1 (x0_1 / 256) a1 ((strOfNums y117) ++ x5_1) (wrap64 (x6_1 + 1))) else (none)) = some r := by first | (rw [hy117]; with_reducible exact H) | (have H2_ := (Option.bind_some _ _).symm.trans H; rw [hy117]; with_reducible exact H2_) | (have H2_ := (Option.bind_some _ _).symm.trans H; with_reducible exact H2_) | with_reducible exact H | (rw [hy117]; exact H) | exact H
          have Ny117 := Aside0.mk hy117
          clear hy117
          by_cases c5 : (strOfNums y117).size + x5_1.size ≤ 9223372036854775807
          · rw [if_pos c5] at H
            have c5b0 := eq_true c5
            have c5b1 : decide ((strOfNums y117).size + x5_1.size ≤ 9223372036854775807) = true := decide_eq_true c5
            try have c5b2 : (9223372036854775807 < (strOfNums y117).size + x5_1.size) = False := eq_false (Nat.not_lt.2 c5)
            have H' := Aside0.mk H
            clear H
            go_wp2_with (first | ((with_reducible refine gate_dst (N := 18) rfl ?_); refine Kd.R_lit (Kd.int .u8) _ 5 ?hg (N := 18) ?hd (xs := ([(x0_1) % 256] : List Int)) (inner := [.int .u8 ((x0_1) % 256)]) (ok := fun _ => True) (okp := fun _ => True) ?hr ?hp (fun _ hk => hk) trivial (Below.refl _ _) (Nat.le_refl _) (by simp) ?_; (case hd => rfl); (case hg => rfl); (case hr => first | (go_simp; done) | (go_simp; rfl)); (case hp => exact (Reps.one (show Kd.M (Kd.int .u8) _ _ _ ((x0_1) % 256) [.int .u8 ((x0_1) % 256)] from rfl) (Reps.none _ _))); intro v118 w6 ho7 hb hg_ hnew_; clear hg_ hnew_; (first | rw [← Ny117.out] at ho7 | (simp only [Int.reduceToNat] at ho7; rw [← Ny117.out] at ho7)); have n0_ := Aside0.mk (Kd.R_lower ho7 (below_size (by repeat (first | (with_reducible first | exact HB.out | apply below_alloc | apply pw_below_drewN | apply below_drew1) | exact HB.out)))); have n1_ := Aside0.mk (below_step (by repeat (first | (with_reducible first | exact HB.out | apply below_alloc | apply pw_below_drewN | apply below_drew1) | exact HB.out)) hb); clear HB; have HO119 := n0_; have HB := n1_; clear n0_ n1_; clear hb ho7; have hcv8 := own_string (P := Try.prog) Try.underlying23 Try.underlying5 Try.underlying9 (Kd.own_of_R HO119.out)))
            go_roundg k1
            case measure => have := HK1.out; omega
            case rel => exact ⟨(x0_1 / 256), ((strOfNums y117) ++ x5_1), (wrap64 (x6_1 + 1)), (by first | rfl | (simp; done) | (simp [*]; done)), (by first | rfl | (simp; done) | (simp [*]; done)), (by first | rfl | (simp; done) | (simp [*]; done)), H', ⟨by have := HK1.out; omega⟩, ⟨by repeat (first | (with_reducible first | exact HB.out | apply below_alloc | apply pw_below_drewN | apply below_drew1) | exact HB.out)⟩⟩
          · rw [if_neg c5] at H
            exact absurd H (by simp)
        · rw [if_neg c4] at H
          have c4b0 : decide (x6_1 < 8) = false := decide_eq_false c4
          clear c4
          obtain rfl := Option.some.inj H
          go_wp2
          go_ret
          exact ⟨by first | rfl | (simp [errW_none, errW_some] <;> rfl) | (simp [*, errW_none, errW_some] <;> rfl), by repeat (first | (with_reducible first | exact HB.out | apply below_alloc | apply pw_below_drewN | apply below_drew1) | exact HB.out)⟩
      · rw [if_neg c3] at H
        have c3b0 : decide (x6_1 < a1) = false := decide_eq_false c3
        clear c3
        obtain rfl := Option.some.inj H
        go_wp2
        go_ret
        exact ⟨by first | rfl | (simp [errW_none, errW_some] <;> rfl) | (simp [*, errW_none, errW_some] <;> rfl), by repeat (first | (with_reducible first | exact HB.out | apply below_alloc | apply pw_below_drewN | apply below_drew1) | exact HB.out)⟩

/-! ### rampartref01_Num: function 27 -/
mutual
def rampartref01_Num.j0 : Nat → ByteArray → Option (Int)
  | 0, _ => none
  | k + 1, x0 => rampartref01_Num.l0 k x0 0 0
def rampartref01_Num.l0 : Nat → ByteArray → Int → Int → Option (Int)
  | 0, _, _, _ => none
  | k + 1, x0, x3, x4 => if x4 < (x0.size : Int) then (if 0 ≤ x4 then (rampartref01_Num.l0 k x0 (Go.bits .or .i64 (wrap64 (x3 * 256)) (wrap64 (bt x0 x4))) (wrap64 (x4 + 1))) else (none)) else (some x3)
end
def rampartref01_Num.f (k : Nat) (a0 : ByteArray) : Option (Int) := if (a0.size : Int) > 7 then (if 0 ≤ (wrap64 ((a0.size : Int) - 7)) then (if (wrap64 ((a0.size : Int) - 7)) ≤ (a0.size : Int) then (rampartref01_Num.j0 k (a0.extract ((wrap64 ((a0.size : Int) - 7)) : Int).toNat a0.size)) else (none)) else (none)) else (rampartref01_Num.j0 k a0)
theorem rampartref01_Num.mono_l : ∀ k, (∀ y0, LeO (rampartref01_Num.j0 k y0) (rampartref01_Num.j0 (k + 1) y0)) ∧ (∀ y0 y1 y2, LeO (rampartref01_Num.l0 k y0 y1 y2) (rampartref01_Num.l0 (k + 1) y0 y1 y2))
  | 0 => ⟨fun _ r h => by simp [rampartref01_Num.j0] at h, fun _ _ _ r h => by simp [rampartref01_Num.l0] at h⟩
  | k + 1 => by
    obtain ⟨ih0, ih1⟩ := rampartref01_Num.mono_l k
    refine ⟨?_, ?_⟩
    · intro y0
      unfold rampartref01_Num.j0
      repeat' first
      | (with_reducible exact ih0 _)
      | (with_reducible exact ih1 _ _ _)
      | (with_reducible exact LeO.refl _)
      | (with_reducible exact LeO.none _)
      | (with_reducible refine LeO.ite ?_ ?_)
      | (with_reducible refine LeO.bind ?_ (fun _ => ?_))
      | exact ih0 _
      | exact ih1 _ _ _
      | exact LeO.none _
      | refine LeO.ite ?_ ?_
      | refine LeO.bind ?_ (fun _ => ?_)
    · intro y0 y1 y2
      unfold rampartref01_Num.l0
      repeat' first
      | (with_reducible exact ih0 _)
      | (with_reducible exact ih1 _ _ _)
      | (with_reducible exact LeO.refl _)
      | (with_reducible exact LeO.none _)
      | (with_reducible refine LeO.ite ?_ ?_)
      | (with_reducible refine LeO.bind ?_ (fun _ => ?_))
      | exact ih0 _
      | exact ih1 _ _ _
      | exact LeO.none _
      | refine LeO.ite ?_ ?_
      | refine LeO.bind ?_ (fun _ => ?_)
theorem rampartref01_Num.mono : ∀ a0 k, LeO (rampartref01_Num.f k a0) (rampartref01_Num.f (k + 1) a0) := by
  intro a0 k
  obtain ⟨ih0, ih1⟩ := rampartref01_Num.mono_l k
  unfold rampartref01_Num.f
  repeat' first
      | (with_reducible exact ih0 _)
      | (with_reducible exact ih1 _ _ _)
      | (with_reducible exact LeO.refl _)
      | (with_reducible exact LeO.none _)
      | (with_reducible refine LeO.ite ?_ ?_)
      | (with_reducible refine LeO.bind ?_ (fun _ => ?_))
      | exact ih0 _
      | exact ih1 _ _ _
      | exact LeO.none _
      | refine LeO.ite ?_ ?_
      | refine LeO.bind ?_ (fun _ => ?_)
set_option maxHeartbeats 8000000 in
set_option maxRecDepth 100000 in
theorem rampartref01_Num.calls (k : Nat) (a0 : ByteArray) (r : Int) (w : World) (h : rampartref01_Num.f k a0 = some r) :
    Calls Try.prog 27 #[.string a0] w fun e w' => e = .returned (.int .i64 r) ∧ Drawn0 w w' := by
  have H : (if (a0.size : Int) > 7 then (if 0 ≤ (wrap64 ((a0.size : Int) - 7)) then (if (wrap64 ((a0.size : Int) - 7)) ≤ (a0.size : Int) then (rampartref01_Num.j0 k (a0.extract ((wrap64 ((a0.size : Int) - 7)) : Int).toNat a0.size)) else (none)) else (none)) else (rampartref01_Num.j0 k a0)) = some r := h
  clear h
  have HC2 := Aside0.mk H
  clear H
  go_enter Try.func27, Try.ntmps27
  go_upto_if 7 with (fail)
  go_cut [0] (fun v0 wc => ∃ (kq : Nat) (x0_1 : ByteArray), v0 = .string x0_1 ∧ Aside0 (rampartref01_Num.j0 kq x0_1 = some r) ∧ Aside0 (kq ≤ k) ∧ Drawn0 w wc)
  case first =>
    have H := HC2.out
    clear HC2
    by_cases c3 : (a0.size : Int) > 7
    · rw [if_pos c3] at H
      have c3b0 : decide (7 < (a0.size : Int)) = true := decide_eq_true c3
      have c3b1 : decide (7 < a0.size) = true := decide_eq_true (by omega)
      clear c3
      (first | rw [c3b0] | (simp only [i64_w, i32_w]; rw [c3b0]) | skip)
      obtain ⟨ji4, hji4⟩ : ∃ j_ : Int, (wrap64 ((a0.size : Int) - 7)) = j_ := ⟨_, rfl⟩
      replace H : (if 0 ≤ (ji4) then (if (ji4) ≤ (a0.size : Int) then (rampartref01_Num.j0 k (a0.extract ((ji4) : Int).toNat a0.size)) else (none)) else (none)) = some r := by first | (rw [hji4] at H; exact H) | (simp only [hji4] at H ⊢; exact H)
      have hji4w : (IntKind.i64.wrap ((a0.size : Int) - 7)) = ji4 := (i64_w _).trans hji4
      by_cases c5 : 0 ≤ (ji4)
      · rw [if_pos c5] at H
        have c5b0 := eq_true c5
        have c5b1 : decide (0 ≤ (ji4)) = true := decide_eq_true c5
        clear c5
        by_cases c6 : (ji4) ≤ (a0.size : Int)
        · rw [if_pos c6] at H
          have c6b0 := eq_true c6
          have c6b1 : decide ((ji4) ≤ (a0.size : Int)) = true := decide_eq_true c6
          clear c6
          have H' := Aside0.mk H
          clear H
          go_wp2
          go_meet
          case rel => exact ⟨_, (a0.extract ((ji4) : Int).toNat a0.size), (by first | rfl | (simp; done) | (simp only [← hji4] <;> (first | rfl | simp)) | (simp [*]; done)), H', ⟨by first | omega | exact Nat.le_refl _⟩, by repeat (first | exact Drawn0.refl _ | apply Drawn0.step)⟩
        · rw [if_neg c6] at H
          exact absurd H (by simp)
      · rw [if_neg c5] at H
        exact absurd H (by simp)
    · rw [if_neg c3] at H
      have c3b0 : decide (7 < (a0.size : Int)) = false := decide_eq_false c3
      have c3b1 : decide (7 < a0.size) = false := decide_eq_false (by omega)
      clear c3
      (first | rw [c3b0] | (simp only [i64_w, i32_w]; rw [c3b0]) | skip)
      have H' := Aside0.mk H
      clear H
      go_wp2
      go_meet
      case rel => exact ⟨_, (a0), (by first | rfl | (simp; done) | (simp [*]; done)), H', ⟨by first | omega | exact Nat.le_refl _⟩, by repeat (first | exact Drawn0.refl _ | apply Drawn0.step)⟩
  case rest =>
    clear HC2
    try clear c2
    try clear p2
    try clear c3
    try clear c3b0
    try clear c3b1
    try clear c5
    try clear c5b0
    try clear c5b1
    try clear c6
    try clear c6b0
    try clear c6b1
    try clear p6
    obtain ⟨kq, x0_1, rfl, HA, HJ1, ⟨mc1, rfl⟩⟩ := hcut
    cases kq with
    | zero => exact absurd HA.out (by simp [rampartref01_Num.j0])
    | succ kj1 =>
      have H := HA.out
      clear HA
      simp only [rampartref01_Num.j0] at H
      have H' := Aside0.mk H
      clear H
      go_wp2
      go_loopg [3, 4] kj1 (fun kq v3 v4 w' => ∃ (x3_2 : Int) (x4_2 : Int), v3 = .int .i64 x3_2 ∧ v4 = .int .i64 x4_2 ∧ Aside0 (rampartref01_Num.l0 kq x0_1 x3_2 x4_2 = some r) ∧ Aside0 (kq ≤ kj1) ∧ Drawn0 w w')
      case atStart => exact ⟨(0), (0), (by first | rfl | (simp; done) | (simp [*]; done)), (by first | rfl | (simp; done) | (simp [*]; done)), H', ⟨Nat.le_refl _⟩, by repeat (first | exact Drawn0.refl _ | apply Drawn0.step)⟩
      case round =>
        clear H'
        try clear c1
        try clear c2
        try clear p2
        try clear c3
        try clear c3b0
        try clear c3b1
        try clear c5
        try clear c5b0
        try clear c5b1
        try clear c6
        try clear c6b0
        try clear c6b1
        try clear p6
        try clear p2
        try clear p6
        obtain ⟨x3_2, x4_2, rfl, rfl, HA, HK2, ⟨m2, rfl⟩⟩ := hrel
        cases gk with
        | zero => exact absurd HA.out (by simp [rampartref01_Num.l0])
        | succ k2 =>
          have H := HA.out
          clear HA
          simp only [rampartref01_Num.l0] at H
          by_cases c7 : x4_2 < (x0_1.size : Int)
          · rw [if_pos c7] at H
            have c7b0 : decide (x4_2 < (x0_1.size : Int)) = true := decide_eq_true c7
            clear c7
            by_cases c8 : 0 ≤ x4_2
            · rw [if_pos c8] at H
              have c8b0 : decide (0 ≤ x4_2) = true := decide_eq_true c8
              clear c8
              have H' := Aside0.mk H
              clear H
              have p9 : 0 ≤ (x4_2 : Int) := of_decide_eq_true (by first | (with_reducible assumption) | assumption)
              have q9 : x4_2 < (x0_1.size : Int) := of_decide_eq_true (by first | (with_reducible assumption) | assumption)
              have hx9 := bt_at x0_1 x4_2
              replace p9 := eq_true p9
              replace q9 := eq_true q9
              go_wp2
              go_roundg k2
              case measure => have := HJ1.out; have := HK2.out; omega
              case rel => exact ⟨(Go.bits .or .i64 (wrap64 (x3_2 * 256)) (wrap64 (bt x0_1 x4_2))), (wrap64 (x4_2 + 1)), (by first | rfl | (simp; done) | (simp [*]; done)), (by first | rfl | (simp; done) | (simp [*]; done)), H', ⟨by have := HJ1.out; have := HK2.out; omega⟩, by repeat (first | exact Drawn0.refl _ | apply Drawn0.step)⟩
            · rw [if_neg c8] at H
              exact absurd H (by simp)
          · rw [if_neg c7] at H
            have c7b0 : decide (x4_2 < (x0_1.size : Int)) = false := decide_eq_false c7
            clear c7
            obtain rfl := Option.some.inj H
            go_wp2
            go_ret
            exact ⟨by first | rfl | (simp; done) | (simp [*]; done), by repeat (first | exact Drawn0.refl _ | apply Drawn0.step)⟩

/-! ### rampartlaw01_SumAll: function 10 -/
mutual
def rampartlaw01_SumAll.l0 : Nat → List ByteArray → Int → Int → Int → ByteArray → Int → Option (Bool)
  | 0, _, _, _, _, _, _ => none
  | k + 1, x0, x1, x2, x3, x9, x10 => if x10 < (x0.length : Int) then (rampartlaw01_SumAll.j1 k x0 x1 x2 x3 x9 x10 (decide (x10 < 10))) else (rampartlaw01_SumAll.j1 k x0 x1 x2 x3 x9 x10 false)
def rampartlaw01_SumAll.j1 : Nat → List ByteArray → Int → Int → Int → ByteArray → Int → Bool → Option (Bool)
  | 0, _, _, _, _, _, _, _ => none
  | k + 1, x0, x1, x2, x3, x9, x10, x18 => if x18 = true then (if 0 ≤ x10 then (if x10 < (x0.length : Int) then (if ((rdOf ByteArray.empty x0 x10).size : Int) > 500 then ((rampartlaw01_awake.f k).bind fun t121 => (some t121)) else (if x9.size + (rdOf ByteArray.empty x0 x10).size ≤ 9223372036854775807 then (rampartlaw01_SumAll.l0 k x0 x1 x2 x3 (x9 ++ (rdOf ByteArray.empty x0 x10)) (wrap64 (x10 + 1))) else (none))) else (none)) else (none)) else (if (x0.length : Int) > 10 then ((rampartlaw01_awake.f k).bind fun t123 => (some t123)) else ((sum_Of.f k x0).bind fun t124 => ((rampartref01_Of.f k x9).bind fun t125 => (if t124 = t125 then ((sum_Add.f k x1 x2).bind fun t126 => ((rampartref01_Add.f k x1 x2).bind fun t127 => (if t126 = t127 then ((sum_Big.f k x1 x3).bind fun t128 => ((rampartref01_Big.f k x1 x3).bind fun t129 => (if t128.toList = t129.toList then ((sum_Num.f x9).bind fun t130 => ((rampartref01_Num.f k x9).bind fun t131 => (if t130 = t131 then ((rampartlaw01_awake.f k).bind fun t132 => (some t132)) else (some false)))) else (some false)))) else (some false)))) else (some false)))))
end
def rampartlaw01_SumAll.f (k : Nat) (l0 : List ByteArray) (a1 : Int) (a2 : Int) (a3 : Int) : Option (Bool) := rampartlaw01_SumAll.l0 k l0 a1 a2 a3 (⟨#[]⟩ : ByteArray) 0
theorem rampartlaw01_SumAll.mono_l : ∀ k, (∀ y0 y1 y2 y3 y4 y5, LeO (rampartlaw01_SumAll.l0 k y0 y1 y2 y3 y4 y5) (rampartlaw01_SumAll.l0 (k + 1) y0 y1 y2 y3 y4 y5)) ∧ (∀ y0 y1 y2 y3 y4 y5 y6, LeO (rampartlaw01_SumAll.j1 k y0 y1 y2 y3 y4 y5 y6) (rampartlaw01_SumAll.j1 (k + 1) y0 y1 y2 y3 y4 y5 y6))
  | 0 => ⟨fun _ _ _ _ _ _ r h => by simp [rampartlaw01_SumAll.l0] at h, fun _ _ _ _ _ _ _ r h => by simp [rampartlaw01_SumAll.j1] at h⟩
  | k + 1 => by
    obtain ⟨ih0, ih1⟩ := rampartlaw01_SumAll.mono_l k
    refine ⟨?_, ?_⟩
    · intro y0 y1 y2 y3 y4 y5
      unfold rampartlaw01_SumAll.l0
      repeat' first
      | (with_reducible exact ih0 _ _ _ _ _ _)
      | (with_reducible exact ih1 _ _ _ _ _ _ _)
      | (with_reducible exact rampartlaw01_awake.mono _)
      | (with_reducible exact rampartref01_Add.mono _ _ _)
      | (with_reducible exact rampartref01_Big.mono _ _ _)
      | (with_reducible exact rampartref01_Num.mono _ _)
      | (with_reducible exact rampartref01_Of.mono _ _)
      | (with_reducible exact sum_Add.mono _ _ _)
      | (with_reducible exact sum_Big.mono _ _ _)
      | (with_reducible exact sum_Of.mono _ _)
      | (with_reducible exact LeO.refl _)
      | (with_reducible exact LeO.none _)
      | (with_reducible refine LeO.ite ?_ ?_)
      | (with_reducible refine LeO.bind ?_ (fun _ => ?_))
      | exact ih0 _ _ _ _ _ _
      | exact ih1 _ _ _ _ _ _ _
      | exact rampartlaw01_awake.mono _
      | exact rampartref01_Add.mono _ _ _
      | exact rampartref01_Big.mono _ _ _
      | exact rampartref01_Num.mono _ _
      | exact rampartref01_Of.mono _ _
      | exact sum_Add.mono _ _ _
      | exact sum_Big.mono _ _ _
      | exact sum_Of.mono _ _
      | exact LeO.none _
      | refine LeO.ite ?_ ?_
      | refine LeO.bind ?_ (fun _ => ?_)
    · intro y0 y1 y2 y3 y4 y5 y6
      unfold rampartlaw01_SumAll.j1
      repeat' first
      | (with_reducible exact ih0 _ _ _ _ _ _)
      | (with_reducible exact ih1 _ _ _ _ _ _ _)
      | (with_reducible exact rampartlaw01_awake.mono _)
      | (with_reducible exact rampartref01_Add.mono _ _ _)
      | (with_reducible exact rampartref01_Big.mono _ _ _)
      | (with_reducible exact rampartref01_Num.mono _ _)
      | (with_reducible exact rampartref01_Of.mono _ _)
      | (with_reducible exact sum_Add.mono _ _ _)
      | (with_reducible exact sum_Big.mono _ _ _)
      | (with_reducible exact sum_Of.mono _ _)
      | (with_reducible exact LeO.refl _)
      | (with_reducible exact LeO.none _)
      | (with_reducible refine LeO.ite ?_ ?_)
      | (with_reducible refine LeO.bind ?_ (fun _ => ?_))
      | exact ih0 _ _ _ _ _ _
      | exact ih1 _ _ _ _ _ _ _
      | exact rampartlaw01_awake.mono _
      | exact rampartref01_Add.mono _ _ _
      | exact rampartref01_Big.mono _ _ _
      | exact rampartref01_Num.mono _ _
      | exact rampartref01_Of.mono _ _
      | exact sum_Add.mono _ _ _
      | exact sum_Big.mono _ _ _
      | exact sum_Of.mono _ _
      | exact LeO.none _
      | refine LeO.ite ?_ ?_
      | refine LeO.bind ?_ (fun _ => ?_)
theorem rampartlaw01_SumAll.mono : ∀ a0 a1 a2 a3 k, LeO (rampartlaw01_SumAll.f k a0 a1 a2 a3) (rampartlaw01_SumAll.f (k + 1) a0 a1 a2 a3) := by
  intro a0 a1 a2 a3 k
  obtain ⟨ih0, ih1⟩ := rampartlaw01_SumAll.mono_l k
  unfold rampartlaw01_SumAll.f
  repeat' first
      | (with_reducible exact ih0 _ _ _ _ _ _)
      | (with_reducible exact ih1 _ _ _ _ _ _ _)
      | (with_reducible exact rampartlaw01_awake.mono _)
      | (with_reducible exact rampartref01_Add.mono _ _ _)
      | (with_reducible exact rampartref01_Big.mono _ _ _)
      | (with_reducible exact rampartref01_Num.mono _ _)
      | (with_reducible exact rampartref01_Of.mono _ _)
      | (with_reducible exact sum_Add.mono _ _ _)
      | (with_reducible exact sum_Big.mono _ _ _)
      | (with_reducible exact sum_Of.mono _ _)
      | (with_reducible exact LeO.refl _)
      | (with_reducible exact LeO.none _)
      | (with_reducible refine LeO.ite ?_ ?_)
      | (with_reducible refine LeO.bind ?_ (fun _ => ?_))
      | exact ih0 _ _ _ _ _ _
      | exact ih1 _ _ _ _ _ _ _
      | exact rampartlaw01_awake.mono _
      | exact rampartref01_Add.mono _ _ _
      | exact rampartref01_Big.mono _ _ _
      | exact rampartref01_Num.mono _ _
      | exact rampartref01_Of.mono _ _
      | exact sum_Add.mono _ _ _
      | exact sum_Big.mono _ _ _
      | exact sum_Of.mono _ _
      | exact LeO.none _
      | refine LeO.ite ?_ ?_
      | refine LeO.bind ?_ (fun _ => ?_)
set_option maxHeartbeats 8000000 in
set_option maxRecDepth 100000 in
theorem rampartlaw01_SumAll.calls (k : Nat) (A0 : Option Addr) (c0 : Nat) (l0 : List ByteArray) (a1 : Int) (a2 : Int) (a3 : Int) (r : Bool) (w : World) (hr0 : Kd.C Kd.string w A0 l0.length l0) (hc0 : l0.length ≤ c0) (h : rampartlaw01_SumAll.f k l0 a1 a2 a3 = some r) (HR0 : r = true) :
    Calls Try.prog 10 #[.slice A0 l0.length c0, .int .i64 a1, .int .i64 a2, .int .i64 a3] w fun e w' => e = .returned (.bool r) ∧ Below w.heap.size w w' := by
  have HR := Aside0.mk HR0
  clear HR0
  have HR0 := Aside0.mk hr0
  have HC0 := Aside0.mk hc0
  clear hr0 hc0
  have HB := Aside0.mk (Below.refl w.heap.size w)
  have H : (rampartlaw01_SumAll.l0 k l0 a1 a2 a3 (⟨#[]⟩ : ByteArray) 0) = some r := h
  clear h
  have H' := Aside0.mk H
  clear H
  go_enter Try.func10, Try.ntmps10
  go_wp2
  go_loopg [9, 10] k (fun kq v9 v10 w' => ∃ (x9_1 : ByteArray) (x10_1 : Int), v9 = .string x9_1 ∧ v10 = .int .i64 x10_1 ∧ Aside0 (rampartlaw01_SumAll.l0 kq l0 a1 a2 a3 x9_1 x10_1 = some r) ∧ Aside0 (kq ≤ k) ∧ Aside0 (Below w.heap.size w w'))
  case atStart => exact ⟨((⟨#[]⟩ : ByteArray)), (0), (by first | rfl | (simp; done) | (simp [*]; done)), (by first | rfl | (simp; done) | (simp [*]; done)), H', ⟨Nat.le_refl _⟩, ⟨by repeat (first | (with_reducible first | exact HB.out | apply below_alloc | apply pw_below_drewN | apply below_drew1) | exact HB.out)⟩⟩
  case round =>
    clear H'
    try clear c1
    try clear p2
    obtain ⟨x9_1, x10_1, rfl, rfl, HA, HK1, HB⟩ := hrel
    cases gk with
    | zero => exact absurd HA.out (by simp [rampartlaw01_SumAll.l0])
    | succ k1 =>
      have H := HA.out
      clear HA
      simp only [rampartlaw01_SumAll.l0] at H
      have HC5 := Aside0.mk H
      clear H
      go_upto_region 3 with (fail)
      go_cut [18] (fun v18 wc => ∃ (kq : Nat) (x18_4 : Bool), v18 = .bool x18_4 ∧ Aside0 (rampartlaw01_SumAll.j1 kq l0 a1 a2 a3 x9_1 x10_1 x18_4 = some r) ∧ Aside0 (kq ≤ k1) ∧ Aside0 (Below w.heap.size w wc))
      case first =>
        have H := HC5.out
        clear HC5
        by_cases c6 : x10_1 < (l0.length : Int)
        · rw [if_pos c6] at H
          have c6b0 : decide (x10_1 < (l0.length : Int)) = true := decide_eq_true c6
          clear c6
          (first | rw [c6b0] | (simp only [i64_w, i32_w]; rw [c6b0]) | skip)
          have H' := Aside0.mk H
          clear H
          go_wp2
          go_meet
          case rel => exact ⟨_, (decide (x10_1 < 10)), (by first | rfl | (simp; done) | (simp [*]; done)), H', ⟨by have := HK1.out; first | omega | exact Nat.le_refl _⟩, ⟨by repeat (first | (with_reducible first | exact HB.out | apply below_alloc | apply pw_below_drewN | apply below_drew1) | exact HB.out)⟩⟩
        · rw [if_neg c6] at H
          have c6b0 : decide (x10_1 < (l0.length : Int)) = false := decide_eq_false c6
          clear c6
          (first | rw [c6b0] | (simp only [i64_w, i32_w]; rw [c6b0]) | skip)
          have H' := Aside0.mk H
          clear H
          go_wp2
          go_meet
          case rel => exact ⟨_, (false), (by first | rfl | (simp; done) | (simp [*]; done)), H', ⟨by have := HK1.out; first | omega | exact Nat.le_refl _⟩, ⟨by repeat (first | (with_reducible first | exact HB.out | apply below_alloc | apply pw_below_drewN | apply below_drew1) | exact HB.out)⟩⟩
      case rest =>
        clear HC5
        try clear c1
        try clear p2
        try clear c6
        try clear c6b0
        try clear p2
        obtain ⟨kq, x18_4, rfl, HA, HJ4, HB⟩ := hcut
        cases kq with
        | zero => exact absurd HA.out (by simp [rampartlaw01_SumAll.j1])
        | succ kj4 =>
          have H := HA.out
          clear HA
          simp only [rampartlaw01_SumAll.j1] at H
          by_cases c7 : x18_4 = true
          · subst c7
            have H1 : (if 0 ≤ x10_1 then (if x10_1 < (l0.length : Int) then (if ((rdOf ByteArray.empty l0 x10_1).size : Int) > 500 then ((rampartlaw01_awake.f kj4).bind fun t121 => (some t121)) else (if x9_1.size + (rdOf ByteArray.empty l0 x10_1).size ≤ 9223372036854775807 then (rampartlaw01_SumAll.l0 kj4 l0 a1 a2 a3 (x9_1 ++ (rdOf ByteArray.empty l0 x10_1)) (wrap64 (x10_1 + 1))) else (none))) else (none)) else (none)) = some r := by rw [if_pos rfl] at H; exact H
            clear H
            have H := H1
            clear H1
            by_cases c8 : 0 ≤ x10_1
            · rw [if_pos c8] at H
              have c8b0 : decide (0 ≤ x10_1) = true := decide_eq_true c8
              clear c8
              by_cases c9 : x10_1 < (l0.length : Int)
              · rw [if_pos c9] at H
                have c9b0 : decide (x10_1 < (l0.length : Int)) = true := decide_eq_true c9
                clear c9
                by_cases c10 : ((rdOf ByteArray.empty l0 x10_1).size : Int) > 500
                · rw [if_pos c10] at H
                  have c10b0 : decide (500 < ((rdOf ByteArray.empty l0 x10_1).size : Int)) = true := decide_eq_true c10
                  have c10b1 : decide (500 < (rdOf ByteArray.empty l0 x10_1).size) = true := decide_eq_true (by omega)
                  clear c10
                  replace H := Option.bind_eq_some_iff.mp H
                  obtain ⟨t121, A110, H⟩ := H
                  replace H : (some t121) = some r := H
                  have A11 := Aside0.mk A110
                  clear A110
                  obtain rfl := Option.some.inj H
                  have p120 : 0 ≤ (x10_1 : Int) := of_decide_eq_true (by first | (with_reducible assumption) | assumption)
                  have q120 : x10_1 < (l0.length : Int) := of_decide_eq_true (by first | (with_reducible assumption) | assumption)
                  obtain ⟨ad120, e120, hx120_0⟩ := Kd.at_string HR0.out x10_1 p120 q120
                  cases e120
                  replace hx120_0 := (HB.out.cell (World.block_lt_of_cell? w _ hx120_0)).trans hx120_0
                  replace p120 := eq_true p120
                  replace q120 := eq_true q120
                  go_wp2_with (first | ((with_reducible refine gate_callee (f := 15) rfl ?_); refine goesL_ (some 27) rfl rfl Try.func15 (by kernel_rfl) rfl #[] rfl (by (try simp only [List.map_toArray, List.map_cons, List.map_nil]); first | done | rfl | (simp only [List.length_drop, List.length_take]; rfl)) ?_; (with_reducible refine (rampartlaw01_awake.calls kj4  t121 _ A11.out).mono ?_); rintro e w12 ⟨rfl, hb⟩; refine ⟨_, rfl, ?_⟩; have n0_ := Aside0.mk (below_step (by repeat (first | (with_reducible first | exact HB.out | apply below_alloc | apply pw_below_drewN | apply below_drew1) | exact HB.out)) hb); clear HB; have HB := n0_; clear n0_; (try clear hb); (try clear hb2); (try clear hk); (try clear hi)))
                  go_ret
                  exact ⟨by first | rfl | (simp [errW_none, errW_some] <;> rfl) | (simp [*, errW_none, errW_some] <;> rfl), by repeat (first | (with_reducible first | exact HB.out | apply below_alloc | apply pw_below_drewN | apply below_drew1) | exact HB.out)⟩
                · rw [if_neg c10] at H
                  have c10b0 : decide (500 < ((rdOf ByteArray.empty l0 x10_1).size : Int)) = false := decide_eq_false c10
                  have c10b1 : decide (500 < (rdOf ByteArray.empty l0 x10_1).size) = false := decide_eq_false (by omega)
                  clear c10
                  by_cases c13 : x9_1.size + (rdOf ByteArray.empty l0 x10_1).size ≤ 9223372036854775807
                  · rw [if_pos c13] at H
                    have c13b0 := eq_true c13
                    have c13b1 : decide (x9_1.size + (rdOf ByteArray.empty l0 x10_1).size ≤ 9223372036854775807) = true := decide_eq_true c13
                    try have c13b2 : (9223372036854775807 < x9_1.size + (rdOf ByteArray.empty l0 x10_1).size) = False := eq_false (Nat.not_lt.2 c13)
                    have H' := Aside0.mk H
                    clear H
                    have p120 : 0 ≤ (x10_1 : Int) := of_decide_eq_true (by first | (with_reducible assumption) | assumption)
                    have q120 : x10_1 < (l0.length : Int) := of_decide_eq_true (by first | (with_reducible assumption) | assumption)
                    obtain ⟨ad120, e120, hx120_0⟩ := Kd.at_string HR0.out x10_1 p120 q120
                    cases e120
                    replace hx120_0 := (HB.out.cell (World.block_lt_of_cell? w _ hx120_0)).trans hx120_0
                    replace p120 := eq_true p120
                    replace q120 := eq_true q120
                    have p122 : 0 ≤ (x10_1 : Int) := of_decide_eq_true (by first | (with_reducible assumption) | assumption)
                    have q122 : x10_1 < (l0.length : Int) := of_decide_eq_true (by first | (with_reducible assumption) | assumption)
                    obtain ⟨ad122, e122, hx122_0⟩ := Kd.at_string HR0.out x10_1 p122 q122
                    obtain rfl : ad120 = ad122 := (by injection e122)
                    replace hx122_0 := (HB.out.cell (World.block_lt_of_cell? w _ hx122_0)).trans hx122_0
                    replace p122 := eq_true p122
                    replace q122 := eq_true q122
                    go_wp2
                    go_roundg kj4
                    case measure => have := HK1.out; have := HJ4.out; omega
                    case rel => exact ⟨(x9_1 ++ (rdOf ByteArray.empty l0 x10_1)), (wrap64 (x10_1 + 1)), (by first | rfl | (simp; done) | (simp [*]; done)), (by first | rfl | (simp; done) | (simp [*]; done)), H', ⟨by have := HK1.out; have := HJ4.out; omega⟩, ⟨by repeat (first | (with_reducible first | exact HB.out | apply below_alloc | apply pw_below_drewN | apply below_drew1) | exact HB.out)⟩⟩
                  · rw [if_neg c13] at H
                    exact absurd H (by simp)
              · rw [if_neg c9] at H
                exact absurd H (by simp)
            · rw [if_neg c8] at H
              exact absurd H (by simp)
          · replace c7 := Bool.eq_false_iff.mpr c7
            subst c7
            have H1 : (if (l0.length : Int) > 10 then ((rampartlaw01_awake.f kj4).bind fun t123 => (some t123)) else ((sum_Of.f kj4 l0).bind fun t124 => ((rampartref01_Of.f kj4 x9_1).bind fun t125 => (if t124 = t125 then ((sum_Add.f kj4 a1 a2).bind fun t126 => ((rampartref01_Add.f kj4 a1 a2).bind fun t127 => (if t126 = t127 then ((sum_Big.f kj4 a1 a3).bind fun t128 => ((rampartref01_Big.f kj4 a1 a3).bind fun t129 => (if t128.toList = t129.toList then ((sum_Num.f x9_1).bind fun t130 => ((rampartref01_Num.f kj4 x9_1).bind fun t131 => (if t130 = t131 then ((rampartlaw01_awake.f kj4).bind fun t132 => (some t132)) else (some false)))) else (some false)))) else (some false)))) else (some false))))) = some r := by rw [if_neg (show ¬ (false = true) by decide)] at H; exact H
            clear H
            have H := H1
            clear H1
            by_cases c14 : (l0.length : Int) > 10
            · rw [if_pos c14] at H
              have c14b0 : decide (10 < (l0.length : Int)) = true := decide_eq_true c14
              have c14b1 : decide (10 < l0.length) = true := decide_eq_true (by omega)
              clear c14
              replace H := Option.bind_eq_some_iff.mp H
              obtain ⟨t123, A150, H⟩ := H
              replace H : (some t123) = some r := H
              have A15 := Aside0.mk A150
              clear A150
              obtain rfl := Option.some.inj H
              go_wp2_with (first | ((with_reducible refine gate_callee (f := 15) rfl ?_); refine goesL_ (some 37) rfl rfl Try.func15 (by kernel_rfl) rfl #[] rfl (by (try simp only [List.map_toArray, List.map_cons, List.map_nil]); first | done | rfl | (simp only [List.length_drop, List.length_take]; rfl)) ?_; (with_reducible refine (rampartlaw01_awake.calls kj4  t123 _ A15.out).mono ?_); rintro e w16 ⟨rfl, hb⟩; refine ⟨_, rfl, ?_⟩; have n0_ := Aside0.mk (below_step (by repeat (first | (with_reducible first | exact HB.out | apply below_alloc | apply pw_below_drewN | apply below_drew1) | exact HB.out)) hb); clear HB; have HB := n0_; clear n0_; (try clear hb); (try clear hb2); (try clear hk); (try clear hi)))
              go_ret
              exact ⟨by first | rfl | (simp [errW_none, errW_some] <;> rfl) | (simp [*, errW_none, errW_some] <;> rfl), by repeat (first | (with_reducible first | exact HB.out | apply below_alloc | apply pw_below_drewN | apply below_drew1) | exact HB.out)⟩
            · rw [if_neg c14] at H
              have c14b0 : decide (10 < (l0.length : Int)) = false := decide_eq_false c14
              have c14b1 : decide (10 < l0.length) = false := decide_eq_false (by omega)
              clear c14
              replace H := Option.bind_eq_some_iff.mp H
              obtain ⟨t124, A170, H⟩ := H
              replace H : ((rampartref01_Of.f kj4 x9_1).bind fun t125 => (if t124 = t125 then ((sum_Add.f kj4 a1 a2).bind fun t126 => ((rampartref01_Add.f kj4 a1 a2).bind fun t127 => (if t126 = t127 then ((sum_Big.f kj4 a1 a3).bind fun t128 => ((rampartref01_Big.f kj4 a1 a3).bind fun t129 => (if t128.toList = t129.toList then ((sum_Num.f x9_1).bind fun t130 => ((rampartref01_Num.f kj4 x9_1).bind fun t131 => (if t130 = t131 then ((rampartlaw01_awake.f kj4).bind fun t132 => (some t132)) else (some false)))) else (some false)))) else (some false)))) else (some false))) = some r := H
              have A17 := Aside0.mk A170
              clear A170
              replace H := Option.bind_eq_some_iff.mp H
              obtain ⟨t125, A180, H⟩ := H
              replace H : (if t124 = t125 then ((sum_Add.f kj4 a1 a2).bind fun t126 => ((rampartref01_Add.f kj4 a1 a2).bind fun t127 => (if t126 = t127 then ((sum_Big.f kj4 a1 a3).bind fun t128 => ((rampartref01_Big.f kj4 a1 a3).bind fun t129 => (if t128.toList = t129.toList then ((sum_Num.f x9_1).bind fun t130 => ((rampartref01_Num.f kj4 x9_1).bind fun t131 => (if t130 = t131 then ((rampartlaw01_awake.f kj4).bind fun t132 => (some t132)) else (some false)))) else (some false)))) else (some false)))) else (some false)) = some r := H
              have A18 := Aside0.mk A180
              clear A180
              by_cases c19 : t124 = t125
              · rw [if_pos c19] at H
                have c19b0 : (t124 == t125) = true := beq_iff_eq.mpr c19
                have c19b1 : (t124 != t125) = false := bne_eq_false_iff_eq.mpr c19
                clear c19
                replace H := Option.bind_eq_some_iff.mp H
                obtain ⟨t126, A200, H⟩ := H
                replace H : ((rampartref01_Add.f kj4 a1 a2).bind fun t127 => (if t126 = t127 then ((sum_Big.f kj4 a1 a3).bind fun t128 => ((rampartref01_Big.f kj4 a1 a3).bind fun t129 => (if t128.toList = t129.toList then ((sum_Num.f x9_1).bind fun t130 => ((rampartref01_Num.f kj4 x9_1).bind fun t131 => (if t130 = t131 then ((rampartlaw01_awake.f kj4).bind fun t132 => (some t132)) else (some false)))) else (some false)))) else (some false))) = some r := H
                have A20 := Aside0.mk A200
                clear A200
                replace H := Option.bind_eq_some_iff.mp H
                obtain ⟨t127, A210, H⟩ := H
                replace H : (if t126 = t127 then ((sum_Big.f kj4 a1 a3).bind fun t128 => ((rampartref01_Big.f kj4 a1 a3).bind fun t129 => (if t128.toList = t129.toList then ((sum_Num.f x9_1).bind fun t130 => ((rampartref01_Num.f kj4 x9_1).bind fun t131 => (if t130 = t131 then ((rampartlaw01_awake.f kj4).bind fun t132 => (some t132)) else (some false)))) else (some false)))) else (some false)) = some r := H
                have A21 := Aside0.mk A210
                clear A210
                by_cases c22 : t126 = t127
                · rw [if_pos c22] at H
                  have c22b0 : (t126 == t127) = true := beq_iff_eq.mpr c22
                  have c22b1 : (t126 != t127) = false := bne_eq_false_iff_eq.mpr c22
                  clear c22
                  replace H := Option.bind_eq_some_iff.mp H
                  obtain ⟨t128, A230, H⟩ := H
                  replace H : ((rampartref01_Big.f kj4 a1 a3).bind fun t129 => (if t128.toList = t129.toList then ((sum_Num.f x9_1).bind fun t130 => ((rampartref01_Num.f kj4 x9_1).bind fun t131 => (if t130 = t131 then ((rampartlaw01_awake.f kj4).bind fun t132 => (some t132)) else (some false)))) else (some false))) = some r := H
                  have A23 := Aside0.mk A230
                  clear A230
                  replace H := Option.bind_eq_some_iff.mp H
                  obtain ⟨t129, A240, H⟩ := H
                  replace H : (if t128.toList = t129.toList then ((sum_Num.f x9_1).bind fun t130 => ((rampartref01_Num.f kj4 x9_1).bind fun t131 => (if t130 = t131 then ((rampartlaw01_awake.f kj4).bind fun t132 => (some t132)) else (some false)))) else (some false)) = some r := H
                  have A24 := Aside0.mk A240
                  clear A240
                  by_cases c25 : t128.toList = t129.toList
                  · rw [if_pos c25] at H
                    have c25b0 : (t128.toList == t129.toList) = true := beq_iff_eq.mpr c25
                    have c25b1 : (t128.toList != t129.toList) = false := bne_eq_false_iff_eq.mpr c25
                    clear c25
                    replace H := Option.bind_eq_some_iff.mp H
                    obtain ⟨t130, A260, H⟩ := H
                    replace H : ((rampartref01_Num.f kj4 x9_1).bind fun t131 => (if t130 = t131 then ((rampartlaw01_awake.f kj4).bind fun t132 => (some t132)) else (some false))) = some r := H
                    have A26 := Aside0.mk A260
                    clear A260
                    replace H := Option.bind_eq_some_iff.mp H
                    obtain ⟨t131, A270, H⟩ := H
                    replace H : (if t130 = t131 then ((rampartlaw01_awake.f kj4).bind fun t132 => (some t132)) else (some false)) = some r := H
                    have A27 := Aside0.mk A270
                    clear A270
                    by_cases c28 : t130 = t131
                    · rw [if_pos c28] at H
                      have c28b0 : (t130 == t131) = true := beq_iff_eq.mpr c28
                      have c28b1 : (t130 != t131) = false := bne_eq_false_iff_eq.mpr c28
                      clear c28
                      replace H := Option.bind_eq_some_iff.mp H
                      obtain ⟨t132, A290, H⟩ := H
                      replace H : (some t132) = some r := H
                      have A29 := Aside0.mk A290
                      clear A290
                      obtain rfl := Option.some.inj H
                      go_wp2_with (first | ((with_reducible refine gate_callee (f := 16) rfl ?_); refine goesL_ (some 39) rfl rfl Try.func16 (by kernel_rfl) rfl #[.slice A0 l0.length c0] rfl (by (try simp only [List.map_toArray, List.map_cons, List.map_nil]); first | done | rfl | (simp only [List.length_drop, List.length_take]; rfl)) ?_; (with_reducible refine (sum_Of.calls kj4 _ _ l0 t124 _ ?side1 ?side2 A17.out).mono ?_); (case side1 => repeat (first | exact (Kd.C_below HR0.out HB.out) | (with_reducible refine Kd.C_alloc ?_ _) | (with_reducible refine Kd.C_drewN ?_ _) | (with_reducible refine Kd.C_drew ?_))); (case side2 => exact HC0.out); rintro e w' ⟨rfl, ⟨nd, rfl⟩⟩; refine ⟨_, rfl, ?_⟩) | ((with_reducible refine gate_callee (f := 23) rfl ?_); refine goesL_ (some 41) rfl rfl Try.func23 (by kernel_rfl) rfl #[.string x9_1] rfl (by (try simp only [List.map_toArray, List.map_cons, List.map_nil]); first | done | rfl | (simp only [List.length_drop, List.length_take]; rfl)) ?_; (with_reducible refine (rampartref01_Of.calls kj4 x9_1 t125 _ A18.out).mono ?_); rintro e w' ⟨rfl, ⟨nd, rfl⟩⟩; refine ⟨_, rfl, ?_⟩) | (go_at_call 24; (with_reducible refine (sum_Add.calls kj4 a1 a2 t126 _ A20.out).mono ?_); rintro e w' ⟨rfl, ⟨nd, rfl⟩⟩) | (go_at_call 25; (with_reducible refine (rampartref01_Add.calls kj4 a1 a2 t127 _ A21.out).mono ?_); rintro e w' ⟨rfl, ⟨nd, rfl⟩⟩) | (go_at_call 17; (with_reducible refine (sum_Big.calls kj4 a1 a3 t128 _ A23.out).mono ?_); rintro e w30 ⟨rfl, hb⟩; have n0_ := Aside0.mk (below_step (by repeat (first | (with_reducible first | exact HB.out | apply below_alloc | apply pw_below_drewN | apply below_drew1) | exact HB.out)) hb); clear HB; have HB := n0_; clear n0_; (try clear hb); (try clear hb2); (try clear hk); (try clear hi)) | (go_at_call 26; (with_reducible refine (rampartref01_Big.calls kj4 a1 a3 t129 _ A24.out).mono ?_); rintro e w31 ⟨rfl, hb⟩; have n0_ := Aside0.mk (below_step (by repeat (first | (with_reducible first | exact HB.out | apply below_alloc | apply pw_below_drewN | apply below_drew1) | exact HB.out)) hb); clear HB; have HB := n0_; clear n0_; (try clear hb); (try clear hb2); (try clear hk); (try clear hi)) | (go_at_call 18; (with_reducible refine (sum_Num.calls x9_1 t130 _ A26.out).mono ?_); rintro e w32 ⟨rfl, hb⟩; have n0_ := Aside0.mk (below_step (by repeat (first | (with_reducible first | exact HB.out | apply below_alloc | apply pw_below_drewN | apply below_drew1) | exact HB.out)) hb); clear HB; have HB := n0_; clear n0_; (try clear hb); (try clear hb2); (try clear hk); (try clear hi)) | (go_at_call 27; (with_reducible refine (rampartref01_Num.calls kj4 x9_1 t131 _ A27.out).mono ?_); rintro e w' ⟨rfl, ⟨nd, rfl⟩⟩) | (go_at_call 15; (with_reducible refine (rampartlaw01_awake.calls kj4  t132 _ A29.out).mono ?_); rintro e w33 ⟨rfl, hb⟩; have n0_ := Aside0.mk (below_step (by repeat (first | (with_reducible first | exact HB.out | apply below_alloc | apply pw_below_drewN | apply below_drew1) | exact HB.out)) hb); clear HB; have HB := n0_; clear n0_; (try clear hb); (try clear hb2); (try clear hk); (try clear hi)))
                      go_ret
                      exact ⟨by first | rfl | (simp [errW_none, errW_some] <;> rfl) | (simp [*, errW_none, errW_some] <;> rfl), by repeat (first | (with_reducible first | exact HB.out | apply below_alloc | apply pw_below_drewN | apply below_drew1) | exact HB.out)⟩
                    · rw [if_neg c28] at H
                      have c28b0 : (t130 == t131) = false := beq_eq_false_iff_ne.mpr c28
                      have c28b1 : (t130 != t131) = true := bne_iff_ne.mpr c28
                      exact absurd ((Option.some.inj H).trans HR.out) (by decide)
                  · rw [if_neg c25] at H
                    have c25b0 : (t128.toList == t129.toList) = false := beq_eq_false_iff_ne.mpr c25
                    have c25b1 : (t128.toList != t129.toList) = true := bne_iff_ne.mpr c25
                    exact absurd ((Option.some.inj H).trans HR.out) (by decide)
                · rw [if_neg c22] at H
                  have c22b0 : (t126 == t127) = false := beq_eq_false_iff_ne.mpr c22
                  have c22b1 : (t126 != t127) = true := bne_iff_ne.mpr c22
                  exact absurd ((Option.some.inj H).trans HR.out) (by decide)
              · rw [if_neg c19] at H
                have c19b0 : (t124 == t125) = false := beq_eq_false_iff_ne.mpr c19
                have c19b1 : (t124 != t125) = true := bne_iff_ne.mpr c19
                exact absurd ((Option.some.inj H).trans HR.out) (by decide)

/-! ### rampartlaw00_Place: function 12 -/
def rampartlaw00_Place.f (a0 : Int) (a1 : Int) : Option (Int) := if a1 = 0 then (none) else (if (Int.tmod a0 a1) < 0 then (some (wrap64 ((Int.tmod a0 a1) + a1))) else (some (Int.tmod a0 a1)))
set_option maxHeartbeats 8000000 in
set_option maxRecDepth 100000 in
theorem rampartlaw00_Place.calls (a0 : Int) (a1 : Int) (r : Int) (w : World) (h : rampartlaw00_Place.f a0 a1 = some r) :
    Calls Try.prog 12 #[.int .i64 a0, .int .i64 a1] w fun e w' => e = .returned (.int .i64 r) ∧ Drawn0 w w' := by
  have H : (if a1 = 0 then (none) else (if (Int.tmod a0 a1) < 0 then (some (wrap64 ((Int.tmod a0 a1) + a1))) else (some (Int.tmod a0 a1)))) = some r := h
  clear h
  by_cases c3 : a1 = 0
  · rw [if_pos c3] at H
    exact absurd H (by simp)
  · rw [if_neg c3] at H
    have c3b0 : (a1 == 0) = false := beq_eq_false_iff_ne.mpr c3
    have c3b1 : (a1 != 0) = true := bne_iff_ne.mpr c3
    by_cases c4 : (Int.tmod a0 a1) < 0
    · rw [if_pos c4] at H
      have c4b0 : decide ((Int.tmod a0 a1) < 0) = true := decide_eq_true c4
      clear c4
      obtain rfl := Option.some.inj H
      go_enter Try.func12, Try.ntmps12
      go_wp2
      go_ret
      exact ⟨by first | rfl | (simp; done) | (simp [*]; done), by repeat (first | exact Drawn0.refl _ | apply Drawn0.step)⟩
    · rw [if_neg c4] at H
      have c4b0 : decide ((Int.tmod a0 a1) < 0) = false := decide_eq_false c4
      clear c4
      obtain rfl := Option.some.inj H
      go_enter Try.func12, Try.ntmps12
      go_wp2
      go_ret
      exact ⟨by first | rfl | (simp; done) | (simp [*]; done), by repeat (first | exact Drawn0.refl _ | apply Drawn0.step)⟩

/-! ### rampartlaw01_SumZero: function 4 -/
def rampartlaw01_SumZero.f (k : Nat) (a0 : ByteArray) (a1 : Int) : Option (Bool) := if (a0.size : Int) > 1000 then ((rampartlaw01_awake.f k).bind fun t133 => (some t133)) else ((rampartlaw00_Place.f a1 (wrap64 ((wrap64 ((a0.size : Int) / 2)) + 1))).bind fun t134 => (if 0 ≤ (wrap64 (2 * t134)) then (if (wrap64 (2 * t134)) ≤ (a0.size : Int) then ((sum_Of.f k (([a0.extract 0 ((wrap64 (2 * t134)) : Int).toNat, (⟨#[0, 0]⟩ : ByteArray), a0.extract ((wrap64 (2 * t134)) : Int).toNat a0.size] : List ByteArray))).bind fun t138 => ((sum_Big.f k t138 2).bind fun t139 => ((sum_Of.f k (([a0.extract 0 ((wrap64 (2 * t134)) : Int).toNat, t139, a0.extract ((wrap64 (2 * t134)) : Int).toNat a0.size] : List ByteArray))).bind fun t143 => (if t143 = 0 then (if (a0.extract 0 ((wrap64 (2 * t134)) : Int).toNat).size + 2 ≤ 9223372036854775807 then (if ((a0.extract 0 ((wrap64 (2 * t134)) : Int).toNat) ++ (⟨#[0, 0]⟩ : ByteArray)).size + (a0.extract ((wrap64 (2 * t134)) : Int).toNat a0.size).size ≤ 9223372036854775807 then ((sum_Of.f k (([((a0.extract 0 ((wrap64 (2 * t134)) : Int).toNat) ++ (⟨#[0, 0]⟩ : ByteArray)) ++ (a0.extract ((wrap64 (2 * t134)) : Int).toNat a0.size)] : List ByteArray))).bind fun t147 => (if t147 = t138 then (if t138 ≥ 0 then (if t138 ≤ 65535 then ((rampartlaw01_awake.f k).bind fun t148 => (some t148)) else (some false)) else (some false)) else (some false))) else (none)) else (none)) else (some false))))) else (none)) else (none)))
theorem rampartlaw01_SumZero.mono : ∀ a0 a1 k, LeO (rampartlaw01_SumZero.f k a0 a1) (rampartlaw01_SumZero.f (k + 1) a0 a1) := by
  intro a0 a1 k
  unfold rampartlaw01_SumZero.f
  repeat' first
      | (with_reducible exact rampartlaw01_awake.mono _)
      | (with_reducible exact sum_Big.mono _ _ _)
      | (with_reducible exact sum_Of.mono _ _)
      | (with_reducible exact LeO.refl _)
      | (with_reducible exact LeO.none _)
      | (with_reducible refine LeO.ite ?_ ?_)
      | (with_reducible refine LeO.bind ?_ (fun _ => ?_))
      | exact rampartlaw01_awake.mono _
      | exact sum_Big.mono _ _ _
      | exact sum_Of.mono _ _
      | exact LeO.none _
      | refine LeO.ite ?_ ?_
      | refine LeO.bind ?_ (fun _ => ?_)
set_option maxHeartbeats 8000000 in
set_option maxRecDepth 100000 in
theorem rampartlaw01_SumZero.calls (k : Nat) (a0 : ByteArray) (a1 : Int) (r : Bool) (w : World) (h : rampartlaw01_SumZero.f k a0 a1 = some r) (HR0 : r = true) :
    Calls Try.prog 4 #[.string a0, .int .i64 a1] w fun e w' => e = .returned (.bool r) ∧ Below w.heap.size w w' := by
  have HR := Aside0.mk HR0
  clear HR0
  have HB := Aside0.mk (Below.refl w.heap.size w)
  have H : (if (a0.size : Int) > 1000 then ((rampartlaw01_awake.f k).bind fun t133 => (some t133)) else ((rampartlaw00_Place.f a1 (wrap64 ((wrap64 ((a0.size : Int) / 2)) + 1))).bind fun t134 => (if 0 ≤ (wrap64 (2 * t134)) then (if (wrap64 (2 * t134)) ≤ (a0.size : Int) then ((sum_Of.f k (([a0.extract 0 ((wrap64 (2 * t134)) : Int).toNat, (⟨#[0, 0]⟩ : ByteArray), a0.extract ((wrap64 (2 * t134)) : Int).toNat a0.size] : List ByteArray))).bind fun t138 => ((sum_Big.f k t138 2).bind fun t139 => ((sum_Of.f k (([a0.extract 0 ((wrap64 (2 * t134)) : Int).toNat, t139, a0.extract ((wrap64 (2 * t134)) : Int).toNat a0.size] : List ByteArray))).bind fun t143 => (if t143 = 0 then (if (a0.extract 0 ((wrap64 (2 * t134)) : Int).toNat).size + 2 ≤ 9223372036854775807 then (if ((a0.extract 0 ((wrap64 (2 * t134)) : Int).toNat) ++ (⟨#[0, 0]⟩ : ByteArray)).size + (a0.extract ((wrap64 (2 * t134)) : Int).toNat a0.size).size ≤ 9223372036854775807 then ((sum_Of.f k (([((a0.extract 0 ((wrap64 (2 * t134)) : Int).toNat) ++ (⟨#[0, 0]⟩ : ByteArray)) ++ (a0.extract ((wrap64 (2 * t134)) : Int).toNat a0.size)] : List ByteArray))).bind fun t147 => (if t147 = t138 then (if t138 ≥ 0 then (if t138 ≤ 65535 then ((rampartlaw01_awake.f k).bind fun t148 => (some t148)) else (some false)) else (some false)) else (some false))) else (none)) else (none)) else (some false))))) else (none)) else (none)))) = some r := h
  clear h
  by_cases c3 : (a0.size : Int) > 1000
  · rw [if_pos c3] at H
    have c3b0 : decide (1000 < (a0.size : Int)) = true := decide_eq_true c3
    have c3b1 : decide (1000 < a0.size) = true := decide_eq_true (by omega)
    clear c3
    replace H := Option.bind_eq_some_iff.mp H
    obtain ⟨t133, A40, H⟩ := H
    replace H : (some t133) = some r := H
    have A4 := Aside0.mk A40
    clear A40
    obtain rfl := Option.some.inj H
    go_enter Try.func4, Try.ntmps4
    go_wp2_with (first | (go_at_call 15; (with_reducible refine (rampartlaw01_awake.calls k  t133 _ A4.out).mono ?_); rintro e w5 ⟨rfl, hb⟩; have n0_ := Aside0.mk (below_step (by repeat (first | (with_reducible first | exact HB.out | apply below_alloc | apply pw_below_drewN | apply below_drew1) | exact HB.out)) hb); clear HB; have HB := n0_; clear n0_; (try clear hb); (try clear hb2); (try clear hk); (try clear hi)))
    repeat (go_quiet (first | (go_at_call 15; (with_reducible refine (rampartlaw01_awake.calls k  t133 _ A4.out).mono ?_); rintro e w5 ⟨rfl, hb⟩; have n0_ := Aside0.mk (below_step (by repeat (first | (with_reducible first | exact HB.out | apply below_alloc | apply pw_below_drewN | apply below_drew1) | exact HB.out)) hb); clear HB; have HB := n0_; clear n0_; (try clear hb); (try clear hb2); (try clear hk); (try clear hi))); try go_wp2_with (first | (go_at_call 15; (with_reducible refine (rampartlaw01_awake.calls k  t133 _ A4.out).mono ?_); rintro e w5 ⟨rfl, hb⟩; have n0_ := Aside0.mk (below_step (by repeat (first | (with_reducible first | exact HB.out | apply below_alloc | apply pw_below_drewN | apply below_drew1) | exact HB.out)) hb); clear HB; have HB := n0_; clear n0_; (try clear hb); (try clear hb2); (try clear hk); (try clear hi))))
    go_ret
    exact ⟨by first | rfl | (simp [errW_none, errW_some] <;> rfl) | (simp [*, errW_none, errW_some] <;> rfl), by repeat (first | (with_reducible first | exact HB.out | apply below_alloc | apply pw_below_drewN | apply below_drew1) | exact HB.out)⟩
  · rw [if_neg c3] at H
    have c3b0 : decide (1000 < (a0.size : Int)) = false := decide_eq_false c3
    have c3b1 : decide (1000 < a0.size) = false := decide_eq_false (by omega)
    clear c3
    replace H := Option.bind_eq_some_iff.mp H
    obtain ⟨t134, A60, H⟩ := H
    replace H : (if 0 ≤ (wrap64 (2 * t134)) then (if (wrap64 (2 * t134)) ≤ (a0.size : Int) then ((sum_Of.f k (([a0.extract 0 ((wrap64 (2 * t134)) : Int).toNat, (⟨#[0, 0]⟩ : ByteArray), a0.extract ((wrap64 (2 * t134)) : Int).toNat a0.size] : List ByteArray))).bind fun t138 => ((sum_Big.f k t138 2).bind fun t139 => ((sum_Of.f k (([a0.extract 0 ((wrap64 (2 * t134)) : Int).toNat, t139, a0.extract ((wrap64 (2 * t134)) : Int).toNat a0.size] : List ByteArray))).bind fun t143 => (if t143 = 0 then (if (a0.extract 0 ((wrap64 (2 * t134)) : Int).toNat).size + 2 ≤ 9223372036854775807 then (if ((a0.extract 0 ((wrap64 (2 * t134)) : Int).toNat) ++ (⟨#[0, 0]⟩ : ByteArray)).size + (a0.extract ((wrap64 (2 * t134)) : Int).toNat a0.size).size ≤ 9223372036854775807 then ((sum_Of.f k (([((a0.extract 0 ((wrap64 (2 * t134)) : Int).toNat) ++ (⟨#[0, 0]⟩ : ByteArray)) ++ (a0.extract ((wrap64 (2 * t134)) : Int).toNat a0.size)] : List ByteArray))).bind fun t147 => (if t147 = t138 then (if t138 ≥ 0 then (if t138 ≤ 65535 then ((rampartlaw01_awake.f k).bind fun t148 => (some t148)) else (some false)) else (some false)) else (some false))) else (none)) else (none)) else (some false))))) else (none)) else (none)) = some r := H
    have A6 := Aside0.mk A60
    clear A60
    obtain ⟨ji7, hji7⟩ : ∃ j_ : Int, (wrap64 (2 * t134)) = j_ := ⟨_, rfl⟩
    replace H : (if 0 ≤ (ji7) then (if (ji7) ≤ (a0.size : Int) then ((sum_Of.f k (([a0.extract 0 ((ji7) : Int).toNat, (⟨#[0, 0]⟩ : ByteArray), a0.extract ((ji7) : Int).toNat a0.size] : List ByteArray))).bind fun t138 => ((sum_Big.f k t138 2).bind fun t139 => ((sum_Of.f k (([a0.extract 0 ((ji7) : Int).toNat, t139, a0.extract ((ji7) : Int).toNat a0.size] : List ByteArray))).bind fun t143 => (if t143 = 0 then (if (a0.extract 0 ((ji7) : Int).toNat).size + 2 ≤ 9223372036854775807 then (if ((a0.extract 0 ((ji7) : Int).toNat) ++ (⟨#[0, 0]⟩ : ByteArray)).size + (a0.extract ((ji7) : Int).toNat a0.size).size ≤ 9223372036854775807 then ((sum_Of.f k (([((a0.extract 0 ((ji7) : Int).toNat) ++ (⟨#[0, 0]⟩ : ByteArray)) ++ (a0.extract ((ji7) : Int).toNat a0.size)] : List ByteArray))).bind fun t147 => (if t147 = t138 then (if t138 ≥ 0 then (if t138 ≤ 65535 then ((rampartlaw01_awake.f k).bind fun t148 => (some t148)) else (some false)) else (some false)) else (some false))) else (none)) else (none)) else (some false))))) else (none)) else (none)) = some r := by first | (rw [hji7] at H; exact H) | (simp only [hji7] at H ⊢; exact H)
    (try rw [hji7] at A6)
    have hji7w : (IntKind.i64.wrap (2 * t134)) = ji7 := (i64_w _).trans hji7
    by_cases c8 : 0 ≤ (ji7)
    · rw [if_pos c8] at H
      have c8b0 := eq_true c8
      have c8b1 : decide (0 ≤ (ji7)) = true := decide_eq_true c8
      clear c8
      by_cases c9 : (ji7) ≤ (a0.size : Int)
      · rw [if_pos c9] at H
        have c9b0 := eq_true c9
        have c9b1 : decide ((ji7) ≤ (a0.size : Int)) = true := decide_eq_true c9
        clear c9
        have c10b0 := eq_true (of_decide_eq_true (by first | (with_reducible assumption) | assumption) : 0 ≤ (ji7))
        have c11b0 := eq_true (of_decide_eq_true (by first | (with_reducible assumption) | assumption) : (ji7) ≤ (a0.size : Int))
        obtain ⟨y135, hy135⟩ : ∃ y_ : List ByteArray, y_ = (([a0.extract 0 ((ji7) : Int).toNat, (⟨#[0, 0]⟩ : ByteArray), a0.extract ((ji7) : Int).toNat a0.size] : List ByteArray)) := ⟨_, rfl⟩
        replace H : ((sum_Of.f k y135).bind fun t138 => ((sum_Big.f k t138 2).bind fun t139 => ((sum_Of.f k (([a0.extract 0 ((ji7) : Int).toNat, t139, a0.extract ((ji7) : Int).toNat a0.size] : List ByteArray))).bind fun t143 => (if t143 = 0 then (if (a0.extract 0 ((ji7) : Int).toNat).size + 2 ≤ 9223372036854775807 then (if ((a0.extract 0 ((ji7) : Int).toNat) ++ (⟨#[0, 0]⟩ : ByteArray)).size + (a0.extract ((ji7) : Int).toNat a0.size).size ≤ 9223372036854775807 then ((sum_Of.f k (([((a0.extract 0 ((ji7) : Int).toNat) ++ (⟨#[0, 0]⟩ : ByteArray)) ++ (a0.extract ((ji7) : Int).toNat a0.size)] : List ByteArray))).bind fun t147 => (if t147 = t138 then (if t138 ≥ 0 then (if t138 ≤ 65535 then ((rampartlaw01_awake.f k).bind fun t148 => (some t148)) else (some false)) else (some false)) else (some false))) else (none)) else (none)) else (some false))))) = some r := by first | (rw [hy135]; with_reducible exact H) | (have H2_ := (Option.bind_some _ _).symm.trans H; rw [hy135]; with_reducible exact H2_) | (have H2_ := (Option.bind_some _ _).symm.trans H; with_reducible exact H2_) | with_reducible exact H | (rw [hy135]; exact H) | exact H
        have Ny135 := Aside0.mk hy135
        clear hy135
        replace H := Option.bind_eq_some_iff.mp H
        obtain ⟨t138, A120, H⟩ := H
        replace H : ((sum_Big.f k t138 2).bind fun t139 => ((sum_Of.f k (([a0.extract 0 ((ji7) : Int).toNat, t139, a0.extract ((ji7) : Int).toNat a0.size] : List ByteArray))).bind fun t143 => (if t143 = 0 then (if (a0.extract 0 ((ji7) : Int).toNat).size + 2 ≤ 9223372036854775807 then (if ((a0.extract 0 ((ji7) : Int).toNat) ++ (⟨#[0, 0]⟩ : ByteArray)).size + (a0.extract ((ji7) : Int).toNat a0.size).size ≤ 9223372036854775807 then ((sum_Of.f k (([((a0.extract 0 ((ji7) : Int).toNat) ++ (⟨#[0, 0]⟩ : ByteArray)) ++ (a0.extract ((ji7) : Int).toNat a0.size)] : List ByteArray))).bind fun t147 => (if t147 = t138 then (if t138 ≥ 0 then (if t138 ≤ 65535 then ((rampartlaw01_awake.f k).bind fun t148 => (some t148)) else (some false)) else (some false)) else (some false))) else (none)) else (none)) else (some false)))) = some r := H
        have A12 := Aside0.mk A120
        clear A120
        replace H := Option.bind_eq_some_iff.mp H
        obtain ⟨t139, A130, H⟩ := H
        replace H : ((sum_Of.f k (([a0.extract 0 ((ji7) : Int).toNat, t139, a0.extract ((ji7) : Int).toNat a0.size] : List ByteArray))).bind fun t143 => (if t143 = 0 then (if (a0.extract 0 ((ji7) : Int).toNat).size + 2 ≤ 9223372036854775807 then (if ((a0.extract 0 ((ji7) : Int).toNat) ++ (⟨#[0, 0]⟩ : ByteArray)).size + (a0.extract ((ji7) : Int).toNat a0.size).size ≤ 9223372036854775807 then ((sum_Of.f k (([((a0.extract 0 ((ji7) : Int).toNat) ++ (⟨#[0, 0]⟩ : ByteArray)) ++ (a0.extract ((ji7) : Int).toNat a0.size)] : List ByteArray))).bind fun t147 => (if t147 = t138 then (if t138 ≥ 0 then (if t138 ≤ 65535 then ((rampartlaw01_awake.f k).bind fun t148 => (some t148)) else (some false)) else (some false)) else (some false))) else (none)) else (none)) else (some false))) = some r := H
        have A13 := Aside0.mk A130
        clear A130
        obtain ⟨y140, hy140⟩ : ∃ y_ : List ByteArray, y_ = (([a0.extract 0 ((ji7) : Int).toNat, t139, a0.extract ((ji7) : Int).toNat a0.size] : List ByteArray)) := ⟨_, rfl⟩
        replace H : ((sum_Of.f k y140).bind fun t143 => (if t143 = 0 then (if (a0.extract 0 ((ji7) : Int).toNat).size + 2 ≤ 9223372036854775807 then (if ((a0.extract 0 ((ji7) : Int).toNat) ++ (⟨#[0, 0]⟩ : ByteArray)).size + (a0.extract ((ji7) : Int).toNat a0.size).size ≤ 9223372036854775807 then ((sum_Of.f k (([((a0.extract 0 ((ji7) : Int).toNat) ++ (⟨#[0, 0]⟩ : ByteArray)) ++ (a0.extract ((ji7) : Int).toNat a0.size)] : List ByteArray))).bind fun t147 => (if t147 = t138 then (if t138 ≥ 0 then (if t138 ≤ 65535 then ((rampartlaw01_awake.f k).bind fun t148 => (some t148)) else (some false)) else (some false)) else (some false))) else (none)) else (none)) else (some false))) = some r := by first | (rw [hy140]; with_reducible exact H) | (have H2_ := (Option.bind_some _ _).symm.trans H; rw [hy140]; with_reducible exact H2_) | (have H2_ := (Option.bind_some _ _).symm.trans H; with_reducible exact H2_) | with_reducible exact H | (rw [hy140]; exact H) | exact H
        have Ny140 := Aside0.mk hy140
        clear hy140
        replace H := Option.bind_eq_some_iff.mp H
        obtain ⟨t143, A140, H⟩ := H
        replace H : (if t143 = 0 then (if (a0.extract 0 ((ji7) : Int).toNat).size + 2 ≤ 9223372036854775807 then (if ((a0.extract 0 ((ji7) : Int).toNat) ++ (⟨#[0, 0]⟩ : ByteArray)).size + (a0.extract ((ji7) : Int).toNat a0.size).size ≤ 9223372036854775807 then ((sum_Of.f k (([((a0.extract 0 ((ji7) : Int).toNat) ++ (⟨#[0, 0]⟩ : ByteArray)) ++ (a0.extract ((ji7) : Int).toNat a0.size)] : List ByteArray))).bind fun t147 => (if t147 = t138 then (if t138 ≥ 0 then (if t138 ≤ 65535 then ((rampartlaw01_awake.f k).bind fun t148 => (some t148)) else (some false)) else (some false)) else (some false))) else (none)) else (none)) else (some false)) = some r := H
        have A14 := Aside0.mk A140
        clear A140
        by_cases c15 : t143 = 0
        · rw [if_pos c15] at H
          have c15b0 : (t143 == 0) = true := beq_iff_eq.mpr c15
          have c15b1 : (t143 != 0) = false := bne_eq_false_iff_eq.mpr c15
          clear c15
          by_cases c16 : (a0.extract 0 ((ji7) : Int).toNat).size + 2 ≤ 9223372036854775807
          · rw [if_pos c16] at H
            have c16b0 := eq_true c16
            have c16b1 : decide ((a0.extract 0 ((ji7) : Int).toNat).size + 2 ≤ 9223372036854775807) = true := decide_eq_true c16
            try have c16b2 : (9223372036854775807 < (a0.extract 0 ((ji7) : Int).toNat).size + 2) = False := eq_false (Nat.not_lt.2 c16)
            have c16z : (9223372036854775807 < ji7.toNat + 2) = False := eq_false (by have h1 := of_decide_eq_true c9b1; have h2 := of_decide_eq_false c3b0; omega)
            by_cases c17 : ((a0.extract 0 ((ji7) : Int).toNat) ++ (⟨#[0, 0]⟩ : ByteArray)).size + (a0.extract ((ji7) : Int).toNat a0.size).size ≤ 9223372036854775807
            · rw [if_pos c17] at H
              have c17b0 := eq_true c17
              have c17b1 : decide (((a0.extract 0 ((ji7) : Int).toNat) ++ (⟨#[0, 0]⟩ : ByteArray)).size + (a0.extract ((ji7) : Int).toNat a0.size).size ≤ 9223372036854775807) = true := decide_eq_true c17
              try have c17b2 : (9223372036854775807 < ((a0.extract 0 ((ji7) : Int).toNat) ++ (⟨#[0, 0]⟩ : ByteArray)).size + (a0.extract ((ji7) : Int).toNat a0.size).size) = False := eq_false (Nat.not_lt.2 c17)
              obtain ⟨y144, hy144⟩ : ∃ y_ : List ByteArray, y_ = (([((a0.extract 0 ((ji7) : Int).toNat) ++ (⟨#[0, 0]⟩ : ByteArray)) ++ (a0.extract ((ji7) : Int).toNat a0.size)] : List ByteArray)) := ⟨_, rfl⟩
              replace H : ((sum_Of.f k y144).bind fun t147 => (if t147 = t138 then (if t138 ≥ 0 then (if t138 ≤ 65535 then ((rampartlaw01_awake.f k).bind fun t148 => (some t148)) else (some false)) else (some false)) else (some false))) = some r := by first | (rw [hy144]; with_reducible exact H) | (have H2_ := (Option.bind_some _ _).symm.trans H; rw [hy144]; with_reducible exact H2_) | (have H2_ := (Option.bind_some _ _).symm.trans H; with_reducible exact H2_) | with_reducible exact H | (rw [hy144]; exact H) | exact H
              have Ny144 := Aside0.mk hy144
              clear hy144
              replace H := Option.bind_eq_some_iff.mp H
              obtain ⟨t147, A180, H⟩ := H
              replace H : (if t147 = t138 then (if t138 ≥ 0 then (if t138 ≤ 65535 then ((rampartlaw01_awake.f k).bind fun t148 => (some t148)) else (some false)) else (some false)) else (some false)) = some r := H
              have A18 := Aside0.mk A180
              clear A180
              by_cases c19 : t147 = t138
              · rw [if_pos c19] at H
                have c19b0 : (t147 == t138) = true := beq_iff_eq.mpr c19
                have c19b1 : (t147 != t138) = false := bne_eq_false_iff_eq.mpr c19
                clear c19
                by_cases c20 : t138 ≥ 0
                · rw [if_pos c20] at H
                  have c20b0 : decide (0 ≤ t138) = true := decide_eq_true c20
                  clear c20
                  by_cases c21 : t138 ≤ 65535
                  · rw [if_pos c21] at H
                    have c21b0 : decide (t138 ≤ 65535) = true := decide_eq_true c21
                    clear c21
                    replace H := Option.bind_eq_some_iff.mp H
                    obtain ⟨t148, A220, H⟩ := H
                    replace H : (some t148) = some r := H
                    have A22 := Aside0.mk A220
                    clear A220
                    obtain rfl := Option.some.inj H
                    go_enter Try.func4, Try.ntmps4
                    go_wp2_with (first | (go_at_call 12; (with_reducible refine (rampartlaw00_Place.calls a1 (wrap64 ((wrap64 ((a0.size : Int) / 2)) + 1)) t134 _ A6.out).mono ?_); rintro e w' ⟨rfl, ⟨nd, rfl⟩⟩; (try first | exact ⟨rfl, _, World.drewN_drewN _ _ _⟩ | exact ⟨rfl, _, Eq.trans (World.drewN_drewN _ _ _) (congrArg (World.drewN _) (Nat.add_assoc _ _ _))⟩)) | ((with_reducible refine gate_dst (N := 28) rfl ?_); (try (refine gate_guard (by rfl) ?_; dsimp only)); refine Kd.R_lit Kd.string _ 9 ?hg (N := 28) ?hd (xs := ([a0.extract 0 ((ji7) : Int).toNat, (⟨#[0, 0]⟩ : ByteArray), a0.extract ((ji7) : Int).toNat a0.size] : List ByteArray)) (inner := [.string (a0.extract 0 ((ji7) : Int).toNat), .string (⟨#[0, 0]⟩ : ByteArray), .string (a0.extract ((ji7) : Int).toNat a0.size)]) (ok := fun _ => True) (okp := fun _ => True) ?hr ?hp (fun _ hk => hk) trivial (Below.refl _ _) (Nat.le_refl _) (by simp) ?_; (case hd => rfl); (case hg => rfl); (case hr => first | (go_simp; done) | (go_simp; rfl)); (case hp => exact (Reps.one (show Kd.M Kd.string _ _ _ (a0.extract 0 ((ji7) : Int).toNat) [.string (a0.extract 0 ((ji7) : Int).toNat)] from rfl) (Reps.one (show Kd.M Kd.string _ _ _ (⟨#[0, 0]⟩ : ByteArray) [.string (⟨#[0, 0]⟩ : ByteArray)] from rfl) (Reps.one (show Kd.M Kd.string _ _ _ (a0.extract ((ji7) : Int).toNat a0.size) [.string (a0.extract ((ji7) : Int).toNat a0.size)] from rfl) (Reps.none _ _))))); intro v136 w23 ho24 hb hg_ hnew_; clear hg_ hnew_; (first | rw [← Ny135.out] at ho24 | (simp only [Int.reduceToNat] at ho24; rw [← Ny135.out] at ho24)); have n0_ := Aside0.mk (Kd.R_lower ho24 (below_size (by repeat (first | (with_reducible first | exact HB.out | apply below_alloc | apply pw_below_drewN | apply below_drew1) | exact HB.out)))); have n1_ := Aside0.mk (below_step (by repeat (first | (with_reducible first | exact HB.out | apply below_alloc | apply pw_below_drewN | apply below_drew1) | exact HB.out)) hb); clear HB; have HO137 := n0_; have HB := n1_; clear n0_ n1_; clear hb ho24; obtain ⟨Ao25, co25, eo25⟩ := Kd.R_slice HO137.out; subst eo25) | (go_at_call 16; (with_reducible refine (sum_Of.calls k _ _ y135 t138 _ ?side1 ?side2 A12.out).mono ?_); (case side1 => repeat (first | exact (Kd.R_reads' HO137.out).2.2 | (with_reducible refine Kd.C_alloc ?_ _) | (with_reducible refine Kd.C_drewN ?_ _) | (with_reducible refine Kd.C_drew ?_))); (case side2 => exact (Kd.R_reads' HO137.out).2.1); rintro e w' ⟨rfl, ⟨nd, rfl⟩⟩; (try first | exact ⟨rfl, _, World.drewN_drewN _ _ _⟩ | exact ⟨rfl, _, Eq.trans (World.drewN_drewN _ _ _) (congrArg (World.drewN _) (Nat.add_assoc _ _ _))⟩)) | (go_at_call 17; (with_reducible refine (sum_Big.calls k t138 2 t139 _ A13.out).mono ?_); rintro e w26 ⟨rfl, hb⟩; have n0_ := Aside0.mk (Kd.R_below (by (with_reducible repeat (first | apply Kd.R_alloc | apply Kd.R_drewN | apply Kd.R_drew)); exact HO137.out) hb); have n1_ := Aside0.mk (below_step (by repeat (first | (with_reducible first | exact HB.out | apply below_alloc | apply pw_below_drewN | apply below_drew1) | exact HB.out)) hb); clear HO137; clear HB; have HO137 := n0_; have HB := n1_; clear n0_ n1_; (try clear hb); (try clear hb2); (try clear hk); (try clear hi)) | ((with_reducible refine gate_dst (N := 34) rfl ?_); (try (refine gate_guard (by rfl) ?_; dsimp only)); refine Kd.R_lit Kd.string _ 9 ?hg (N := 34) ?hd (xs := ([a0.extract 0 ((ji7) : Int).toNat, t139, a0.extract ((ji7) : Int).toNat a0.size] : List ByteArray)) (inner := [.string (a0.extract 0 ((ji7) : Int).toNat), .string t139, .string (a0.extract ((ji7) : Int).toNat a0.size)]) (ok := fun _ => True) (okp := fun _ => True) ?hr ?hp (fun _ hk => hk) trivial (Below.refl _ _) (Nat.le_refl _) (by simp) ?_; (case hd => rfl); (case hg => rfl); (case hr => first | (go_simp; done) | (go_simp; rfl)); (case hp => exact (Reps.one (show Kd.M Kd.string _ _ _ (a0.extract 0 ((ji7) : Int).toNat) [.string (a0.extract 0 ((ji7) : Int).toNat)] from rfl) (Reps.one (show Kd.M Kd.string _ _ _ t139 [.string t139] from rfl) (Reps.one (show Kd.M Kd.string _ _ _ (a0.extract ((ji7) : Int).toNat a0.size) [.string (a0.extract ((ji7) : Int).toNat a0.size)] from rfl) (Reps.none _ _))))); intro v141 w27 ho28 hb hg_ hnew_; clear hg_ hnew_; (first | rw [← Ny140.out] at ho28 | (simp only [Int.reduceToNat] at ho28; rw [← Ny140.out] at ho28)); have n0_ := Aside0.mk (Kd.R_elder' (by (with_reducible repeat (first | apply Kd.R_alloc | apply Kd.R_drewN | apply Kd.R_drew)); exact HO137.out) (Kd.R_base ho28) hb); have n1_ := Aside0.mk (Kd.R_lower (Kd.R_new' ho28 (Kd.R_lt (by (with_reducible repeat (first | apply Kd.R_alloc | apply Kd.R_drewN | apply Kd.R_drew)); exact HO137.out))) (below_size (by repeat (first | (with_reducible first | exact HB.out | apply below_alloc | apply pw_below_drewN | apply below_drew1) | exact HB.out)))); have n2_ := Aside0.mk (below_step (by repeat (first | (with_reducible first | exact HB.out | apply below_alloc | apply pw_below_drewN | apply below_drew1) | exact HB.out)) hb); clear HO137; clear HB; have HO137 := n0_; have HO142 := n1_; have HB := n2_; clear n0_ n1_ n2_; clear hb ho28; obtain ⟨Ao29, co29, eo29⟩ := Kd.R_slice HO142.out; subst eo29) | (go_at_call 16; (with_reducible refine (sum_Of.calls k _ _ y140 t143 _ ?side1 ?side2 A14.out).mono ?_); (case side1 => repeat (first | exact (Kd.R_reads' HO142.out).2.2 | (with_reducible refine Kd.C_alloc ?_ _) | (with_reducible refine Kd.C_drewN ?_ _) | (with_reducible refine Kd.C_drew ?_))); (case side2 => exact (Kd.R_reads' HO142.out).2.1); rintro e w' ⟨rfl, ⟨nd, rfl⟩⟩; (try first | exact ⟨rfl, _, World.drewN_drewN _ _ _⟩ | exact ⟨rfl, _, Eq.trans (World.drewN_drewN _ _ _) (congrArg (World.drewN _) (Nat.add_assoc _ _ _))⟩)) | ((with_reducible refine gate_dst (N := 42) rfl ?_); (try (refine gate_guard (by rfl) ?_; dsimp only)); refine Kd.R_lit Kd.string _ 9 ?hg (N := 42) ?hd (xs := ([((a0.extract 0 ((ji7) : Int).toNat) ++ (⟨#[0, 0]⟩ : ByteArray)) ++ (a0.extract ((ji7) : Int).toNat a0.size)] : List ByteArray)) (inner := [.string (((a0.extract 0 ((ji7) : Int).toNat) ++ (⟨#[0, 0]⟩ : ByteArray)) ++ (a0.extract ((ji7) : Int).toNat a0.size))]) (ok := fun _ => True) (okp := fun _ => True) ?hr ?hp (fun _ hk => hk) trivial (Below.refl _ _) (Nat.le_refl _) (by simp) ?_; (case hd => rfl); (case hg => rfl); (case hr => first | (go_simp; done) | (go_simp; rfl)); (case hp => exact (Reps.one (show Kd.M Kd.string _ _ _ (((a0.extract 0 ((ji7) : Int).toNat) ++ (⟨#[0, 0]⟩ : ByteArray)) ++ (a0.extract ((ji7) : Int).toNat a0.size)) [.string (((a0.extract 0 ((ji7) : Int).toNat) ++ (⟨#[0, 0]⟩ : ByteArray)) ++ (a0.extract ((ji7) : Int).toNat a0.size))] from rfl) (Reps.none _ _))); intro v145 w30 ho31 hb hg_ hnew_; clear hg_ hnew_; (first | rw [← Ny144.out] at ho31 | (simp only [Int.reduceToNat] at ho31; rw [← Ny144.out] at ho31)); have n0_ := Aside0.mk (Kd.R_elder' (by (with_reducible repeat (first | apply Kd.R_alloc | apply Kd.R_drewN | apply Kd.R_drew)); exact HO137.out) (Kd.R_base ho31) hb); have n1_ := Aside0.mk (Kd.R_elder' (by (with_reducible repeat (first | apply Kd.R_alloc | apply Kd.R_drewN | apply Kd.R_drew)); exact HO142.out) (Kd.R_base ho31) hb); have n2_ := Aside0.mk (Kd.R_lower (Kd.R_new' (Kd.R_new' ho31 (Kd.R_lt (by (with_reducible repeat (first | apply Kd.R_alloc | apply Kd.R_drewN | apply Kd.R_drew)); exact HO137.out))) (Kd.R_lt (by (with_reducible repeat (first | apply Kd.R_alloc | apply Kd.R_drewN | apply Kd.R_drew)); exact HO142.out))) (below_size (by repeat (first | (with_reducible first | exact HB.out | apply below_alloc | apply pw_below_drewN | apply below_drew1) | exact HB.out)))); have n3_ := Aside0.mk (below_step (by repeat (first | (with_reducible first | exact HB.out | apply below_alloc | apply pw_below_drewN | apply below_drew1) | exact HB.out)) hb); clear HO137; clear HO142; clear HB; have HO137 := n0_; have HO142 := n1_; have HO146 := n2_; have HB := n3_; clear n0_ n1_ n2_ n3_; clear hb ho31; obtain ⟨Ao32, co32, eo32⟩ := Kd.R_slice HO146.out; subst eo32) | (go_at_call 16; (with_reducible refine (sum_Of.calls k _ _ y144 t147 _ ?side1 ?side2 A18.out).mono ?_); (case side1 => repeat (first | exact (Kd.R_reads' HO146.out).2.2 | (with_reducible refine Kd.C_alloc ?_ _) | (with_reducible refine Kd.C_drewN ?_ _) | (with_reducible refine Kd.C_drew ?_))); (case side2 => exact (Kd.R_reads' HO146.out).2.1); rintro e w' ⟨rfl, ⟨nd, rfl⟩⟩; (try first | exact ⟨rfl, _, World.drewN_drewN _ _ _⟩ | exact ⟨rfl, _, Eq.trans (World.drewN_drewN _ _ _) (congrArg (World.drewN _) (Nat.add_assoc _ _ _))⟩)) | (go_at_call 15; (with_reducible refine (rampartlaw01_awake.calls k  t148 _ A22.out).mono ?_); rintro e w33 ⟨rfl, hb⟩; have n0_ := Aside0.mk (Kd.R_below (by (with_reducible repeat (first | apply Kd.R_alloc | apply Kd.R_drewN | apply Kd.R_drew)); exact HO137.out) hb); have n1_ := Aside0.mk (Kd.R_below (by (with_reducible repeat (first | apply Kd.R_alloc | apply Kd.R_drewN | apply Kd.R_drew)); exact HO142.out) hb); have n2_ := Aside0.mk (Kd.R_below (by (with_reducible repeat (first | apply Kd.R_alloc | apply Kd.R_drewN | apply Kd.R_drew)); exact HO146.out) hb); have n3_ := Aside0.mk (below_step (by repeat (first | (with_reducible first | exact HB.out | apply below_alloc | apply pw_below_drewN | apply below_drew1) | exact HB.out)) hb); clear HO137; clear HO142; clear HO146; clear HB; have HO137 := n0_; have HO142 := n1_; have HO146 := n2_; have HB := n3_; clear n0_ n1_ n2_ n3_; (try clear hb); (try clear hb2); (try clear hk); (try clear hi)))
                    repeat (go_quiet (first | (go_at_call 12; (with_reducible refine (rampartlaw00_Place.calls a1 (wrap64 ((wrap64 ((a0.size : Int) / 2)) + 1)) t134 _ A6.out).mono ?_); rintro e w' ⟨rfl, ⟨nd, rfl⟩⟩; (try first | exact ⟨rfl, _, World.drewN_drewN _ _ _⟩ | exact ⟨rfl, _, Eq.trans (World.drewN_drewN _ _ _) (congrArg (World.drewN _) (Nat.add_assoc _ _ _))⟩)) | ((with_reducible refine gate_dst (N := 28) rfl ?_); (try (refine gate_guard (by rfl) ?_; dsimp only)); refine Kd.R_lit Kd.string _ 9 ?hg (N := 28) ?hd (xs := ([a0.extract 0 ((ji7) : Int).toNat, (⟨#[0, 0]⟩ : ByteArray), a0.extract ((ji7) : Int).toNat a0.size] : List ByteArray)) (inner := [.string (a0.extract 0 ((ji7) : Int).toNat), .string (⟨#[0, 0]⟩ : ByteArray), .string (a0.extract ((ji7) : Int).toNat a0.size)]) (ok := fun _ => True) (okp := fun _ => True) ?hr ?hp (fun _ hk => hk) trivial (Below.refl _ _) (Nat.le_refl _) (by simp) ?_; (case hd => rfl); (case hg => rfl); (case hr => first | (go_simp; done) | (go_simp; rfl)); (case hp => exact (Reps.one (show Kd.M Kd.string _ _ _ (a0.extract 0 ((ji7) : Int).toNat) [.string (a0.extract 0 ((ji7) : Int).toNat)] from rfl) (Reps.one (show Kd.M Kd.string _ _ _ (⟨#[0, 0]⟩ : ByteArray) [.string (⟨#[0, 0]⟩ : ByteArray)] from rfl) (Reps.one (show Kd.M Kd.string _ _ _ (a0.extract ((ji7) : Int).toNat a0.size) [.string (a0.extract ((ji7) : Int).toNat a0.size)] from rfl) (Reps.none _ _))))); intro v136 w23 ho24 hb hg_ hnew_; clear hg_ hnew_; (first | rw [← Ny135.out] at ho24 | (simp only [Int.reduceToNat] at ho24; rw [← Ny135.out] at ho24)); have n0_ := Aside0.mk (Kd.R_lower ho24 (below_size (by repeat (first | (with_reducible first | exact HB.out | apply below_alloc | apply pw_below_drewN | apply below_drew1) | exact HB.out)))); have n1_ := Aside0.mk (below_step (by repeat (first | (with_reducible first | exact HB.out | apply below_alloc | apply pw_below_drewN | apply below_drew1) | exact HB.out)) hb); clear HB; have HO137 := n0_; have HB := n1_; clear n0_ n1_; clear hb ho24; obtain ⟨Ao25, co25, eo25⟩ := Kd.R_slice HO137.out; subst eo25) | (go_at_call 16; (with_reducible refine (sum_Of.calls k _ _ y135 t138 _ ?side1 ?side2 A12.out).mono ?_); (case side1 => repeat (first | exact (Kd.R_reads' HO137.out).2.2 | (with_reducible refine Kd.C_alloc ?_ _) | (with_reducible refine Kd.C_drewN ?_ _) | (with_reducible refine Kd.C_drew ?_))); (case side2 => exact (Kd.R_reads' HO137.out).2.1); rintro e w' ⟨rfl, ⟨nd, rfl⟩⟩; (try first | exact ⟨rfl, _, World.drewN_drewN _ _ _⟩ | exact ⟨rfl, _, Eq.trans (World.drewN_drewN _ _ _) (congrArg (World.drewN _) (Nat.add_assoc _ _ _))⟩)) | (go_at_call 17; (with_reducible refine (sum_Big.calls k t138 2 t139 _ A13.out).mono ?_); rintro e w26 ⟨rfl, hb⟩; have n0_ := Aside0.mk (Kd.R_below (by (with_reducible repeat (first | apply Kd.R_alloc | apply Kd.R_drewN | apply Kd.R_drew)); exact HO137.out) hb); have n1_ := Aside0.mk (below_step (by repeat (first | (with_reducible first | exact HB.out | apply below_alloc | apply pw_below_drewN | apply below_drew1) | exact HB.out)) hb); clear HO137; clear HB; have HO137 := n0_; have HB := n1_; clear n0_ n1_; (try clear hb); (try clear hb2); (try clear hk); (try clear hi)) | ((with_reducible refine gate_dst (N := 34) rfl ?_); (try (refine gate_guard (by rfl) ?_; dsimp only)); refine Kd.R_lit Kd.string _ 9 ?hg (N := 34) ?hd (xs := ([a0.extract 0 ((ji7) : Int).toNat, t139, a0.extract ((ji7) : Int).toNat a0.size] : List ByteArray)) (inner := [.string (a0.extract 0 ((ji7) : Int).toNat), .string t139, .string (a0.extract ((ji7) : Int).toNat a0.size)]) (ok := fun _ => True) (okp := fun _ => True) ?hr ?hp (fun _ hk => hk) trivial (Below.refl _ _) (Nat.le_refl _) (by simp) ?_; (case hd => rfl); (case hg => rfl); (case hr => first | (go_simp; done) | (go_simp; rfl)); (case hp => exact (Reps.one (show Kd.M Kd.string _ _ _ (a0.extract 0 ((ji7) : Int).toNat) [.string (a0.extract 0 ((ji7) : Int).toNat)] from rfl) (Reps.one (show Kd.M Kd.string _ _ _ t139 [.string t139] from rfl) (Reps.one (show Kd.M Kd.string _ _ _ (a0.extract ((ji7) : Int).toNat a0.size) [.string (a0.extract ((ji7) : Int).toNat a0.size)] from rfl) (Reps.none _ _))))); intro v141 w27 ho28 hb hg_ hnew_; clear hg_ hnew_; (first | rw [← Ny140.out] at ho28 | (simp only [Int.reduceToNat] at ho28; rw [← Ny140.out] at ho28)); have n0_ := Aside0.mk (Kd.R_elder' (by (with_reducible repeat (first | apply Kd.R_alloc | apply Kd.R_drewN | apply Kd.R_drew)); exact HO137.out) (Kd.R_base ho28) hb); have n1_ := Aside0.mk (Kd.R_lower (Kd.R_new' ho28 (Kd.R_lt (by (with_reducible repeat (first | apply Kd.R_alloc | apply Kd.R_drewN | apply Kd.R_drew)); exact HO137.out))) (below_size (by repeat (first | (with_reducible first | exact HB.out | apply below_alloc | apply pw_below_drewN | apply below_drew1) | exact HB.out)))); have n2_ := Aside0.mk (below_step (by repeat (first | (with_reducible first | exact HB.out | apply below_alloc | apply pw_below_drewN | apply below_drew1) | exact HB.out)) hb); clear HO137; clear HB; have HO137 := n0_; have HO142 := n1_; have HB := n2_; clear n0_ n1_ n2_; clear hb ho28; obtain ⟨Ao29, co29, eo29⟩ := Kd.R_slice HO142.out; subst eo29) | (go_at_call 16; (with_reducible refine (sum_Of.calls k _ _ y140 t143 _ ?side1 ?side2 A14.out).mono ?_); (case side1 => repeat (first | exact (Kd.R_reads' HO142.out).2.2 | (with_reducible refine Kd.C_alloc ?_ _) | (with_reducible refine Kd.C_drewN ?_ _) | (with_reducible refine Kd.C_drew ?_))); (case side2 => exact (Kd.R_reads' HO142.out).2.1); rintro e w' ⟨rfl, ⟨nd, rfl⟩⟩; (try first | exact ⟨rfl, _, World.drewN_drewN _ _ _⟩ | exact ⟨rfl, _, Eq.trans (World.drewN_drewN _ _ _) (congrArg (World.drewN _) (Nat.add_assoc _ _ _))⟩)) | ((with_reducible refine gate_dst (N := 42) rfl ?_); (try (refine gate_guard (by rfl) ?_; dsimp only)); refine Kd.R_lit Kd.string _ 9 ?hg (N := 42) ?hd (xs := ([((a0.extract 0 ((ji7) : Int).toNat) ++ (⟨#[0, 0]⟩ : ByteArray)) ++ (a0.extract ((ji7) : Int).toNat a0.size)] : List ByteArray)) (inner := [.string (((a0.extract 0 ((ji7) : Int).toNat) ++ (⟨#[0, 0]⟩ : ByteArray)) ++ (a0.extract ((ji7) : Int).toNat a0.size))]) (ok := fun _ => True) (okp := fun _ => True) ?hr ?hp (fun _ hk => hk) trivial (Below.refl _ _) (Nat.le_refl _) (by simp) ?_; (case hd => rfl); (case hg => rfl); (case hr => first | (go_simp; done) | (go_simp; rfl)); (case hp => exact (Reps.one (show Kd.M Kd.string _ _ _ (((a0.extract 0 ((ji7) : Int).toNat) ++ (⟨#[0, 0]⟩ : ByteArray)) ++ (a0.extract ((ji7) : Int).toNat a0.size)) [.string (((a0.extract 0 ((ji7) : Int).toNat) ++ (⟨#[0, 0]⟩ : ByteArray)) ++ (a0.extract ((ji7) : Int).toNat a0.size))] from rfl) (Reps.none _ _))); intro v145 w30 ho31 hb hg_ hnew_; clear hg_ hnew_; (first | rw [← Ny144.out] at ho31 | (simp only [Int.reduceToNat] at ho31; rw [← Ny144.out] at ho31)); have n0_ := Aside0.mk (Kd.R_elder' (by (with_reducible repeat (first | apply Kd.R_alloc | apply Kd.R_drewN | apply Kd.R_drew)); exact HO137.out) (Kd.R_base ho31) hb); have n1_ := Aside0.mk (Kd.R_elder' (by (with_reducible repeat (first | apply Kd.R_alloc | apply Kd.R_drewN | apply Kd.R_drew)); exact HO142.out) (Kd.R_base ho31) hb); have n2_ := Aside0.mk (Kd.R_lower (Kd.R_new' (Kd.R_new' ho31 (Kd.R_lt (by (with_reducible repeat (first | apply Kd.R_alloc | apply Kd.R_drewN | apply Kd.R_drew)); exact HO137.out))) (Kd.R_lt (by (with_reducible repeat (first | apply Kd.R_alloc | apply Kd.R_drewN | apply Kd.R_drew)); exact HO142.out))) (below_size (by repeat (first | (with_reducible first | exact HB.out | apply below_alloc | apply pw_below_drewN | apply below_drew1) | exact HB.out)))); have n3_ := Aside0.mk (below_step (by repeat (first | (with_reducible first | exact HB.out | apply below_alloc | apply pw_below_drewN | apply below_drew1) | exact HB.out)) hb); clear HO137; clear HO142; clear HB; have HO137 := n0_; have HO142 := n1_; have HO146 := n2_; have HB := n3_; clear n0_ n1_ n2_ n3_; clear hb ho31; obtain ⟨Ao32, co32, eo32⟩ := Kd.R_slice HO146.out; subst eo32) | (go_at_call 16; (with_reducible refine (sum_Of.calls k _ _ y144 t147 _ ?side1 ?side2 A18.out).mono ?_); (case side1 => repeat (first | exact (Kd.R_reads' HO146.out).2.2 | (with_reducible refine Kd.C_alloc ?_ _) | (with_reducible refine Kd.C_drewN ?_ _) | (with_reducible refine Kd.C_drew ?_))); (case side2 => exact (Kd.R_reads' HO146.out).2.1); rintro e w' ⟨rfl, ⟨nd, rfl⟩⟩; (try first | exact ⟨rfl, _, World.drewN_drewN _ _ _⟩ | exact ⟨rfl, _, Eq.trans (World.drewN_drewN _ _ _) (congrArg (World.drewN _) (Nat.add_assoc _ _ _))⟩)) | (go_at_call 15; (with_reducible refine (rampartlaw01_awake.calls k  t148 _ A22.out).mono ?_); rintro e w33 ⟨rfl, hb⟩; have n0_ := Aside0.mk (Kd.R_below (by (with_reducible repeat (first | apply Kd.R_alloc | apply Kd.R_drewN | apply Kd.R_drew)); exact HO137.out) hb); have n1_ := Aside0.mk (Kd.R_below (by (with_reducible repeat (first | apply Kd.R_alloc | apply Kd.R_drewN | apply Kd.R_drew)); exact HO142.out) hb); have n2_ := Aside0.mk (Kd.R_below (by (with_reducible repeat (first | apply Kd.R_alloc | apply Kd.R_drewN | apply Kd.R_drew)); exact HO146.out) hb); have n3_ := Aside0.mk (below_step (by repeat (first | (with_reducible first | exact HB.out | apply below_alloc | apply pw_below_drewN | apply below_drew1) | exact HB.out)) hb); clear HO137; clear HO142; clear HO146; clear HB; have HO137 := n0_; have HO142 := n1_; have HO146 := n2_; have HB := n3_; clear n0_ n1_ n2_ n3_; (try clear hb); (try clear hb2); (try clear hk); (try clear hi))); try go_wp2_with (first | (go_at_call 12; (with_reducible refine (rampartlaw00_Place.calls a1 (wrap64 ((wrap64 ((a0.size : Int) / 2)) + 1)) t134 _ A6.out).mono ?_); rintro e w' ⟨rfl, ⟨nd, rfl⟩⟩; (try first | exact ⟨rfl, _, World.drewN_drewN _ _ _⟩ | exact ⟨rfl, _, Eq.trans (World.drewN_drewN _ _ _) (congrArg (World.drewN _) (Nat.add_assoc _ _ _))⟩)) | ((with_reducible refine gate_dst (N := 28) rfl ?_); (try (refine gate_guard (by rfl) ?_; dsimp only)); refine Kd.R_lit Kd.string _ 9 ?hg (N := 28) ?hd (xs := ([a0.extract 0 ((ji7) : Int).toNat, (⟨#[0, 0]⟩ : ByteArray), a0.extract ((ji7) : Int).toNat a0.size] : List ByteArray)) (inner := [.string (a0.extract 0 ((ji7) : Int).toNat), .string (⟨#[0, 0]⟩ : ByteArray), .string (a0.extract ((ji7) : Int).toNat a0.size)]) (ok := fun _ => True) (okp := fun _ => True) ?hr ?hp (fun _ hk => hk) trivial (Below.refl _ _) (Nat.le_refl _) (by simp) ?_; (case hd => rfl); (case hg => rfl); (case hr => first | (go_simp; done) | (go_simp; rfl)); (case hp => exact (Reps.one (show Kd.M Kd.string _ _ _ (a0.extract 0 ((ji7) : Int).toNat) [.string (a0.extract 0 ((ji7) : Int).toNat)] from rfl) (Reps.one (show Kd.M Kd.string _ _ _ (⟨#[0, 0]⟩ : ByteArray) [.string (⟨#[0, 0]⟩ : ByteArray)] from rfl) (Reps.one (show Kd.M Kd.string _ _ _ (a0.extract ((ji7) : Int).toNat a0.size) [.string (a0.extract ((ji7) : Int).toNat a0.size)] from rfl) (Reps.none _ _))))); intro v136 w23 ho24 hb hg_ hnew_; clear hg_ hnew_; (first | rw [← Ny135.out] at ho24 | (simp only [Int.reduceToNat] at ho24; rw [← Ny135.out] at ho24)); have n0_ := Aside0.mk (Kd.R_lower ho24 (below_size (by repeat (first | (with_reducible first | exact HB.out | apply below_alloc | apply pw_below_drewN | apply below_drew1) | exact HB.out)))); have n1_ := Aside0.mk (below_step (by repeat (first | (with_reducible first | exact HB.out | apply below_alloc | apply pw_below_drewN | apply below_drew1) | exact HB.out)) hb); clear HB; have HO137 := n0_; have HB := n1_; clear n0_ n1_; clear hb ho24; obtain ⟨Ao25, co25, eo25⟩ := Kd.R_slice HO137.out; subst eo25) | (go_at_call 16; (with_reducible refine (sum_Of.calls k _ _ y135 t138 _ ?side1 ?side2 A12.out).mono ?_); (case side1 => repeat (first | exact (Kd.R_reads' HO137.out).2.2 | (with_reducible refine Kd.C_alloc ?_ _) | (with_reducible refine Kd.C_drewN ?_ _) | (with_reducible refine Kd.C_drew ?_))); (case side2 => exact (Kd.R_reads' HO137.out).2.1); rintro e w' ⟨rfl, ⟨nd, rfl⟩⟩; (try first | exact ⟨rfl, _, World.drewN_drewN _ _ _⟩ | exact ⟨rfl, _, Eq.trans (World.drewN_drewN _ _ _) (congrArg (World.drewN _) (Nat.add_assoc _ _ _))⟩)) | (go_at_call 17; (with_reducible refine (sum_Big.calls k t138 2 t139 _ A13.out).mono ?_); rintro e w26 ⟨rfl, hb⟩; have n0_ := Aside0.mk (Kd.R_below (by (with_reducible repeat (first | apply Kd.R_alloc | apply Kd.R_drewN | apply Kd.R_drew)); exact HO137.out) hb); have n1_ := Aside0.mk (below_step (by repeat (first | (with_reducible first | exact HB.out | apply below_alloc | apply pw_below_drewN | apply below_drew1) | exact HB.out)) hb); clear HO137; clear HB; have HO137 := n0_; have HB := n1_; clear n0_ n1_; (try clear hb); (try clear hb2); (try clear hk); (try clear hi)) | ((with_reducible refine gate_dst (N := 34) rfl ?_); (try (refine gate_guard (by rfl) ?_; dsimp only)); refine Kd.R_lit Kd.string _ 9 ?hg (N := 34) ?hd (xs := ([a0.extract 0 ((ji7) : Int).toNat, t139, a0.extract ((ji7) : Int).toNat a0.size] : List ByteArray)) (inner := [.string (a0.extract 0 ((ji7) : Int).toNat), .string t139, .string (a0.extract ((ji7) : Int).toNat a0.size)]) (ok := fun _ => True) (okp := fun _ => True) ?hr ?hp (fun _ hk => hk) trivial (Below.refl _ _) (Nat.le_refl _) (by simp) ?_; (case hd => rfl); (case hg => rfl); (case hr => first | (go_simp; done) | (go_simp; rfl)); (case hp => exact (Reps.one (show Kd.M Kd.string _ _ _ (a0.extract 0 ((ji7) : Int).toNat) [.string (a0.extract 0 ((ji7) : Int).toNat)] from rfl) (Reps.one (show Kd.M Kd.string _ _ _ t139 [.string t139] from rfl) (Reps.one (show Kd.M Kd.string _ _ _ (a0.extract ((ji7) : Int).toNat a0.size) [.string (a0.extract ((ji7) : Int).toNat a0.size)] from rfl) (Reps.none _ _))))); intro v141 w27 ho28 hb hg_ hnew_; clear hg_ hnew_; (first | rw [← Ny140.out] at ho28 | (simp only [Int.reduceToNat] at ho28; rw [← Ny140.out] at ho28)); have n0_ := Aside0.mk (Kd.R_elder' (by (with_reducible repeat (first | apply Kd.R_alloc | apply Kd.R_drewN | apply Kd.R_drew)); exact HO137.out) (Kd.R_base ho28) hb); have n1_ := Aside0.mk (Kd.R_lower (Kd.R_new' ho28 (Kd.R_lt (by (with_reducible repeat (first | apply Kd.R_alloc | apply Kd.R_drewN | apply Kd.R_drew)); exact HO137.out))) (below_size (by repeat (first | (with_reducible first | exact HB.out | apply below_alloc | apply pw_below_drewN | apply below_drew1) | exact HB.out)))); have n2_ := Aside0.mk (below_step (by repeat (first | (with_reducible first | exact HB.out | apply below_alloc | apply pw_below_drewN | apply below_drew1) | exact HB.out)) hb); clear HO137; clear HB; have HO137 := n0_; have HO142 := n1_; have HB := n2_; clear n0_ n1_ n2_; clear hb ho28; obtain ⟨Ao29, co29, eo29⟩ := Kd.R_slice HO142.out; subst eo29) | (go_at_call 16; (with_reducible refine (sum_Of.calls k _ _ y140 t143 _ ?side1 ?side2 A14.out).mono ?_); (case side1 => repeat (first | exact (Kd.R_reads' HO142.out).2.2 | (with_reducible refine Kd.C_alloc ?_ _) | (with_reducible refine Kd.C_drewN ?_ _) | (with_reducible refine Kd.C_drew ?_))); (case side2 => exact (Kd.R_reads' HO142.out).2.1); rintro e w' ⟨rfl, ⟨nd, rfl⟩⟩; (try first | exact ⟨rfl, _, World.drewN_drewN _ _ _⟩ | exact ⟨rfl, _, Eq.trans (World.drewN_drewN _ _ _) (congrArg (World.drewN _) (Nat.add_assoc _ _ _))⟩)) | ((with_reducible refine gate_dst (N := 42) rfl ?_); (try (refine gate_guard (by rfl) ?_; dsimp only)); refine Kd.R_lit Kd.string _ 9 ?hg (N := 42) ?hd (xs := ([((a0.extract 0 ((ji7) : Int).toNat) ++ (⟨#[0, 0]⟩ : ByteArray)) ++ (a0.extract ((ji7) : Int).toNat a0.size)] : List ByteArray)) (inner := [.string (((a0.extract 0 ((ji7) : Int).toNat) ++ (⟨#[0, 0]⟩ : ByteArray)) ++ (a0.extract ((ji7) : Int).toNat a0.size))]) (ok := fun _ => True) (okp := fun _ => True) ?hr ?hp (fun _ hk => hk) trivial (Below.refl _ _) (Nat.le_refl _) (by simp) ?_; (case hd => rfl); (case hg => rfl); (case hr => first | (go_simp; done) | (go_simp; rfl)); (case hp => exact (Reps.one (show Kd.M Kd.string _ _ _ (((a0.extract 0 ((ji7) : Int).toNat) ++ (⟨#[0, 0]⟩ : ByteArray)) ++ (a0.extract ((ji7) : Int).toNat a0.size)) [.string (((a0.extract 0 ((ji7) : Int).toNat) ++ (⟨#[0, 0]⟩ : ByteArray)) ++ (a0.extract ((ji7) : Int).toNat a0.size))] from rfl) (Reps.none _ _))); intro v145 w30 ho31 hb hg_ hnew_; clear hg_ hnew_; (first | rw [← Ny144.out] at ho31 | (simp only [Int.reduceToNat] at ho31; rw [← Ny144.out] at ho31)); have n0_ := Aside0.mk (Kd.R_elder' (by (with_reducible repeat (first | apply Kd.R_alloc | apply Kd.R_drewN | apply Kd.R_drew)); exact HO137.out) (Kd.R_base ho31) hb); have n1_ := Aside0.mk (Kd.R_elder' (by (with_reducible repeat (first | apply Kd.R_alloc | apply Kd.R_drewN | apply Kd.R_drew)); exact HO142.out) (Kd.R_base ho31) hb); have n2_ := Aside0.mk (Kd.R_lower (Kd.R_new' (Kd.R_new' ho31 (Kd.R_lt (by (with_reducible repeat (first | apply Kd.R_alloc | apply Kd.R_drewN | apply Kd.R_drew)); exact HO137.out))) (Kd.R_lt (by (with_reducible repeat (first | apply Kd.R_alloc | apply Kd.R_drewN | apply Kd.R_drew)); exact HO142.out))) (below_size (by repeat (first | (with_reducible first | exact HB.out | apply below_alloc | apply pw_below_drewN | apply below_drew1) | exact HB.out)))); have n3_ := Aside0.mk (below_step (by repeat (first | (with_reducible first | exact HB.out | apply below_alloc | apply pw_below_drewN | apply below_drew1) | exact HB.out)) hb); clear HO137; clear HO142; clear HB; have HO137 := n0_; have HO142 := n1_; have HO146 := n2_; have HB := n3_; clear n0_ n1_ n2_ n3_; clear hb ho31; obtain ⟨Ao32, co32, eo32⟩ := Kd.R_slice HO146.out; subst eo32) | (go_at_call 16; (with_reducible refine (sum_Of.calls k _ _ y144 t147 _ ?side1 ?side2 A18.out).mono ?_); (case side1 => repeat (first | exact (Kd.R_reads' HO146.out).2.2 | (with_reducible refine Kd.C_alloc ?_ _) | (with_reducible refine Kd.C_drewN ?_ _) | (with_reducible refine Kd.C_drew ?_))); (case side2 => exact (Kd.R_reads' HO146.out).2.1); rintro e w' ⟨rfl, ⟨nd, rfl⟩⟩; (try first | exact ⟨rfl, _, World.drewN_drewN _ _ _⟩ | exact ⟨rfl, _, Eq.trans (World.drewN_drewN _ _ _) (congrArg (World.drewN _) (Nat.add_assoc _ _ _))⟩)) | (go_at_call 15; (with_reducible refine (rampartlaw01_awake.calls k  t148 _ A22.out).mono ?_); rintro e w33 ⟨rfl, hb⟩; have n0_ := Aside0.mk (Kd.R_below (by (with_reducible repeat (first | apply Kd.R_alloc | apply Kd.R_drewN | apply Kd.R_drew)); exact HO137.out) hb); have n1_ := Aside0.mk (Kd.R_below (by (with_reducible repeat (first | apply Kd.R_alloc | apply Kd.R_drewN | apply Kd.R_drew)); exact HO142.out) hb); have n2_ := Aside0.mk (Kd.R_below (by (with_reducible repeat (first | apply Kd.R_alloc | apply Kd.R_drewN | apply Kd.R_drew)); exact HO146.out) hb); have n3_ := Aside0.mk (below_step (by repeat (first | (with_reducible first | exact HB.out | apply below_alloc | apply pw_below_drewN | apply below_drew1) | exact HB.out)) hb); clear HO137; clear HO142; clear HO146; clear HB; have HO137 := n0_; have HO142 := n1_; have HO146 := n2_; have HB := n3_; clear n0_ n1_ n2_ n3_; (try clear hb); (try clear hb2); (try clear hk); (try clear hi))))
                    go_ret
                    exact ⟨by first | rfl | (simp [errW_none, errW_some] <;> rfl) | (simp only [← hji7]; first | rfl | (simp [errW_none, errW_some] <;> rfl)) | (simp [*, errW_none, errW_some] <;> rfl), by repeat (first | (with_reducible first | exact HB.out | apply below_alloc | apply pw_below_drewN | apply below_drew1) | exact HB.out)⟩
                  · rw [if_neg c21] at H
                    have c21b0 : decide (t138 ≤ 65535) = false := decide_eq_false c21
                    clear c21
                    exact absurd ((Option.some.inj H).trans HR.out) (by decide)
                · rw [if_neg c20] at H
                  have c20b0 : decide (0 ≤ t138) = false := decide_eq_false c20
                  clear c20
                  exact absurd ((Option.some.inj H).trans HR.out) (by decide)
              · rw [if_neg c19] at H
                have c19b0 : (t147 == t138) = false := beq_eq_false_iff_ne.mpr c19
                have c19b1 : (t147 != t138) = true := bne_iff_ne.mpr c19
                exact absurd ((Option.some.inj H).trans HR.out) (by decide)
            · rw [if_neg c17] at H
              exact absurd H (by simp)
          · rw [if_neg c16] at H
            exact absurd H (by simp)
        · rw [if_neg c15] at H
          have c15b0 : (t143 == 0) = false := beq_eq_false_iff_ne.mpr c15
          have c15b1 : (t143 != 0) = true := bne_iff_ne.mpr c15
          exact absurd ((Option.some.inj H).trans HR.out) (by decide)
      · rw [if_neg c9] at H
        exact absurd H (by simp)
    · rw [if_neg c8] at H
      exact absurd H (by simp)

/-- THE ONE PURE STATEMENT of rampartlaw01_SumZero: yours. -/
def rampartlaw01_SumZero.Pure : Prop := ∀ (a0 : ByteArray) (a1 : Int), a0.size ≤ 140737488351232 → (Lit.int .i64 a1).wf = true → ∃ k, rampartlaw01_SumZero.f k a0 a1 = some true
theorem rampartlaw01_SumZero.walk (P : rampartlaw01_SumZero.Pure) (a0 : ByteArray) (a1 : Int) (w : World) (w0 : a0.size ≤ 140737488351232) (w1 : (Lit.int .i64 a1).wf = true) :
    Calls Try.prog 4 #[.string a0, .int .i64 a1] w fun e w' => e = .returned (.bool true) ∧ Below w.heap.size w w' := by
  obtain ⟨k, h⟩ := P a0 a1 w0 w1
  refine (rampartlaw01_SumZero.calls k a0 a1 true w h rfl).mono ?_
  rintro e w' ⟨rfl, hd⟩
  exact ⟨rfl, hd⟩

end Go.Proofs.Ytchjfgdcldaacaa.HA
