/- What is proved: each Go function of this text answers as the plain Lean function beside it (a law: its given row, out of the plain statement). Conditions: those that stand in each theorem. Written by my drive.py, which calls the printer of the kit for what that covers. -/
import Derived.Test.YtgolimfljndnmaaHVx0
import Derived.Test.YtgolimfljndnmaaHVx3
import Derived.Test.YtgolimfljndnmaaHVx6
namespace Go.Proofs.Ytgolimfljndnmaa.HV
open Go.RowKit Go.Proofs.YtgolimfljndnmaaW.PrintWords Go.Proofs.YtgolimfljndnmaaW.PrintLast Go.Proofs.YtgolimfljndnmaaW.PrintMore
attribute [local go_sem] max2_int min2_int max_two min_two max_three min_three max_four min_four   -- for this text's walks alone
set_option linter.unusedVariables false
set_option linter.unusedSimpArgs false

/-! ### rampartlaw03_awake: function 15 -/
def rampartlaw03_awake.f (k : Nat)  : Option (Bool) := (ipv4_Put.f k 0 0 false false 0 9 6 1 2 (⟨#[]⟩ : ByteArray) (⟨#[]⟩ : ByteArray)).bind fun bt153 => (if bt153.1.size + 4 ≤ 9223372036854775807 then ((ipv4_Get.f k (bt153.1 ++ (⟨#[109, 111, 114, 101]⟩ : ByteArray))).bind fun bt155 => (if bt153.2 = 0 then (if (bt153.1.size : Int) = 20 then (if bt155.2.2.2.2.2.2.2.2.2.2.2 = 0 then (if bt155.2.2.2.2.2.1 = 9 then (if bt155.2.2.2.2.2.2.2.2.2.2.1.toList = ([] : List UInt8) then (some (bt155.2.2.2.2.2.2.2.1 == 1)) else (some false)) else (some false)) else (some false)) else (some false)) else (some false))) else (none))
theorem rampartlaw03_awake.mono : ∀ k, LeO (rampartlaw03_awake.f k ) (rampartlaw03_awake.f (k + 1) ) := by
 intro  k
 unfold rampartlaw03_awake.f
 repeat' first
   | (with_reducible exact ipv4_Get.mono _ _)
   | (with_reducible exact ipv4_Put.mono _ _ _ _ _ _ _ _ _ _ _ _)
   | (with_reducible exact LeO.refl _)
   | (with_reducible exact LeO.none _)
   | (with_reducible refine LeO.ite ?_ ?_)
   | (with_reducible refine LeO.bind ?_ (fun _ => ?_))
   | exact ipv4_Get.mono _ _
   | exact ipv4_Put.mono _ _ _ _ _ _ _ _ _ _ _ _
   | exact LeO.none _
   | refine LeO.ite ?_ ?_
   | refine LeO.bind ?_ (fun _ => ?_)
set_option maxHeartbeats 8000000 in
set_option maxRecDepth 100000 in
theorem rampartlaw03_awake.calls (k : Nat)  (r : Bool) (w : World) (h : rampartlaw03_awake.f k  = some r) (HR0 : r = true) :
  Calls Try.prog 15 #[] w fun e w' => e = .returned (.bool r) ∧ Below w.heap.size w w' := by
 have HR := Aside0.mk HR0
 clear HR0
 have hu24 := Try.underlying24
 have HB := Aside0.mk (Below.refl w.heap.size w)
 have H : ((ipv4_Put.f k 0 0 false false 0 9 6 1 2 (⟨#[]⟩ : ByteArray) (⟨#[]⟩ : ByteArray)).bind fun bt153 => (if bt153.1.size + 4 ≤ 9223372036854775807 then ((ipv4_Get.f k (bt153.1 ++ (⟨#[109, 111, 114, 101]⟩ : ByteArray))).bind fun bt155 => (if bt153.2 = 0 then (if (bt153.1.size : Int) = 20 then (if bt155.2.2.2.2.2.2.2.2.2.2.2 = 0 then (if bt155.2.2.2.2.2.1 = 9 then (if bt155.2.2.2.2.2.2.2.2.2.2.1.toList = ([] : List UInt8) then (some (bt155.2.2.2.2.2.2.2.1 == 1)) else (some false)) else (some false)) else (some false)) else (some false)) else (some false))) else (none))) = some r := h
 clear h
 replace H := Option.bind_eq_some_iff.mp H
 obtain ⟨⟨t153, t154⟩, A10, H⟩ := H
 replace H : (if t153.size + 4 ≤ 9223372036854775807 then ((ipv4_Get.f k (t153 ++ (⟨#[109, 111, 114, 101]⟩ : ByteArray))).bind fun bt155 => (if t154 = 0 then (if (t153.size : Int) = 20 then (if bt155.2.2.2.2.2.2.2.2.2.2.2 = 0 then (if bt155.2.2.2.2.2.1 = 9 then (if bt155.2.2.2.2.2.2.2.2.2.2.1.toList = ([] : List UInt8) then (some (bt155.2.2.2.2.2.2.2.1 == 1)) else (some false)) else (some false)) else (some false)) else (some false)) else (some false))) else (none)) = some r := H
 have A1 := Aside0.mk A10
 clear A10
 by_cases c2 : t153.size + 4 ≤ 9223372036854775807
 ·
  rw [if_pos c2] at H
  have c2b0 := eq_true c2
  have c2b1 : decide (t153.size + 4 ≤ 9223372036854775807) = true := decide_eq_true c2
  try have c2b2 : (9223372036854775807 < t153.size + 4) = False := eq_false (Nat.not_lt.2 c2)
  replace H := Option.bind_eq_some_iff.mp H
  obtain ⟨⟨t155, t156, t157, t158, t159, t160, t161, t162, t163, t164, t165, t166⟩, A30, H⟩ := H
  replace H : (if t154 = 0 then (if (t153.size : Int) = 20 then (if t166 = 0 then (if t160 = 9 then (if t165.toList = ([] : List UInt8) then (some (t162 == 1)) else (some false)) else (some false)) else (some false)) else (some false)) else (some false)) = some r := H
  have A3 := Aside0.mk A30
  clear A30
  by_cases c4 : t154 = 0
  ·
   rw [if_pos c4] at H
   have c4b0 : (t154 == 0) = true := beq_iff_eq.mpr c4
   have c4b1 : (t154 != 0) = false := bne_eq_false_iff_eq.mpr c4
   clear c4
   by_cases c5 : (t153.size : Int) = 20
   ·
    rw [if_pos c5] at H
    have c5b0 : ((t153.size : Int) == 20) = true := beq_iff_eq.mpr c5
    have c5b1 : ((t153.size : Int) != 20) = false := bne_eq_false_iff_eq.mpr c5
    clear c5
    by_cases c6 : t166 = 0
    ·
     rw [if_pos c6] at H
     have c6b0 : (t166 == 0) = true := beq_iff_eq.mpr c6
     have c6b1 : (t166 != 0) = false := bne_eq_false_iff_eq.mpr c6
     clear c6
     by_cases c7 : t160 = 9
     ·
      rw [if_pos c7] at H
      have c7b0 : (t160 == 9) = true := beq_iff_eq.mpr c7
      have c7b1 : (t160 != 9) = false := bne_eq_false_iff_eq.mpr c7
      clear c7
      by_cases c8 : t165.toList = ([] : List UInt8)
      ·
       rw [if_pos c8] at H
       have c8b0 : (t165.toList == ([] : List UInt8)) = true := beq_iff_eq.mpr c8
       have c8b1 : (t165.toList != ([] : List UInt8)) = false := bne_eq_false_iff_eq.mpr c8
       clear c8
       obtain rfl := Option.some.inj H
       go_enter Try.func15, Try.ntmps15
       go_wp2_with (first | ((with_reducible refine gate_callee (f := 16) rfl ?_); refine goesL_ (some 8) rfl rfl Try.func16 (by kernel_rfl) rfl #[.agg #[.int .i64 0, .int .i64 0, .bool false, .bool false, .int .i64 0, .int .i64 9, .int .i64 6, .int .u32 1, .int .u32 2, .string (⟨#[]⟩ : ByteArray)], .string (⟨#[]⟩ : ByteArray)] rfl (by (try simp only [List.map_toArray, List.map_cons, List.map_nil]); first | done | rfl | (simp only [List.length_drop, List.length_take]; rfl)) ?_; (with_reducible refine (ipv4_Put.calls k 0 0 false false 0 9 6 1 2 (⟨#[]⟩ : ByteArray) (⟨#[]⟩ : ByteArray) t153 t154 _ A1.out).mono ?_); rintro e w9 ⟨rfl, hb⟩; refine ⟨_, rfl, ?_⟩; have n0_ := Aside0.mk (below_step (by repeat (first | (with_reducible first | exact HB.out | apply below_alloc | apply pw_below_drewN | apply below_drew1) | exact HB.out)) hb); clear HB; have HB := n0_; clear n0_; (try clear hb); (try clear hb2); (try clear hk); (try clear hi)) | ((with_reducible refine gate_callee (f := 18) rfl ?_); refine goesL_ (some 14) rfl rfl Try.func18 (by kernel_rfl) rfl #[.string (t153 ++ (⟨#[109, 111, 114, 101]⟩ : ByteArray))] rfl (by (try simp only [List.map_toArray, List.map_cons, List.map_nil]); first | done | rfl | (simp only [List.length_drop, List.length_take]; rfl)) ?_; (with_reducible refine (ipv4_Get.calls k (t153 ++ (⟨#[109, 111, 114, 101]⟩ : ByteArray)) t155 t156 t157 t158 t159 t160 t161 t162 t163 t164 t165 t166 _ A3.out).mono ?_); rintro e w10 ⟨rfl, hb⟩; refine ⟨_, rfl, ?_⟩; have n0_ := Aside0.mk (below_step (by repeat (first | (with_reducible first | exact HB.out | apply below_alloc | apply pw_below_drewN | apply below_drew1) | exact HB.out)) hb); clear HB; have HB := n0_; clear n0_; (try clear hb); (try clear hb2); (try clear hk); (try clear hi)) | ((with_reducible refine gate_dst (N := 3) rfl ?_); (try (refine gate_guard (by rfl) ?_; dsimp only)); refine box_event ?hg (N := 3) ?hd (cs := #[.int .i64 0, .int .i64 0, .bool false, .bool false, .int .i64 0, .int .i64 0, .int .i64 0, .int .u32 0, .int .u32 0, .string (⟨#[]⟩ : ByteArray)]) (t := 24) ?hr ?_; (case hd => rfl); (case hg => rfl); (case hr => first | (go_simp; done) | (go_simp; rfl)); intro gb167 hg w11 hbox hb; have n0_ := Aside0.mk (below_step (by repeat (first | (with_reducible first | exact HB.out | apply below_alloc | apply pw_below_drewN | apply below_drew1) | exact HB.out)) hb); have n1_ := Aside0.mk (hbox); have n2_ := Aside0.mk ((by rw [hg]; exact (below_size (by repeat (first | (with_reducible first | exact HB.out | apply below_alloc | apply pw_below_drewN | apply below_drew1) | exact HB.out))) : w.heap.size ≤ gb167)); have n3_ := Aside0.mk ((by rw [hg]; exact (below_size (by repeat (first | (with_reducible first | exact HB.out | apply below_alloc | apply pw_below_drewN | apply below_drew1) | exact HB.out))) : w.heap.size ≤ gb167)); clear HB; have HB := n0_; have BK167 := n1_; have GW167 := n2_; have GE167 := n3_; clear n0_ n1_ n2_ n3_; clear hb hbox hg; have hcz12_0 : w11.cell? ⟨gb167, 0, none⟩ = some (.int .i64 0) := (blk_cell BK167.out 0).trans rfl; have hcz12_1 : w11.cell? ⟨gb167, 1, none⟩ = some (.int .i64 0) := (blk_cell BK167.out 1).trans rfl; have hcz12_2 : w11.cell? ⟨gb167, 2, none⟩ = some (.bool false) := (blk_cell BK167.out 2).trans rfl; have hcz12_3 : w11.cell? ⟨gb167, 3, none⟩ = some (.bool false) := (blk_cell BK167.out 3).trans rfl; have hcz12_4 : w11.cell? ⟨gb167, 4, none⟩ = some (.int .i64 0) := (blk_cell BK167.out 4).trans rfl; have hcz12_5 : w11.cell? ⟨gb167, 5, none⟩ = some (.int .i64 0) := (blk_cell BK167.out 5).trans rfl; have hcz12_6 : w11.cell? ⟨gb167, 6, none⟩ = some (.int .i64 0) := (blk_cell BK167.out 6).trans rfl; have hcz12_7 : w11.cell? ⟨gb167, 7, none⟩ = some (.int .u32 0) := (blk_cell BK167.out 7).trans rfl; have hcz12_8 : w11.cell? ⟨gb167, 8, none⟩ = some (.int .u32 0) := (blk_cell BK167.out 8).trans rfl; have hcz12_9 : w11.cell? ⟨gb167, 9, none⟩ = some (.string (⟨#[]⟩ : ByteArray)) := (blk_cell BK167.out 9).trans rfl; have hfz12_0 := blk_frozen BK167.out 0; have hfz12_1 := blk_frozen BK167.out 1; have hfz12_2 := blk_frozen BK167.out 2; have hfz12_3 := blk_frozen BK167.out 3; have hfz12_4 := blk_frozen BK167.out 4; have hfz12_5 := blk_frozen BK167.out 5; have hfz12_6 := blk_frozen BK167.out 6; have hfz12_7 := blk_frozen BK167.out 7; have hfz12_8 := blk_frozen BK167.out 8; have hfz12_9 := blk_frozen BK167.out 9))
       go_ret
       exact ⟨by first | rfl | (simp [errW_none, errW_some] <;> rfl) | (simp [*, errW_none, errW_some] <;> rfl), by repeat (first | (with_reducible first | exact HB.out | apply below_alloc | apply pw_below_drewN | apply below_drew1 | refine below_set ?_ GE167.out) | exact HB.out)⟩
      ·
       rw [if_neg c8] at H
       have c8b0 : (t165.toList == ([] : List UInt8)) = false := beq_eq_false_iff_ne.mpr c8
       have c8b1 : (t165.toList != ([] : List UInt8)) = true := bne_iff_ne.mpr c8
       exact absurd ((Option.some.inj H).trans HR.out) (by decide)
     ·
      rw [if_neg c7] at H
      have c7b0 : (t160 == 9) = false := beq_eq_false_iff_ne.mpr c7
      have c7b1 : (t160 != 9) = true := bne_iff_ne.mpr c7
      exact absurd ((Option.some.inj H).trans HR.out) (by decide)
    ·
     rw [if_neg c6] at H
     have c6b0 : (t166 == 0) = false := beq_eq_false_iff_ne.mpr c6
     have c6b1 : (t166 != 0) = true := bne_iff_ne.mpr c6
     exact absurd ((Option.some.inj H).trans HR.out) (by decide)
   ·
    rw [if_neg c5] at H
    have c5b0 : ((t153.size : Int) == 20) = false := beq_eq_false_iff_ne.mpr c5
    have c5b1 : ((t153.size : Int) != 20) = true := bne_iff_ne.mpr c5
    exact absurd ((Option.some.inj H).trans HR.out) (by decide)
  ·
   rw [if_neg c4] at H
   have c4b0 : (t154 == 0) = false := beq_eq_false_iff_ne.mpr c4
   have c4b1 : (t154 != 0) = true := bne_iff_ne.mpr c4
   exact absurd ((Option.some.inj H).trans HR.out) (by decide)
 ·
  rw [if_neg c2] at H
  exact absurd H (by simp)

/-! ### rampartlaw00_Place: function 23 -/
def rampartlaw00_Place.f (a0 : Int) (a1 : Int) : Option (Int) := if a1 = 0 then (none) else (if (Int.tmod a0 a1) < 0 then (some (wrap64 ((Int.tmod a0 a1) + a1))) else (some (Int.tmod a0 a1)))
set_option maxHeartbeats 8000000 in
set_option maxRecDepth 100000 in
theorem rampartlaw00_Place.calls (a0 : Int) (a1 : Int) (r : Int) (w : World) (h : rampartlaw00_Place.f a0 a1 = some r) :
  Calls Try.prog 23 #[.int .i64 a0, .int .i64 a1] w fun e w' => e = .returned (.int .i64 r) ∧ Drawn0 w w' := by
 have H : (if a1 = 0 then (none) else (if (Int.tmod a0 a1) < 0 then (some (wrap64 ((Int.tmod a0 a1) + a1))) else (some (Int.tmod a0 a1)))) = some r := h
 clear h
 by_cases c3 : a1 = 0
 ·
  rw [if_pos c3] at H
  exact absurd H (by simp)
 ·
  rw [if_neg c3] at H
  have c3b0 : (a1 == 0) = false := beq_eq_false_iff_ne.mpr c3
  have c3b1 : (a1 != 0) = true := bne_iff_ne.mpr c3
  by_cases c4 : (Int.tmod a0 a1) < 0
  ·
   rw [if_pos c4] at H
   have c4b0 : decide ((Int.tmod a0 a1) < 0) = true := decide_eq_true c4
   clear c4
   obtain rfl := Option.some.inj H
   go_enter Try.func23, Try.ntmps23
   go_wp2
   go_ret
   exact ⟨by first | rfl | (simp; done) | (simp [*]; done), by repeat (first | exact Drawn0.refl _ | apply Drawn0.step)⟩
  ·
   rw [if_neg c4] at H
   have c4b0 : decide ((Int.tmod a0 a1) < 0) = false := decide_eq_false c4
   clear c4
   obtain rfl := Option.some.inj H
   go_enter Try.func23, Try.ntmps23
   go_wp2
   go_ret
   exact ⟨by first | rfl | (simp; done) | (simp [*]; done), by repeat (first | exact Drawn0.refl _ | apply Drawn0.step)⟩

end Go.Proofs.Ytgolimfljndnmaa.HV
