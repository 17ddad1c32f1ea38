/- What is proved: each Go function of this text answers as the plain Lean function beside it (a law: its given row, out of the plain statement). Conditions: those that stand in each theorem. Written by my drive.py, which calls the printer of the kit for what that covers. -/
import Derived.Test.YtgolimfljndnmaaHWx0
import Derived.Test.YtgolimfljndnmaaHWx1
import Derived.Test.YtgolimfljndnmaaHWx4
import Derived.Test.YtgolimfljndnmaaHWx7
namespace Go.Proofs.Ytgolimfljndnmaa.HW
open Go.RowKit Go.Proofs.YtgolimfljndnmaaW.PrintWords Go.Proofs.YtgolimfljndnmaaW.PrintLast Go.Proofs.YtgolimfljndnmaaW.PrintMore
attribute [local go_sem] max2_int min2_int max_two min_two max_three min_three max_four min_four   -- for this text's walks alone
set_option linter.unusedVariables false
set_option linter.unusedSimpArgs false

/-! ### rampartlaw04_awake: function 24 -/
def rampartlaw04_awake.f (k : Nat)  : Option (Bool) := (tcp_Put.f k 1 2 5 80 7 0 2 0 (⟨#[]⟩ : ByteArray) (⟨#[]⟩ : ByteArray)).bind fun bt150 => ((tcp_Get.f k 1 2 bt150.1).bind fun bt152 => (if bt150.2 = 0 then (if (bt150.1.size : Int) = 20 then (if bt152.2.2.2.2.2.2.2.2 = 0 then (if bt152.2.2.1 = 7 then (if bt152.2.1 = 80 then (if bt152.2.2.2.2.2.2.2.1.toList = ([] : List UInt8) then ((tcp_Check.f bt152.1 bt152.2.1 bt152.2.2.1 bt152.2.2.2.1 bt152.2.2.2.2.1 bt152.2.2.2.2.2.1 bt152.2.2.2.2.2.2.1).bind fun t162 => (some t162)) else (some false)) else (some false)) else (some false)) else (some false)) else (some false)) else (some false)))
theorem rampartlaw04_awake.mono : ∀ k, LeO (rampartlaw04_awake.f k ) (rampartlaw04_awake.f (k + 1) ) := by
 intro  k
 unfold rampartlaw04_awake.f
 repeat' first
   | (with_reducible exact tcp_Get.mono _ _ _ _)
   | (with_reducible exact tcp_Put.mono _ _ _ _ _ _ _ _ _ _ _)
   | (with_reducible exact LeO.refl _)
   | (with_reducible exact LeO.none _)
   | (with_reducible refine LeO.ite ?_ ?_)
   | (with_reducible refine LeO.bind ?_ (fun _ => ?_))
   | exact tcp_Get.mono _ _ _ _
   | exact tcp_Put.mono _ _ _ _ _ _ _ _ _ _ _
   | exact LeO.none _
   | refine LeO.ite ?_ ?_
   | refine LeO.bind ?_ (fun _ => ?_)
set_option maxHeartbeats 8000000 in
set_option maxRecDepth 100000 in
theorem rampartlaw04_awake.calls (k : Nat)  (r : Bool) (w : World) (h : rampartlaw04_awake.f k  = some r) (HR0 : r = true) :
  Calls Try.prog 24 #[] w fun e w' => e = .returned (.bool r) ∧ Below w.heap.size w w' := by
 have HR := Aside0.mk HR0
 clear HR0
 have hu42 := Try.underlying42
 have HB := Aside0.mk (Below.refl w.heap.size w)
 have H : ((tcp_Put.f k 1 2 5 80 7 0 2 0 (⟨#[]⟩ : ByteArray) (⟨#[]⟩ : ByteArray)).bind fun bt150 => ((tcp_Get.f k 1 2 bt150.1).bind fun bt152 => (if bt150.2 = 0 then (if (bt150.1.size : Int) = 20 then (if bt152.2.2.2.2.2.2.2.2 = 0 then (if bt152.2.2.1 = 7 then (if bt152.2.1 = 80 then (if bt152.2.2.2.2.2.2.2.1.toList = ([] : List UInt8) then ((tcp_Check.f bt152.1 bt152.2.1 bt152.2.2.1 bt152.2.2.2.1 bt152.2.2.2.2.1 bt152.2.2.2.2.2.1 bt152.2.2.2.2.2.2.1).bind fun t162 => (some t162)) else (some false)) else (some false)) else (some false)) else (some false)) else (some false)) else (some false)))) = some r := h
 clear h
 replace H := Option.bind_eq_some_iff.mp H
 obtain ⟨⟨t150, t151⟩, A10, H⟩ := H
 replace H : ((tcp_Get.f k 1 2 t150).bind fun bt152 => (if t151 = 0 then (if (t150.size : Int) = 20 then (if bt152.2.2.2.2.2.2.2.2 = 0 then (if bt152.2.2.1 = 7 then (if bt152.2.1 = 80 then (if bt152.2.2.2.2.2.2.2.1.toList = ([] : List UInt8) then ((tcp_Check.f bt152.1 bt152.2.1 bt152.2.2.1 bt152.2.2.2.1 bt152.2.2.2.2.1 bt152.2.2.2.2.2.1 bt152.2.2.2.2.2.2.1).bind fun t162 => (some t162)) else (some false)) else (some false)) else (some false)) else (some false)) else (some false)) else (some false))) = some r := H
 have A1 := Aside0.mk A10
 clear A10
 replace H := Option.bind_eq_some_iff.mp H
 obtain ⟨⟨t152, t153, t154, t155, t156, t157, t158, t159, t160⟩, A20, H⟩ := H
 replace H : (if t151 = 0 then (if (t150.size : Int) = 20 then (if t160 = 0 then (if t154 = 7 then (if t153 = 80 then (if t159.toList = ([] : List UInt8) then ((tcp_Check.f t152 t153 t154 t155 t156 t157 t158).bind fun t162 => (some t162)) else (some false)) else (some false)) else (some false)) else (some false)) else (some false)) else (some false)) = some r := H
 have A2 := Aside0.mk A20
 clear A20
 by_cases c3 : t151 = 0
 ·
  rw [if_pos c3] at H
  have c3b0 : (t151 == 0) = true := beq_iff_eq.mpr c3
  have c3b1 : (t151 != 0) = false := bne_eq_false_iff_eq.mpr c3
  clear c3
  by_cases c4 : (t150.size : Int) = 20
  ·
   rw [if_pos c4] at H
   have c4b0 : ((t150.size : Int) == 20) = true := beq_iff_eq.mpr c4
   have c4b1 : ((t150.size : Int) != 20) = false := bne_eq_false_iff_eq.mpr c4
   clear c4
   by_cases c5 : t160 = 0
   ·
    rw [if_pos c5] at H
    have c5b0 : (t160 == 0) = true := beq_iff_eq.mpr c5
    have c5b1 : (t160 != 0) = false := bne_eq_false_iff_eq.mpr c5
    clear c5
    by_cases c6 : t154 = 7
    ·
     rw [if_pos c6] at H
     have c6b0 : (t154 == 7) = true := beq_iff_eq.mpr c6
     have c6b1 : (t154 != 7) = false := bne_eq_false_iff_eq.mpr c6
     clear c6
     by_cases c7 : t153 = 80
     ·
      rw [if_pos c7] at H
      have c7b0 : (t153 == 80) = true := beq_iff_eq.mpr c7
      have c7b1 : (t153 != 80) = false := bne_eq_false_iff_eq.mpr c7
      clear c7
      by_cases c8 : t159.toList = ([] : List UInt8)
      ·
       rw [if_pos c8] at H
       have c8b0 : (t159.toList == ([] : List UInt8)) = true := beq_iff_eq.mpr c8
       have c8b1 : (t159.toList != ([] : List UInt8)) = false := bne_eq_false_iff_eq.mpr c8
       clear c8
       replace H := Option.bind_eq_some_iff.mp H
       obtain ⟨t162, A90, H⟩ := H
       replace H : (some t162) = some r := H
       have A9 := Aside0.mk A90
       clear A90
       obtain rfl := Option.some.inj H
       go_enter Try.func24, Try.ntmps24
       go_wp2_with (first | ((with_reducible refine gate_callee (f := 25) rfl ?_); refine goesL_ (some 8) rfl rfl Try.func25 (by kernel_rfl) rfl #[.int .u32 1, .int .u32 2, .agg #[.int .i64 5, .int .i64 80, .int .u32 7, .int .u32 0, .int .i64 2, .int .i64 0, .string (⟨#[]⟩ : ByteArray)], .string (⟨#[]⟩ : ByteArray)] rfl (by (try simp only [List.map_toArray, List.map_cons, List.map_nil]); first | done | rfl | (simp only [List.length_drop, List.length_take]; rfl)) ?_; (with_reducible refine (tcp_Put.calls k 1 2 5 80 7 0 2 0 (⟨#[]⟩ : ByteArray) (⟨#[]⟩ : ByteArray) t150 t151 _ A1.out).mono ?_); rintro e w10 ⟨rfl, hb⟩; refine ⟨_, rfl, ?_⟩; have n0_ := Aside0.mk (below_step (by repeat (first | (with_reducible first | exact HB.out | apply below_alloc | apply pw_below_drewN | apply below_drew1) | exact HB.out)) hb); clear HB; have HB := n0_; clear n0_; (try clear hb); (try clear hb2); (try clear hk); (try clear hi)) | ((with_reducible refine gate_callee (f := 27) rfl ?_); refine goesL_ (some 13) rfl rfl Try.func27 (by kernel_rfl) rfl #[.int .u32 1, .int .u32 2, .string t150] rfl (by (try simp only [List.map_toArray, List.map_cons, List.map_nil]); first | done | rfl | (simp only [List.length_drop, List.length_take]; rfl)) ?_; (with_reducible refine (tcp_Get.calls k 1 2 t150 t152 t153 t154 t155 t156 t157 t158 t159 t160 _ A2.out).mono ?_); rintro e w11 ⟨rfl, hb⟩; refine ⟨_, rfl, ?_⟩; have n0_ := Aside0.mk (below_step (by repeat (first | (with_reducible first | exact HB.out | apply below_alloc | apply pw_below_drewN | apply below_drew1) | exact HB.out)) hb); clear HB; have HB := n0_; clear n0_; (try clear hb); (try clear hb2); (try clear hk); (try clear hi)) | ((with_reducible refine gate_dst (N := 3) rfl ?_); (try (refine gate_guard (by rfl) ?_; dsimp only)); refine box_event ?hg (N := 3) ?hd (cs := #[.int .i64 0, .int .i64 0, .int .u32 0, .int .u32 0, .int .i64 0, .int .i64 0, .string (⟨#[]⟩ : ByteArray)]) (t := 42) ?hr ?_; (case hd => rfl); (case hg => rfl); (case hr => first | (go_simp; done) | (go_simp; rfl)); intro gb161 hg w12 hbox hb; have n0_ := Aside0.mk (below_step (by repeat (first | (with_reducible first | exact HB.out | apply below_alloc | apply pw_below_drewN | apply below_drew1) | exact HB.out)) hb); have n1_ := Aside0.mk (hbox); have n2_ := Aside0.mk ((by rw [hg]; exact (below_size (by repeat (first | (with_reducible first | exact HB.out | apply below_alloc | apply pw_below_drewN | apply below_drew1) | exact HB.out))) : w.heap.size ≤ gb161)); have n3_ := Aside0.mk ((by rw [hg]; exact (below_size (by repeat (first | (with_reducible first | exact HB.out | apply below_alloc | apply pw_below_drewN | apply below_drew1) | exact HB.out))) : w.heap.size ≤ gb161)); clear HB; have HB := n0_; have BK161 := n1_; have GW161 := n2_; have GE161 := n3_; clear n0_ n1_ n2_ n3_; clear hb hbox hg; have hcz13_0 : w12.cell? ⟨gb161, 0, none⟩ = some (.int .i64 0) := (blk_cell BK161.out 0).trans rfl; have hcz13_1 : w12.cell? ⟨gb161, 1, none⟩ = some (.int .i64 0) := (blk_cell BK161.out 1).trans rfl; have hcz13_2 : w12.cell? ⟨gb161, 2, none⟩ = some (.int .u32 0) := (blk_cell BK161.out 2).trans rfl; have hcz13_3 : w12.cell? ⟨gb161, 3, none⟩ = some (.int .u32 0) := (blk_cell BK161.out 3).trans rfl; have hcz13_4 : w12.cell? ⟨gb161, 4, none⟩ = some (.int .i64 0) := (blk_cell BK161.out 4).trans rfl; have hcz13_5 : w12.cell? ⟨gb161, 5, none⟩ = some (.int .i64 0) := (blk_cell BK161.out 5).trans rfl; have hcz13_6 : w12.cell? ⟨gb161, 6, none⟩ = some (.string (⟨#[]⟩ : ByteArray)) := (blk_cell BK161.out 6).trans rfl; have hfz13_0 := blk_frozen BK161.out 0; have hfz13_1 := blk_frozen BK161.out 1; have hfz13_2 := blk_frozen BK161.out 2; have hfz13_3 := blk_frozen BK161.out 3; have hfz13_4 := blk_frozen BK161.out 4; have hfz13_5 := blk_frozen BK161.out 5; have hfz13_6 := blk_frozen BK161.out 6) | (go_at_call 29; (with_reducible refine (tcp_Check.calls t152 t153 t154 t155 t156 t157 t158 t162 _ A9.out).mono ?_); rintro e w14 ⟨rfl, hb⟩; have n0_ := Aside0.mk (blk_below (g := gb161) (o := .cells #[.int .i64 t152, .int .i64 t153, .int .u32 t154, .int .u32 t155, .int .i64 t156, .int .i64 t157, .string t158] 42 (0, 0)) (by (with_reducible repeat (first | refine blk_drewN ?_ _ | refine blk_drew ?_ | refine blk_alloc ?_ _)); refine blk_put (cs := #[.int .i64 t152, .int .i64 t153, .int .u32 t154, .int .u32 t155, .int .i64 t156, .int .i64 t157, .string (⟨#[]⟩ : ByteArray)]) ?_ 6 _ rfl; (with_reducible repeat (first | refine blk_drewN ?_ _ | refine blk_drew ?_ | refine blk_alloc ?_ _)); refine blk_put (cs := #[.int .i64 t152, .int .i64 t153, .int .u32 t154, .int .u32 t155, .int .i64 t156, .int .i64 0, .string (⟨#[]⟩ : ByteArray)]) ?_ 5 _ rfl; (with_reducible repeat (first | refine blk_drewN ?_ _ | refine blk_drew ?_ | refine blk_alloc ?_ _)); refine blk_put (cs := #[.int .i64 t152, .int .i64 t153, .int .u32 t154, .int .u32 t155, .int .i64 0, .int .i64 0, .string (⟨#[]⟩ : ByteArray)]) ?_ 4 _ rfl; (with_reducible repeat (first | refine blk_drewN ?_ _ | refine blk_drew ?_ | refine blk_alloc ?_ _)); refine blk_put (cs := #[.int .i64 t152, .int .i64 t153, .int .u32 t154, .int .u32 0, .int .i64 0, .int .i64 0, .string (⟨#[]⟩ : ByteArray)]) ?_ 3 _ rfl; (with_reducible repeat (first | refine blk_drewN ?_ _ | refine blk_drew ?_ | refine blk_alloc ?_ _)); refine blk_put (cs := #[.int .i64 t152, .int .i64 t153, .int .u32 0, .int .u32 0, .int .i64 0, .int .i64 0, .string (⟨#[]⟩ : ByteArray)]) ?_ 2 _ rfl; (with_reducible repeat (first | refine blk_drewN ?_ _ | refine blk_drew ?_ | refine blk_alloc ?_ _)); refine blk_put (cs := #[.int .i64 t152, .int .i64 0, .int .u32 0, .int .u32 0, .int .i64 0, .int .i64 0, .string (⟨#[]⟩ : ByteArray)]) ?_ 1 _ rfl; (with_reducible repeat (first | refine blk_drewN ?_ _ | refine blk_drew ?_ | refine blk_alloc ?_ _)); refine blk_put (cs := #[.int .i64 0, .int .i64 0, .int .u32 0, .int .u32 0, .int .i64 0, .int .i64 0, .string (⟨#[]⟩ : ByteArray)]) ?_ 0 _ rfl; (with_reducible repeat (first | refine blk_drewN ?_ _ | refine blk_drew ?_ | refine blk_alloc ?_ _)); exact BK161.out) hb); have n1_ := Aside0.mk (below_step (by repeat (first | (with_reducible first | exact HB.out | apply below_alloc | apply pw_below_drewN | apply below_drew1 | refine below_set ?_ GE161.out) | exact HB.out)) hb); clear BK161; clear HB; have BK161 := n0_; have HB := n1_; clear n0_ n1_; (try clear hb); (try clear hb2); (try clear hk); (try clear hi)))
       go_ret
       exact ⟨by first | rfl | (simp [errW_none, errW_some] <;> rfl) | (simp [*, errW_none, errW_some] <;> rfl), by repeat (first | (with_reducible first | exact HB.out | apply below_alloc | apply pw_below_drewN | apply below_drew1 | refine below_set ?_ GE161.out) | exact HB.out)⟩
      ·
       rw [if_neg c8] at H
       have c8b0 : (t159.toList == ([] : List UInt8)) = false := beq_eq_false_iff_ne.mpr c8
       have c8b1 : (t159.toList != ([] : List UInt8)) = true := bne_iff_ne.mpr c8
       exact absurd ((Option.some.inj H).trans HR.out) (by decide)
     ·
      rw [if_neg c7] at H
      have c7b0 : (t153 == 80) = false := beq_eq_false_iff_ne.mpr c7
      have c7b1 : (t153 != 80) = true := bne_iff_ne.mpr c7
      exact absurd ((Option.some.inj H).trans HR.out) (by decide)
    ·
     rw [if_neg c6] at H
     have c6b0 : (t154 == 7) = false := beq_eq_false_iff_ne.mpr c6
     have c6b1 : (t154 != 7) = true := bne_iff_ne.mpr c6
     exact absurd ((Option.some.inj H).trans HR.out) (by decide)
   ·
    rw [if_neg c5] at H
    have c5b0 : (t160 == 0) = false := beq_eq_false_iff_ne.mpr c5
    have c5b1 : (t160 != 0) = true := bne_iff_ne.mpr c5
    exact absurd ((Option.some.inj H).trans HR.out) (by decide)
  ·
   rw [if_neg c4] at H
   have c4b0 : ((t150.size : Int) == 20) = false := beq_eq_false_iff_ne.mpr c4
   have c4b1 : ((t150.size : Int) != 20) = true := bne_iff_ne.mpr c4
   exact absurd ((Option.some.inj H).trans HR.out) (by decide)
 ·
  rw [if_neg c3] at H
  have c3b0 : (t151 == 0) = false := beq_eq_false_iff_ne.mpr c3
  have c3b1 : (t151 != 0) = true := bne_iff_ne.mpr c3
  exact absurd ((Option.some.inj H).trans HR.out) (by decide)

end Go.Proofs.Ytgolimfljndnmaa.HW
