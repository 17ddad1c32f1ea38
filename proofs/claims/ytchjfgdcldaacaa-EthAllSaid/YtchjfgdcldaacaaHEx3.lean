/- What is proved: each Go function of this text answers as the plain Lean function beside it (a law: its given row, out of the plain statement). Conditions: those that stand in each theorem. Written by my drive.py, which calls the printer of the kit for what that covers. -/
import Derived.Test.YtchjfgdcldaacaaHEx0
import Derived.Test.YtchjfgdcldaacaaHEx2
namespace Go.Proofs.Ytchjfgdcldaacaa.HE
open Go.RowKit Go.Proofs.YtchjfgdcldaacaaW.PrintWords Go.Proofs.YtchjfgdcldaacaaW.PrintLast Go.Proofs.YtchjfgdcldaacaaW.PrintMore
attribute [local go_sem] max2_int min2_int max_two min_two max_three min_three max_four min_four   -- for this text's walks alone
set_option linter.unusedVariables false
set_option linter.unusedSimpArgs false

/-! ### rampartlaw02_awake: function 14 -/
def rampartlaw02_awake.f  : Option (Bool) := (eth_Get.f (⟨#[48, 49, 50, 51, 52, 53, 54, 55, 56, 57, 48, 49, 50]⟩ : ByteArray)).bind fun bt104 => ((eth_Get.f (⟨#[100, 100, 100, 100, 100, 100, 115, 115, 115, 115, 115, 115, 8, 0, 120]⟩ : ByteArray)).bind fun bt120 => (if bt104.2.2.2.2.2.2.2.2.2.2.2.2.2.2 = 2 then (if bt120.2.2.2.2.2.2.2.2.2.2.2.2.2.2 = 0 then (if bt120.2.2.2.2.2.2.2.2.2.2.2.2.1 = 2048 then (if bt120.2.2.2.2.2.2.2.2.2.2.2.2.2.1.toList = ([120] : List UInt8) then (if bt120.1 = 100 then (some (bt120.2.2.2.2.2.2.2.2.2.2.2.1 == 115)) else (some false)) else (some false)) else (some false)) else (some false)) else (some false)))
set_option maxHeartbeats 8000000 in
set_option maxRecDepth 100000 in
theorem rampartlaw02_awake.calls  (r : Bool) (w : World) (h : rampartlaw02_awake.f  = some r) (HR0 : r = true) :
  Calls Try.prog 14 #[] w fun e w' => e = .returned (.bool r) ∧ Below w.heap.size w w' := by
 have HR := Aside0.mk HR0
 clear HR0
 have hu26 := Try.underlying26
 have hu24 := Try.underlying24
 have HB := Aside0.mk (Below.refl w.heap.size w)
 have H : ((eth_Get.f (⟨#[48, 49, 50, 51, 52, 53, 54, 55, 56, 57, 48, 49, 50]⟩ : ByteArray)).bind fun bt104 => ((eth_Get.f (⟨#[100, 100, 100, 100, 100, 100, 115, 115, 115, 115, 115, 115, 8, 0, 120]⟩ : ByteArray)).bind fun bt120 => (if bt104.2.2.2.2.2.2.2.2.2.2.2.2.2.2 = 2 then (if bt120.2.2.2.2.2.2.2.2.2.2.2.2.2.2 = 0 then (if bt120.2.2.2.2.2.2.2.2.2.2.2.2.1 = 2048 then (if bt120.2.2.2.2.2.2.2.2.2.2.2.2.2.1.toList = ([120] : List UInt8) then (if bt120.1 = 100 then (some (bt120.2.2.2.2.2.2.2.2.2.2.2.1 == 115)) else (some false)) else (some false)) else (some false)) else (some false)) else (some false)))) = some r := h
 clear h
 replace H := Option.bind_eq_some_iff.mp H
 obtain ⟨⟨t104, t105, t106, t107, t108, t109, t110, t111, t112, t113, t114, t115, t116, t117, t118⟩, A10, H⟩ := H
 replace H : ((eth_Get.f (⟨#[100, 100, 100, 100, 100, 100, 115, 115, 115, 115, 115, 115, 8, 0, 120]⟩ : ByteArray)).bind fun bt120 => (if t118 = 2 then (if bt120.2.2.2.2.2.2.2.2.2.2.2.2.2.2 = 0 then (if bt120.2.2.2.2.2.2.2.2.2.2.2.2.1 = 2048 then (if bt120.2.2.2.2.2.2.2.2.2.2.2.2.2.1.toList = ([120] : List UInt8) then (if bt120.1 = 100 then (some (bt120.2.2.2.2.2.2.2.2.2.2.2.1 == 115)) else (some false)) else (some false)) else (some false)) else (some false)) else (some false))) = some r := H
 have A1 := Aside0.mk A10
 clear A10
 replace H := Option.bind_eq_some_iff.mp H
 obtain ⟨⟨t120, t121, t122, t123, t124, t125, t126, t127, t128, t129, t130, t131, t132, t133, t134⟩, A20, H⟩ := H
 replace H : (if t118 = 2 then (if t134 = 0 then (if t132 = 2048 then (if t133.toList = ([120] : List UInt8) then (if t120 = 100 then (some (t131 == 115)) else (some false)) else (some false)) else (some false)) else (some false)) else (some false)) = some r := H
 have A2 := Aside0.mk A20
 clear A20
 by_cases c3 : t118 = 2
 ·
  rw [if_pos c3] at H
  have c3b0 : (t118 == 2) = true := beq_iff_eq.mpr c3
  have c3b1 : (t118 != 2) = false := bne_eq_false_iff_eq.mpr c3
  clear c3
  by_cases c4 : t134 = 0
  ·
   rw [if_pos c4] at H
   have c4b0 : (t134 == 0) = true := beq_iff_eq.mpr c4
   have c4b1 : (t134 != 0) = false := bne_eq_false_iff_eq.mpr c4
   clear c4
   by_cases c5 : t132 = 2048
   ·
    rw [if_pos c5] at H
    have c5b0 : (t132 == 2048) = true := beq_iff_eq.mpr c5
    have c5b1 : (t132 != 2048) = false := bne_eq_false_iff_eq.mpr c5
    clear c5
    by_cases c6 : t133.toList = ([120] : List UInt8)
    ·
     rw [if_pos c6] at H
     have c6b0 : (t133.toList == ([120] : List UInt8)) = true := beq_iff_eq.mpr c6
     have c6b1 : (t133.toList != ([120] : List UInt8)) = false := bne_eq_false_iff_eq.mpr c6
     clear c6
     by_cases c7 : t120 = 100
     ·
      rw [if_pos c7] at H
      have c7b0 : (t120 == 100) = true := beq_iff_eq.mpr c7
      have c7b1 : (t120 != 100) = false := bne_eq_false_iff_eq.mpr c7
      clear c7
      obtain rfl := Option.some.inj H
      go_enter Try.func14, Try.ntmps14
      go_wp2_with (first | ((with_reducible refine gate_callee (f := 13) rfl ?_); refine goesL_ (some 8) rfl rfl Try.func13 (by kernel_rfl) rfl #[.string (⟨#[48, 49, 50, 51, 52, 53, 54, 55, 56, 57, 48, 49, 50]⟩ : ByteArray)] rfl (by (try simp only [List.map_toArray, List.map_cons, List.map_nil]); first | done | rfl | (simp only [List.length_drop, List.length_take]; rfl)) ?_; (with_reducible refine (eth_Get.calls (⟨#[48, 49, 50, 51, 52, 53, 54, 55, 56, 57, 48, 49, 50]⟩ : ByteArray) t104 t105 t106 t107 t108 t109 t110 t111 t112 t113 t114 t115 t116 t117 t118 _ A1.out).mono ?_); rintro e w8 ⟨rfl, hb⟩; refine ⟨_, rfl, ?_⟩; have n0_ := Aside0.mk (below_step (by repeat (first | (with_reducible first | exact HB.out | apply below_alloc | apply pw_below_drewN | apply below_drew1) | exact HB.out)) hb); clear HB; have HB := n0_; clear n0_; (try clear hb); (try clear hb2); (try clear hk); (try clear hi)) | ((with_reducible refine gate_dst (N := 1) rfl ?_); refine box_event ?hg (N := 1) ?hd (cs := #[.int .u8 0, .int .u8 0, .int .u8 0, .int .u8 0, .int .u8 0, .int .u8 0, .int .u8 0, .int .u8 0, .int .u8 0, .int .u8 0, .int .u8 0, .int .u8 0, .int .i64 0]) (t := 26) ?hr ?_; (case hd => rfl); (case hg => rfl); (case hr => first | (go_simp; done) | (go_simp; rfl)); intro gb119 hg w9 hbox hb; have n0_ := Aside0.mk (below_step (by repeat (first | (with_reducible first | exact HB.out | apply below_alloc | apply pw_below_drewN | apply below_drew1) | exact HB.out)) hb); have n1_ := Aside0.mk (hbox); have n2_ := Aside0.mk ((by rw [hg]; exact (below_size (by repeat (first | (with_reducible first | exact HB.out | apply below_alloc | apply pw_below_drewN | apply below_drew1) | exact HB.out))) : w.heap.size ≤ gb119)); have n3_ := Aside0.mk ((by rw [hg]; exact (below_size (by repeat (first | (with_reducible first | exact HB.out | apply below_alloc | apply pw_below_drewN | apply below_drew1) | exact HB.out))) : w.heap.size ≤ gb119)); clear HB; have HB := n0_; have BK119 := n1_; have GW119 := n2_; have GE119 := n3_; clear n0_ n1_ n2_ n3_; clear hb hbox hg; have hcz10_0 : w9.cell? ⟨gb119, 0, none⟩ = some (.int .u8 0) := (blk_cell BK119.out 0).trans rfl; have hcz10_1 : w9.cell? ⟨gb119, 1, none⟩ = some (.int .u8 0) := (blk_cell BK119.out 1).trans rfl; have hcz10_2 : w9.cell? ⟨gb119, 2, none⟩ = some (.int .u8 0) := (blk_cell BK119.out 2).trans rfl; have hcz10_3 : w9.cell? ⟨gb119, 3, none⟩ = some (.int .u8 0) := (blk_cell BK119.out 3).trans rfl; have hcz10_4 : w9.cell? ⟨gb119, 4, none⟩ = some (.int .u8 0) := (blk_cell BK119.out 4).trans rfl; have hcz10_5 : w9.cell? ⟨gb119, 5, none⟩ = some (.int .u8 0) := (blk_cell BK119.out 5).trans rfl; have hcz10_6 : w9.cell? ⟨gb119, 6, none⟩ = some (.int .u8 0) := (blk_cell BK119.out 6).trans rfl; have hcz10_7 : w9.cell? ⟨gb119, 7, none⟩ = some (.int .u8 0) := (blk_cell BK119.out 7).trans rfl; have hcz10_8 : w9.cell? ⟨gb119, 8, none⟩ = some (.int .u8 0) := (blk_cell BK119.out 8).trans rfl; have hcz10_9 : w9.cell? ⟨gb119, 9, none⟩ = some (.int .u8 0) := (blk_cell BK119.out 9).trans rfl; have hcz10_10 : w9.cell? ⟨gb119, 10, none⟩ = some (.int .u8 0) := (blk_cell BK119.out 10).trans rfl; have hcz10_11 : w9.cell? ⟨gb119, 11, none⟩ = some (.int .u8 0) := (blk_cell BK119.out 11).trans rfl; have hcz10_12 : w9.cell? ⟨gb119, 12, none⟩ = some (.int .i64 0) := (blk_cell BK119.out 12).trans rfl; have hfz10_0 := blk_frozen BK119.out 0; have hfz10_1 := blk_frozen BK119.out 1; have hfz10_2 := blk_frozen BK119.out 2; have hfz10_3 := blk_frozen BK119.out 3; have hfz10_4 := blk_frozen BK119.out 4; have hfz10_5 := blk_frozen BK119.out 5; have hfz10_6 := blk_frozen BK119.out 6; have hfz10_7 := blk_frozen BK119.out 7; have hfz10_8 := blk_frozen BK119.out 8; have hfz10_9 := blk_frozen BK119.out 9; have hfz10_10 := blk_frozen BK119.out 10; have hfz10_11 := blk_frozen BK119.out 11; have hfz10_12 := blk_frozen BK119.out 12) | ((with_reducible refine gate_callee (f := 13) rfl ?_); refine goesL_ (some 13) rfl rfl Try.func13 (by kernel_rfl) rfl #[.string (⟨#[100, 100, 100, 100, 100, 100, 115, 115, 115, 115, 115, 115, 8, 0, 120]⟩ : ByteArray)] rfl (by (try simp only [List.map_toArray, List.map_cons, List.map_nil]); first | done | rfl | (simp only [List.length_drop, List.length_take]; rfl)) ?_; (with_reducible refine (eth_Get.calls (⟨#[100, 100, 100, 100, 100, 100, 115, 115, 115, 115, 115, 115, 8, 0, 120]⟩ : ByteArray) t120 t121 t122 t123 t124 t125 t126 t127 t128 t129 t130 t131 t132 t133 t134 _ A2.out).mono ?_); rintro e w11 ⟨rfl, hb⟩; refine ⟨_, rfl, ?_⟩; have n0_ := Aside0.mk (blk_below (g := gb119) (o := .cells #[.int .u8 t104, .int .u8 t105, .int .u8 t106, .int .u8 t107, .int .u8 t108, .int .u8 t109, .int .u8 t110, .int .u8 t111, .int .u8 t112, .int .u8 t113, .int .u8 t114, .int .u8 t115, .int .i64 t116] 26 (0, 0)) (by (with_reducible repeat (first | refine blk_drewN ?_ _ | refine blk_drew ?_ | refine blk_alloc ?_ _)); refine blk_put (cs := #[.int .u8 t104, .int .u8 t105, .int .u8 t106, .int .u8 t107, .int .u8 t108, .int .u8 t109, .int .u8 t110, .int .u8 t111, .int .u8 t112, .int .u8 t113, .int .u8 t114, .int .u8 t115, .int .i64 0]) ?_ 12 _ rfl; (with_reducible repeat (first | refine blk_drewN ?_ _ | refine blk_drew ?_ | refine blk_alloc ?_ _)); refine blk_put (cs := #[.int .u8 t104, .int .u8 t105, .int .u8 t106, .int .u8 t107, .int .u8 t108, .int .u8 t109, .int .u8 t110, .int .u8 t111, .int .u8 t112, .int .u8 t113, .int .u8 t114, .int .u8 0, .int .i64 0]) ?_ 11 _ rfl; (with_reducible repeat (first | refine blk_drewN ?_ _ | refine blk_drew ?_ | refine blk_alloc ?_ _)); refine blk_put (cs := #[.int .u8 t104, .int .u8 t105, .int .u8 t106, .int .u8 t107, .int .u8 t108, .int .u8 t109, .int .u8 t110, .int .u8 t111, .int .u8 t112, .int .u8 t113, .int .u8 0, .int .u8 0, .int .i64 0]) ?_ 10 _ rfl; (with_reducible repeat (first | refine blk_drewN ?_ _ | refine blk_drew ?_ | refine blk_alloc ?_ _)); refine blk_put (cs := #[.int .u8 t104, .int .u8 t105, .int .u8 t106, .int .u8 t107, .int .u8 t108, .int .u8 t109, .int .u8 t110, .int .u8 t111, .int .u8 t112, .int .u8 0, .int .u8 0, .int .u8 0, .int .i64 0]) ?_ 9 _ rfl; (with_reducible repeat (first | refine blk_drewN ?_ _ | refine blk_drew ?_ | refine blk_alloc ?_ _)); refine blk_put (cs := #[.int .u8 t104, .int .u8 t105, .int .u8 t106, .int .u8 t107, .int .u8 t108, .int .u8 t109, .int .u8 t110, .int .u8 t111, .int .u8 0, .int .u8 0, .int .u8 0, .int .u8 0, .int .i64 0]) ?_ 8 _ rfl; (with_reducible repeat (first | refine blk_drewN ?_ _ | refine blk_drew ?_ | refine blk_alloc ?_ _)); refine blk_put (cs := #[.int .u8 t104, .int .u8 t105, .int .u8 t106, .int .u8 t107, .int .u8 t108, .int .u8 t109, .int .u8 t110, .int .u8 0, .int .u8 0, .int .u8 0, .int .u8 0, .int .u8 0, .int .i64 0]) ?_ 7 _ rfl; (with_reducible repeat (first | refine blk_drewN ?_ _ | refine blk_drew ?_ | refine blk_alloc ?_ _)); refine blk_put (cs := #[.int .u8 t104, .int .u8 t105, .int .u8 t106, .int .u8 t107, .int .u8 t108, .int .u8 t109, .int .u8 0, .int .u8 0, .int .u8 0, .int .u8 0, .int .u8 0, .int .u8 0, .int .i64 0]) ?_ 6 _ rfl; (with_reducible repeat (first | refine blk_drewN ?_ _ | refine blk_drew ?_ | refine blk_alloc ?_ _)); refine blk_put (cs := #[.int .u8 t104, .int .u8 t105, .int .u8 t106, .int .u8 t107, .int .u8 t108, .int .u8 0, .int .u8 0, .int .u8 0, .int .u8 0, .int .u8 0, .int .u8 0, .int .u8 0, .int .i64 0]) ?_ 5 _ rfl; (with_reducible repeat (first | refine blk_drewN ?_ _ | refine blk_drew ?_ | refine blk_alloc ?_ _)); refine blk_put (cs := #[.int .u8 t104, .int .u8 t105, .int .u8 t106, .int .u8 t107, .int .u8 0, .int .u8 0, .int .u8 0, .int .u8 0, .int .u8 0, .int .u8 0, .int .u8 0, .int .u8 0, .int .i64 0]) ?_ 4 _ rfl; (with_reducible repeat (first | refine blk_drewN ?_ _ | refine blk_drew ?_ | refine blk_alloc ?_ _)); refine blk_put (cs := #[.int .u8 t104, .int .u8 t105, .int .u8 t106, .int .u8 0, .int .u8 0, .int .u8 0, .int .u8 0, .int .u8 0, .int .u8 0, .int .u8 0, .int .u8 0, .int .u8 0, .int .i64 0]) ?_ 3 _ rfl; (with_reducible repeat (first | refine blk_drewN ?_ _ | refine blk_drew ?_ | refine blk_alloc ?_ _)); refine blk_put (cs := #[.int .u8 t104, .int .u8 t105, .int .u8 0, .int .u8 0, .int .u8 0, .int .u8 0, .int .u8 0, .int .u8 0, .int .u8 0, .int .u8 0, .int .u8 0, .int .u8 0, .int .i64 0]) ?_ 2 _ rfl; (with_reducible repeat (first | refine blk_drewN ?_ _ | refine blk_drew ?_ | refine blk_alloc ?_ _)); refine blk_put (cs := #[.int .u8 t104, .int .u8 0, .int .u8 0, .int .u8 0, .int .u8 0, .int .u8 0, .int .u8 0, .int .u8 0, .int .u8 0, .int .u8 0, .int .u8 0, .int .u8 0, .int .i64 0]) ?_ 1 _ rfl; (with_reducible repeat (first | refine blk_drewN ?_ _ | refine blk_drew ?_ | refine blk_alloc ?_ _)); refine blk_put (cs := #[.int .u8 0, .int .u8 0, .int .u8 0, .int .u8 0, .int .u8 0, .int .u8 0, .int .u8 0, .int .u8 0, .int .u8 0, .int .u8 0, .int .u8 0, .int .u8 0, .int .i64 0]) ?_ 0 _ rfl; (with_reducible repeat (first | refine blk_drewN ?_ _ | refine blk_drew ?_ | refine blk_alloc ?_ _)); exact BK119.out) hb); have n1_ := Aside0.mk (below_step (by repeat (first | (with_reducible first | exact HB.out | apply below_alloc | apply pw_below_drewN | apply below_drew1 | refine below_set ?_ GE119.out) | exact HB.out)) hb); clear BK119; clear HB; have BK119 := n0_; have HB := n1_; clear n0_ n1_; (try clear hb); (try clear hb2); (try clear hk); (try clear hi)) | ((with_reducible refine gate_dst (N := 4) rfl ?_); refine box_event ?hg (N := 4) ?hd (cs := #[.int .u8 0, .int .u8 0, .int .u8 0, .int .u8 0, .int .u8 0, .int .u8 0, .int .u8 0, .int .u8 0, .int .u8 0, .int .u8 0, .int .u8 0, .int .u8 0, .int .i64 0]) (t := 26) ?hr ?_; (case hd => rfl); (case hg => rfl); (case hr => first | (go_simp; done) | (go_simp; rfl)); intro gb135 hg w12 hbox hb; have n0_ := Aside0.mk (blk_below (g := gb119) (o := .cells #[.int .u8 t104, .int .u8 t105, .int .u8 t106, .int .u8 t107, .int .u8 t108, .int .u8 t109, .int .u8 t110, .int .u8 t111, .int .u8 t112, .int .u8 t113, .int .u8 t114, .int .u8 t115, .int .i64 t116] 26 (0, 0)) (by (with_reducible repeat (first | refine blk_drewN ?_ _ | refine blk_drew ?_ | refine blk_alloc ?_ _)); exact BK119.out) hb); have n1_ := Aside0.mk (below_step (by repeat (first | (with_reducible first | exact HB.out | apply below_alloc | apply pw_below_drewN | apply below_drew1 | refine below_set ?_ GE119.out) | exact HB.out)) hb); have n2_ := Aside0.mk (hbox); have n3_ := Aside0.mk ((by rw [hg]; exact (below_size (by repeat (first | (with_reducible first | exact HB.out | apply below_alloc | apply pw_below_drewN | apply below_drew1 | refine below_set ?_ GE119.out) | exact HB.out))) : w.heap.size ≤ gb135)); have n4_ := Aside0.mk ((by rw [hg]; exact (below_size (by repeat (first | (with_reducible first | exact HB.out | apply below_alloc | apply pw_below_drewN | apply below_drew1 | refine below_set ?_ GE119.out) | exact HB.out))) : w.heap.size ≤ gb135)); have n5_ := Aside0.mk ((by rw [hg]; exact Nat.ne_of_lt (blk_lt (g := gb119) (o := .cells #[.int .u8 t104, .int .u8 t105, .int .u8 t106, .int .u8 t107, .int .u8 t108, .int .u8 t109, .int .u8 t110, .int .u8 t111, .int .u8 t112, .int .u8 t113, .int .u8 t114, .int .u8 t115, .int .i64 t116] 26 (0, 0)) (by (with_reducible repeat (first | refine blk_drewN ?_ _ | refine blk_drew ?_ | refine blk_alloc ?_ _)); exact BK119.out)) : gb119 ≠ gb135)); have n6_ := Aside0.mk ((by rw [hg]; exact Nat.ne_of_gt (blk_lt (g := gb119) (o := .cells #[.int .u8 t104, .int .u8 t105, .int .u8 t106, .int .u8 t107, .int .u8 t108, .int .u8 t109, .int .u8 t110, .int .u8 t111, .int .u8 t112, .int .u8 t113, .int .u8 t114, .int .u8 t115, .int .i64 t116] 26 (0, 0)) (by (with_reducible repeat (first | refine blk_drewN ?_ _ | refine blk_drew ?_ | refine blk_alloc ?_ _)); exact BK119.out)) : gb135 ≠ gb119)); clear BK119; clear HB; have BK119 := n0_; have HB := n1_; have BK135 := n2_; have GW135 := n3_; have GE135 := n4_; have NB119_135 := n5_; have NB135_119 := n6_; clear n0_ n1_ n2_ n3_ n4_ n5_ n6_; clear hb hbox hg; have hnb13 := NB135_119.out; have hnc13 := NB119_135.out; have hcz14_0 : w12.cell? ⟨gb135, 0, none⟩ = some (.int .u8 0) := (blk_cell BK135.out 0).trans rfl; have hcz14_1 : w12.cell? ⟨gb135, 1, none⟩ = some (.int .u8 0) := (blk_cell BK135.out 1).trans rfl; have hcz14_2 : w12.cell? ⟨gb135, 2, none⟩ = some (.int .u8 0) := (blk_cell BK135.out 2).trans rfl; have hcz14_3 : w12.cell? ⟨gb135, 3, none⟩ = some (.int .u8 0) := (blk_cell BK135.out 3).trans rfl; have hcz14_4 : w12.cell? ⟨gb135, 4, none⟩ = some (.int .u8 0) := (blk_cell BK135.out 4).trans rfl; have hcz14_5 : w12.cell? ⟨gb135, 5, none⟩ = some (.int .u8 0) := (blk_cell BK135.out 5).trans rfl; have hcz14_6 : w12.cell? ⟨gb135, 6, none⟩ = some (.int .u8 0) := (blk_cell BK135.out 6).trans rfl; have hcz14_7 : w12.cell? ⟨gb135, 7, none⟩ = some (.int .u8 0) := (blk_cell BK135.out 7).trans rfl; have hcz14_8 : w12.cell? ⟨gb135, 8, none⟩ = some (.int .u8 0) := (blk_cell BK135.out 8).trans rfl; have hcz14_9 : w12.cell? ⟨gb135, 9, none⟩ = some (.int .u8 0) := (blk_cell BK135.out 9).trans rfl; have hcz14_10 : w12.cell? ⟨gb135, 10, none⟩ = some (.int .u8 0) := (blk_cell BK135.out 10).trans rfl; have hcz14_11 : w12.cell? ⟨gb135, 11, none⟩ = some (.int .u8 0) := (blk_cell BK135.out 11).trans rfl; have hcz14_12 : w12.cell? ⟨gb135, 12, none⟩ = some (.int .i64 0) := (blk_cell BK135.out 12).trans rfl; have hfz14_0 := blk_frozen BK135.out 0; have hfz14_1 := blk_frozen BK135.out 1; have hfz14_2 := blk_frozen BK135.out 2; have hfz14_3 := blk_frozen BK135.out 3; have hfz14_4 := blk_frozen BK135.out 4; have hfz14_5 := blk_frozen BK135.out 5; have hfz14_6 := blk_frozen BK135.out 6; have hfz14_7 := blk_frozen BK135.out 7; have hfz14_8 := blk_frozen BK135.out 8; have hfz14_9 := blk_frozen BK135.out 9; have hfz14_10 := blk_frozen BK135.out 10; have hfz14_11 := blk_frozen BK135.out 11; have hfz14_12 := blk_frozen BK135.out 12))
      go_ret
      exact ⟨by first | rfl | (simp [errW_none, errW_some] <;> rfl) | (simp [*, errW_none, errW_some] <;> rfl), by repeat (first | (with_reducible first | exact HB.out | apply below_alloc | apply pw_below_drewN | apply below_drew1 | refine below_set ?_ GE119.out | refine below_set ?_ GE135.out) | exact HB.out)⟩
     ·
      rw [if_neg c7] at H
      have c7b0 : (t120 == 100) = false := beq_eq_false_iff_ne.mpr c7
      have c7b1 : (t120 != 100) = true := bne_iff_ne.mpr c7
      exact absurd ((Option.some.inj H).trans HR.out) (by decide)
    ·
     rw [if_neg c6] at H
     have c6b0 : (t133.toList == ([120] : List UInt8)) = false := beq_eq_false_iff_ne.mpr c6
     have c6b1 : (t133.toList != ([120] : List UInt8)) = true := bne_iff_ne.mpr c6
     exact absurd ((Option.some.inj H).trans HR.out) (by decide)
   ·
    rw [if_neg c5] at H
    have c5b0 : (t132 == 2048) = false := beq_eq_false_iff_ne.mpr c5
    have c5b1 : (t132 != 2048) = true := bne_iff_ne.mpr c5
    exact absurd ((Option.some.inj H).trans HR.out) (by decide)
  ·
   rw [if_neg c4] at H
   have c4b0 : (t134 == 0) = false := beq_eq_false_iff_ne.mpr c4
   have c4b1 : (t134 != 0) = true := bne_iff_ne.mpr c4
   exact absurd ((Option.some.inj H).trans HR.out) (by decide)
 ·
  rw [if_neg c3] at H
  have c3b0 : (t118 == 2) = false := beq_eq_false_iff_ne.mpr c3
  have c3b1 : (t118 != 2) = true := bne_iff_ne.mpr c3
  exact absurd ((Option.some.inj H).trans HR.out) (by decide)

/-! ### rampartref01_Num: function 27 -/
mutual
def rampartref01_Num.j0 : Nat → ByteArray → Option (Int)
 | 0, _ => none
 | k + 1, x0 => rampartref01_Num.l0 k x0 0 0
def rampartref01_Num.l0 : Nat → ByteArray → Int → Int → Option (Int)
 | 0, _, _, _ => none
 | k + 1, x0, x3, x4 => if x4 < (x0.size : Int) then (if 0 ≤ x4 then (rampartref01_Num.l0 k x0 (Go.bits .or .i64 (wrap64 (x3 * 256)) (wrap64 (bt x0 x4))) (wrap64 (x4 + 1))) else (none)) else (some x3)
end
def rampartref01_Num.f (k : Nat) (a0 : ByteArray) : Option (Int) := if (a0.size : Int) > 7 then (if 0 ≤ (wrap64 ((a0.size : Int) - 7)) then (if (wrap64 ((a0.size : Int) - 7)) ≤ (a0.size : Int) then (rampartref01_Num.j0 k (a0.extract ((wrap64 ((a0.size : Int) - 7)) : Int).toNat a0.size)) else (none)) else (none)) else (rampartref01_Num.j0 k a0)
theorem rampartref01_Num.mono_l : ∀ k, (∀ y0, LeO (rampartref01_Num.j0 k y0) (rampartref01_Num.j0 (k + 1) y0)) ∧ (∀ y0 y1 y2, LeO (rampartref01_Num.l0 k y0 y1 y2) (rampartref01_Num.l0 (k + 1) y0 y1 y2))
 | 0 => ⟨fun _ r h => by simp [rampartref01_Num.j0] at h, fun _ _ _ r h => by simp [rampartref01_Num.l0] at h⟩
 | k + 1 => by
  obtain ⟨ih0, ih1⟩ := rampartref01_Num.mono_l k
  refine ⟨?_, ?_⟩
  ·
   intro y0
   unfold rampartref01_Num.j0
   repeat' first
   | (with_reducible exact ih0 _)
   | (with_reducible exact ih1 _ _ _)
   | (with_reducible exact LeO.refl _)
   | (with_reducible exact LeO.none _)
   | (with_reducible refine LeO.ite ?_ ?_)
   | (with_reducible refine LeO.bind ?_ (fun _ => ?_))
   | exact ih0 _
   | exact ih1 _ _ _
   | exact LeO.none _
   | refine LeO.ite ?_ ?_
   | refine LeO.bind ?_ (fun _ => ?_)
  ·
   intro y0 y1 y2
   unfold rampartref01_Num.l0
   repeat' first
   | (with_reducible exact ih0 _)
   | (with_reducible exact ih1 _ _ _)
   | (with_reducible exact LeO.refl _)
   | (with_reducible exact LeO.none _)
   | (with_reducible refine LeO.ite ?_ ?_)
   | (with_reducible refine LeO.bind ?_ (fun _ => ?_))
   | exact ih0 _
   | exact ih1 _ _ _
   | exact LeO.none _
   | refine LeO.ite ?_ ?_
   | refine LeO.bind ?_ (fun _ => ?_)
theorem rampartref01_Num.mono : ∀ a0 k, LeO (rampartref01_Num.f k a0) (rampartref01_Num.f (k + 1) a0) := by
 intro a0 k
 obtain ⟨ih0, ih1⟩ := rampartref01_Num.mono_l k
 unfold rampartref01_Num.f
 repeat' first
   | (with_reducible exact ih0 _)
   | (with_reducible exact ih1 _ _ _)
   | (with_reducible exact LeO.refl _)
   | (with_reducible exact LeO.none _)
   | (with_reducible refine LeO.ite ?_ ?_)
   | (with_reducible refine LeO.bind ?_ (fun _ => ?_))
   | exact ih0 _
   | exact ih1 _ _ _
   | exact LeO.none _
   | refine LeO.ite ?_ ?_
   | refine LeO.bind ?_ (fun _ => ?_)
set_option maxHeartbeats 8000000 in
set_option maxRecDepth 100000 in
theorem rampartref01_Num.calls (k : Nat) (a0 : ByteArray) (r : Int) (w : World) (h : rampartref01_Num.f k a0 = some r) :
  Calls Try.prog 27 #[.string a0] w fun e w' => e = .returned (.int .i64 r) ∧ Drawn0 w w' := by
 have H : (if (a0.size : Int) > 7 then (if 0 ≤ (wrap64 ((a0.size : Int) - 7)) then (if (wrap64 ((a0.size : Int) - 7)) ≤ (a0.size : Int) then (rampartref01_Num.j0 k (a0.extract ((wrap64 ((a0.size : Int) - 7)) : Int).toNat a0.size)) else (none)) else (none)) else (rampartref01_Num.j0 k a0)) = some r := h
 clear h
 have HC2 := Aside0.mk H
 clear H
 go_enter Try.func27, Try.ntmps27
 go_upto_if 7 with (fail)
 go_cut [0] (fun v0 wc => ∃ (kq : Nat) (x0_1 : ByteArray), v0 = .string x0_1 ∧ Aside0 (rampartref01_Num.j0 kq x0_1 = some r) ∧ Aside0 (kq ≤ k) ∧ Drawn0 w wc)
 case first =>
  have H := HC2.out
  clear HC2
  by_cases c3 : (a0.size : Int) > 7
  ·
   rw [if_pos c3] at H
   have c3b0 : decide (7 < (a0.size : Int)) = true := decide_eq_true c3
   have c3b1 : decide (7 < a0.size) = true := decide_eq_true (by omega)
   clear c3
   (first | rw [c3b0] | (simp only [i64_w, i32_w]; rw [c3b0]) | skip)
   obtain ⟨ji4, hji4⟩ : ∃ j_ : Int, (wrap64 ((a0.size : Int) - 7)) = j_ := ⟨_, rfl⟩
   replace H : (if 0 ≤ (ji4) then (if (ji4) ≤ (a0.size : Int) then (rampartref01_Num.j0 k (a0.extract ((ji4) : Int).toNat a0.size)) else (none)) else (none)) = some r := by first | (rw [hji4] at H; exact H) | (simp only [hji4] at H ⊢; exact H)
   have hji4w : (IntKind.i64.wrap ((a0.size : Int) - 7)) = ji4 := (i64_w _).trans hji4
   by_cases c5 : 0 ≤ (ji4)
   ·
    rw [if_pos c5] at H
    have c5b0 := eq_true c5
    have c5b1 : decide (0 ≤ (ji4)) = true := decide_eq_true c5
    clear c5
    by_cases c6 : (ji4) ≤ (a0.size : Int)
    ·
     rw [if_pos c6] at H
     have c6b0 := eq_true c6
     have c6b1 : decide ((ji4) ≤ (a0.size : Int)) = true := decide_eq_true c6
     clear c6
     have H' := Aside0.mk H
     clear H
     go_wp2
     go_meet
     case rel => exact ⟨_, (a0.extract ((ji4) : Int).toNat a0.size), (by first | rfl | (simp; done) | (simp only [← hji4] <;> (first | rfl | simp)) | (simp [*]; done)), H', ⟨by first | omega | exact Nat.le_refl _⟩, by repeat (first | exact Drawn0.refl _ | apply Drawn0.step)⟩
    ·
     rw [if_neg c6] at H
     exact absurd H (by simp)
   ·
    rw [if_neg c5] at H
    exact absurd H (by simp)
  ·
   rw [if_neg c3] at H
   have c3b0 : decide (7 < (a0.size : Int)) = false := decide_eq_false c3
   have c3b1 : decide (7 < a0.size) = false := decide_eq_false (by omega)
   clear c3
   (first | rw [c3b0] | (simp only [i64_w, i32_w]; rw [c3b0]) | skip)
   have H' := Aside0.mk H
   clear H
   go_wp2
   go_meet
   case rel => exact ⟨_, (a0), (by first | rfl | (simp; done) | (simp [*]; done)), H', ⟨by first | omega | exact Nat.le_refl _⟩, by repeat (first | exact Drawn0.refl _ | apply Drawn0.step)⟩
 case rest =>
  clear HC2
  try clear c2
  try clear p2
  try clear c3
  try clear c3b0
  try clear c3b1
  try clear c5
  try clear c5b0
  try clear c5b1
  try clear c6
  try clear c6b0
  try clear c6b1
  try clear p6
  obtain ⟨kq, x0_1, rfl, HA, HJ1, ⟨mc1, rfl⟩⟩ := hcut
  cases kq with
  | zero => exact absurd HA.out (by simp [rampartref01_Num.j0])
  | succ kj1 =>
   have H := HA.out
   clear HA
   simp only [rampartref01_Num.j0] at H
   have H' := Aside0.mk H
   clear H
   go_wp2
   go_loopg [3, 4] kj1 (fun kq v3 v4 w' => ∃ (x3_2 : Int) (x4_2 : Int), v3 = .int .i64 x3_2 ∧ v4 = .int .i64 x4_2 ∧ Aside0 (rampartref01_Num.l0 kq x0_1 x3_2 x4_2 = some r) ∧ Aside0 (kq ≤ kj1) ∧ Drawn0 w w')
   case atStart => exact ⟨(0), (0), (by first | rfl | (simp; done) | (simp [*]; done)), (by first | rfl | (simp; done) | (simp [*]; done)), H', ⟨Nat.le_refl _⟩, by repeat (first | exact Drawn0.refl _ | apply Drawn0.step)⟩
   case round =>
    clear H'
    try clear c1
    try clear c2
    try clear p2
    try clear c3
    try clear c3b0
    try clear c3b1
    try clear c5
    try clear c5b0
    try clear c5b1
    try clear c6
    try clear c6b0
    try clear c6b1
    try clear p6
    try clear p2
    try clear p6
    obtain ⟨x3_2, x4_2, rfl, rfl, HA, HK2, ⟨m2, rfl⟩⟩ := hrel
    cases gk with
    | zero => exact absurd HA.out (by simp [rampartref01_Num.l0])
    | succ k2 =>
     have H := HA.out
     clear HA
     simp only [rampartref01_Num.l0] at H
     by_cases c7 : x4_2 < (x0_1.size : Int)
     ·
      rw [if_pos c7] at H
      have c7b0 : decide (x4_2 < (x0_1.size : Int)) = true := decide_eq_true c7
      clear c7
      by_cases c8 : 0 ≤ x4_2
      ·
       rw [if_pos c8] at H
       have c8b0 : decide (0 ≤ x4_2) = true := decide_eq_true c8
       clear c8
       have H' := Aside0.mk H
       clear H
       have p9 : 0 ≤ (x4_2 : Int) := of_decide_eq_true (by first | (with_reducible assumption) | assumption)
       have q9 : x4_2 < (x0_1.size : Int) := of_decide_eq_true (by first | (with_reducible assumption) | assumption)
       have hx9 := bt_at x0_1 x4_2
       replace p9 := eq_true p9
       replace q9 := eq_true q9
       go_wp2
       go_roundg k2
       case measure => have := HJ1.out; have := HK2.out; omega
       case rel => exact ⟨(Go.bits .or .i64 (wrap64 (x3_2 * 256)) (wrap64 (bt x0_1 x4_2))), (wrap64 (x4_2 + 1)), (by first | rfl | (simp; done) | (simp [*]; done)), (by first | rfl | (simp; done) | (simp [*]; done)), H', ⟨by have := HJ1.out; have := HK2.out; omega⟩, by repeat (first | exact Drawn0.refl _ | apply Drawn0.step)⟩
      ·
       rw [if_neg c8] at H
       exact absurd H (by simp)
     ·
      rw [if_neg c7] at H
      have c7b0 : decide (x4_2 < (x0_1.size : Int)) = false := decide_eq_false c7
      clear c7
      obtain rfl := Option.some.inj H
      go_wp2
      go_ret
      exact ⟨by first | rfl | (simp; done) | (simp [*]; done), by repeat (first | exact Drawn0.refl _ | apply Drawn0.step)⟩

end Go.Proofs.Ytchjfgdcldaacaa.HE
