/- What is proved: each Go function of this text answers as the plain Lean function beside it (a law: its given row, out of the plain statement). Conditions: those that stand in each theorem. Written by my drive.py, which calls the printer of the kit for what that covers. -/
import Derived.Test.YtchjfgdcldaacaaHGx0
import Derived.Test.YtchjfgdcldaacaaHGx2
namespace Go.Proofs.Ytchjfgdcldaacaa.HG
open Go.RowKit Go.Proofs.YtchjfgdcldaacaaW.PrintWords Go.Proofs.YtchjfgdcldaacaaW.PrintLast Go.Proofs.YtchjfgdcldaacaaW.PrintMore
attribute [local go_sem] max2_int min2_int max_two min_two max_three min_three max_four min_four   -- for this text's walks alone
set_option linter.unusedVariables false
set_option linter.unusedSimpArgs false

/-! ### rampartlaw02_awake: function 14 -/
def rampartlaw02_awake.f  : Option (Bool) := (eth_Get.f (⟨#[48, 49, 50, 51, 52, 53, 54, 55, 56, 57, 48, 49, 50]⟩ : ByteArray)).bind fun bt104 => ((eth_Get.f (⟨#[100, 100, 100, 100, 100, 100, 115, 115, 115, 115, 115, 115, 8, 0, 120]⟩ : ByteArray)).bind fun bt120 => (if bt104.2.2.2.2.2.2.2.2.2.2.2.2.2.2 = 2 then (if bt120.2.2.2.2.2.2.2.2.2.2.2.2.2.2 = 0 then (if bt120.2.2.2.2.2.2.2.2.2.2.2.2.1 = 2048 then (if bt120.2.2.2.2.2.2.2.2.2.2.2.2.2.1.toList = ([120] : List UInt8) then (if bt120.1 = 100 then (some (bt120.2.2.2.2.2.2.2.2.2.2.2.1 == 115)) else (some false)) else (some false)) else (some false)) else (some false)) else (some false)))
set_option maxHeartbeats 8000000 in
set_option maxRecDepth 100000 in
theorem rampartlaw02_awake.calls  (r : Bool) (w : World) (h : rampartlaw02_awake.f  = some r) (HR0 : r = true) :
  Calls Try.prog 14 #[] w fun e w' => e = .returned (.bool r) ∧ Below w.heap.size w w' := by
 have HR := Aside0.mk HR0
 clear HR0
 have hu26 := Try.underlying26
 have hu24 := Try.underlying24
 have HB := Aside0.mk (Below.refl w.heap.size w)
 have H : ((eth_Get.f (⟨#[48, 49, 50, 51, 52, 53, 54, 55, 56, 57, 48, 49, 50]⟩ : ByteArray)).bind fun bt104 => ((eth_Get.f (⟨#[100, 100, 100, 100, 100, 100, 115, 115, 115, 115, 115, 115, 8, 0, 120]⟩ : ByteArray)).bind fun bt120 => (if bt104.2.2.2.2.2.2.2.2.2.2.2.2.2.2 = 2 then (if bt120.2.2.2.2.2.2.2.2.2.2.2.2.2.2 = 0 then (if bt120.2.2.2.2.2.2.2.2.2.2.2.2.1 = 2048 then (if bt120.2.2.2.2.2.2.2.2.2.2.2.2.2.1.toList = ([120] : List UInt8) then (if bt120.1 = 100 then (some (bt120.2.2.2.2.2.2.2.2.2.2.2.1 == 115)) else (some false)) else (some false)) else (some false)) else (some false)) else (some false)))) = some r := h
 clear h
 replace H := Option.bind_eq_some_iff.mp H
 obtain ⟨⟨t104, t105, t106, t107, t108, t109, t110, t111, t112, t113, t114, t115, t116, t117, t118⟩, A10, H⟩ := H
 replace H : ((eth_Get.f (⟨#[100, 100, 100, 100, 100, 100, 115, 115, 115, 115, 115, 115, 8, 0, 120]⟩ : ByteArray)).bind fun bt120 => (if t118 = 2 then (if bt120.2.2.2.2.2.2.2.2.2.2.2.2.2.2 = 0 then (if bt120.2.2.2.2.2.2.2.2.2.2.2.2.1 = 2048 then (if bt120.2.2.2.2.2.2.2.2.2.2.2.2.2.1.toList = ([120] : List UInt8) then (if bt120.1 = 100 then (some (bt120.2.2.2.2.2.2.2.2.2.2.2.1 == 115)) else (some false)) else (some false)) else (some false)) else (some false)) else (some false))) = some r := H
 have A1 := Aside0.mk A10
 clear A10
 replace H := Option.bind_eq_some_iff.mp H
 obtain ⟨⟨t120, t121, t122, t123, t124, t125, t126, t127, t128, t129, t130, t131, t132, t133, t134⟩, A20, H⟩ := H
 replace H : (if t118 = 2 then (if t134 = 0 then (if t132 = 2048 then (if t133.toList = ([120] : List UInt8) then (if t120 = 100 then (some (t131 == 115)) else (some false)) else (some false)) else (some false)) else (some false)) else (some false)) = some r := H
 have A2 := Aside0.mk A20
 clear A20
 by_cases c3 : t118 = 2
 ·
  rw [if_pos c3] at H
  have c3b0 : (t118 == 2) = true := beq_iff_eq.mpr c3
  have c3b1 : (t118 != 2) = false := bne_eq_false_iff_eq.mpr c3
  clear c3
  by_cases c4 : t134 = 0
  ·
   rw [if_pos c4] at H
   have c4b0 : (t134 == 0) = true := beq_iff_eq.mpr c4
   have c4b1 : (t134 != 0) = false := bne_eq_false_iff_eq.mpr c4
   clear c4
   by_cases c5 : t132 = 2048
   ·
    rw [if_pos c5] at H
    have c5b0 : (t132 == 2048) = true := beq_iff_eq.mpr c5
    have c5b1 : (t132 != 2048) = false := bne_eq_false_iff_eq.mpr c5
    clear c5
    by_cases c6 : t133.toList = ([120] : List UInt8)
    ·
     rw [if_pos c6] at H
     have c6b0 : (t133.toList == ([120] : List UInt8)) = true := beq_iff_eq.mpr c6
     have c6b1 : (t133.toList != ([120] : List UInt8)) = false := bne_eq_false_iff_eq.mpr c6
     clear c6
     by_cases c7 : t120 = 100
     ·
      rw [if_pos c7] at H
      have c7b0 : (t120 == 100) = true := beq_iff_eq.mpr c7
      have c7b1 : (t120 != 100) = false := bne_eq_false_iff_eq.mpr c7
      clear c7
      obtain rfl := Option.some.inj H
      go_enter Try.func14, Try.ntmps14
      go_wp2_with (first | ((with_reducible refine gate_callee (f := 13) rfl ?_); refine goesL_ (some 8) rfl rfl Try.func13 (by kernel_rfl) rfl #[.string (⟨#[48, 49, 50, 51, 52, 53, 54, 55, 56, 57, 48, 49, 50]⟩ : ByteArray)] rfl (by (try simp only [List.map_toArray, List.map_cons, List.map_nil]); first | done | rfl | (simp only [List.length_drop, List.length_take]; rfl)) ?_; (with_reducible refine (eth_Get.calls (⟨#[48, 49, 50, 51, 52, 53, 54, 55, 56, 57, 48, 49, 50]⟩ : ByteArray) t104 t105 t106 t107 t108 t109 t110 t111 t112 t113 t114 t115 t116 t117 t118 _ A1.out).mono ?_); rintro e w8 ⟨rfl, hb⟩; refine ⟨_, rfl, ?_⟩; have n0_ := Aside0.mk (below_step (by repeat (first | (with_reducible first | exact HB.out | apply below_alloc | apply pw_below_drewN | apply below_drew1) | exact HB.out)) hb); clear HB; have HB := n0_; clear n0_; (try clear hb); (try clear hb2); (try clear hk); (try clear hi)) | ((with_reducible refine gate_dst (N := 1) rfl ?_); refine box_event ?hg (N := 1) ?hd (cs := #[.int .u8 0, .int .u8 0, .int .u8 0, .int .u8 0, .int .u8 0, .int .u8 0, .int .u8 0, .int .u8 0, .int .u8 0, .int .u8 0, .int .u8 0, .int .u8 0, .int .i64 0]) (t := 26) ?hr ?_; (case hd => rfl); (case hg => rfl); (case hr => first | (go_simp; done) | (go_simp; rfl)); intro gb119 hg w9 hbox hb; have n0_ := Aside0.mk (below_step (by repeat (first | (with_reducible first | exact HB.out | apply below_alloc | apply pw_below_drewN | apply below_drew1) | exact HB.out)) hb); have n1_ := Aside0.mk (hbox); have n2_ := Aside0.mk ((by rw [hg]; exact (below_size (by repeat (first | (with_reducible first | exact HB.out | apply below_alloc | apply pw_below_drewN | apply below_drew1) | exact HB.out))) : w.heap.size ≤ gb119)); have n3_ := Aside0.mk ((by rw [hg]; exact (below_size (by repeat (first | (with_reducible first | exact HB.out | apply below_alloc | apply pw_below_drewN | apply below_drew1) | exact HB.out))) : w.heap.size ≤ gb119)); clear HB; have HB := n0_; have BK119 := n1_; have GW119 := n2_; have GE119 := n3_; clear n0_ n1_ n2_ n3_; clear hb hbox hg; have hcz10_0 : w9.cell? ⟨gb119, 0, none⟩ = some (.int .u8 0) := (blk_cell BK119.out 0).trans rfl; have hcz10_1 : w9.cell? ⟨gb119, 1, none⟩ = some (.int .u8 0) := (blk_cell BK119.out 1).trans rfl; have hcz10_2 : w9.cell? ⟨gb119, 2, none⟩ = some (.int .u8 0) := (blk_cell BK119.out 2).trans rfl; have hcz10_3 : w9.cell? ⟨gb119, 3, none⟩ = some (.int .u8 0) := (blk_cell BK119.out 3).trans rfl; have hcz10_4 : w9.cell? ⟨gb119, 4, none⟩ = some (.int .u8 0) := (blk_cell BK119.out 4).trans rfl; have hcz10_5 : w9.cell? ⟨gb119, 5, none⟩ = some (.int .u8 0) := (blk_cell BK119.out 5).trans rfl; have hcz10_6 : w9.cell? ⟨gb119, 6, none⟩ = some (.int .u8 0) := (blk_cell BK119.out 6).trans rfl; have hcz10_7 : w9.cell? ⟨gb119, 7, none⟩ = some (.int .u8 0) := (blk_cell BK119.out 7).trans rfl; have hcz10_8 : w9.cell? ⟨gb119, 8, none⟩ = some (.int .u8 0) := (blk_cell BK119.out 8).trans rfl; have hcz10_9 : w9.cell? ⟨gb119, 9, none⟩ = some (.int .u8 0) := (blk_cell BK119.out 9).trans rfl; have hcz10_10 : w9.cell? ⟨gb119, 10, none⟩ = some (.int .u8 0) := (blk_cell BK119.out 10).trans rfl; have hcz10_11 : w9.cell? ⟨gb119, 11, none⟩ = some (.int .u8 0) := (blk_cell BK119.out 11).trans rfl; have hcz10_12 : w9.cell? ⟨gb119, 12, none⟩ = some (.int .i64 0) := (blk_cell BK119.out 12).trans rfl; have hfz10_0 := blk_frozen BK119.out 0; have hfz10_1 := blk_frozen BK119.out 1; have hfz10_2 := blk_frozen BK119.out 2; have hfz10_3 := blk_frozen BK119.out 3; have hfz10_4 := blk_frozen BK119.out 4; have hfz10_5 := blk_frozen BK119.out 5; have hfz10_6 := blk_frozen BK119.out 6; have hfz10_7 := blk_frozen BK119.out 7; have hfz10_8 := blk_frozen BK119.out 8; have hfz10_9 := blk_frozen BK119.out 9; have hfz10_10 := blk_frozen BK119.out 10; have hfz10_11 := blk_frozen BK119.out 11; have hfz10_12 := blk_frozen BK119.out 12) | ((with_reducible refine gate_callee (f := 13) rfl ?_); refine goesL_ (some 13) rfl rfl Try.func13 (by kernel_rfl) rfl #[.string (⟨#[100, 100, 100, 100, 100, 100, 115, 115, 115, 115, 115, 115, 8, 0, 120]⟩ : ByteArray)] rfl (by (try simp only [List.map_toArray, List.map_cons, List.map_nil]); first | done | rfl | (simp only [List.length_drop, List.length_take]; rfl)) ?_; (with_reducible refine (eth_Get.calls (⟨#[100, 100, 100, 100, 100, 100, 115, 115, 115, 115, 115, 115, 8, 0, 120]⟩ : ByteArray) t120 t121 t122 t123 t124 t125 t126 t127 t128 t129 t130 t131 t132 t133 t134 _ A2.out).mono ?_); rintro e w11 ⟨rfl, hb⟩; refine ⟨_, rfl, ?_⟩; have n0_ := Aside0.mk (blk_below (g := gb119) (o := .cells #[.int .u8 t104, .int .u8 t105, .int .u8 t106, .int .u8 t107, .int .u8 t108, .int .u8 t109, .int .u8 t110, .int .u8 t111, .int .u8 t112, .int .u8 t113, .int .u8 t114, .int .u8 t115, .int .i64 t116] 26 (0, 0)) (by (with_reducible repeat (first | refine blk_drewN ?_ _ | refine blk_drew ?_ | refine blk_alloc ?_ _)); refine blk_put (cs := #[.int .u8 t104, .int .u8 t105, .int .u8 t106, .int .u8 t107, .int .u8 t108, .int .u8 t109, .int .u8 t110, .int .u8 t111, .int .u8 t112, .int .u8 t113, .int .u8 t114, .int .u8 t115, .int .i64 0]) ?_ 12 _ rfl; (with_reducible repeat (first | refine blk_drewN ?_ _ | refine blk_drew ?_ | refine blk_alloc ?_ _)); refine blk_put (cs := #[.int .u8 t104, .int .u8 t105, .int .u8 t106, .int .u8 t107, .int .u8 t108, .int .u8 t109, .int .u8 t110, .int .u8 t111, .int .u8 t112, .int .u8 t113, .int .u8 t114, .int .u8 0, .int .i64 0]) ?_ 11 _ rfl; (with_reducible repeat (first | refine blk_drewN ?_ _ | refine blk_drew ?_ | refine blk_alloc ?_ _)); refine blk_put (cs := #[.int .u8 t104, .int .u8 t105, .int .u8 t106, .int .u8 t107, .int .u8 t108, .int .u8 t109, .int .u8 t110, .int .u8 t111, .int .u8 t112, .int .u8 t113, .int .u8 0, .int .u8 0, .int .i64 0]) ?_ 10 _ rfl; (with_reducible repeat (first | refine blk_drewN ?_ _ | refine blk_drew ?_ | refine blk_alloc ?_ _)); refine blk_put (cs := #[.int .u8 t104, .int .u8 t105, .int .u8 t106, .int .u8 t107, .int .u8 t108, .int .u8 t109, .int .u8 t110, .int .u8 t111, .int .u8 t112, .int .u8 0, .int .u8 0, .int .u8 0, .int .i64 0]) ?_ 9 _ rfl; (with_reducible repeat (first | refine blk_drewN ?_ _ | refine blk_drew ?_ | refine blk_alloc ?_ _)); refine blk_put (cs := #[.int .u8 t104, .int .u8 t105, .int .u8 t106, .int .u8 t107, .int .u8 t108, .int .u8 t109, .int .u8 t110, .int .u8 t111, .int .u8 0, .int .u8 0, .int .u8 0, .int .u8 0, .int .i64 0]) ?_ 8 _ rfl; (with_reducible repeat (first | refine blk_drewN ?_ _ | refine blk_drew ?_ | refine blk_alloc ?_ _)); refine blk_put (cs := #[.int .u8 t104, .int .u8 t105, .int .u8 t106, .int .u8 t107, .int .u8 t108, .int .u8 t109, .int .u8 t110, .int .u8 0, .int .u8 0, .int .u8 0, .int .u8 0, .int .u8 0, .int .i64 0]) ?_ 7 _ rfl; (with_reducible repeat (first | refine blk_drewN ?_ _ | refine blk_drew ?_ | refine blk_alloc ?_ _)); refine blk_put (cs := #[.int .u8 t104, .int .u8 t105, .int .u8 t106, .int .u8 t107, .int .u8 t108, .int .u8 t109, .int .u8 0, .int .u8 0, .int .u8 0, .int .u8 0, .int .u8 0, .int .u8 0, .int .i64 0]) ?_ 6 _ rfl; (with_reducible repeat (first | refine blk_drewN ?_ _ | refine blk_drew ?_ | refine blk_alloc ?_ _)); refine blk_put (cs := #[.int .u8 t104, .int .u8 t105, .int .u8 t106, .int .u8 t107, .int .u8 t108, .int .u8 0, .int .u8 0, .int .u8 0, .int .u8 0, .int .u8 0, .int .u8 0, .int .u8 0, .int .i64 0]) ?_ 5 _ rfl; (with_reducible repeat (first | refine blk_drewN ?_ _ | refine blk_drew ?_ | refine blk_alloc ?_ _)); refine blk_put (cs := #[.int .u8 t104, .int .u8 t105, .int .u8 t106, .int .u8 t107, .int .u8 0, .int .u8 0, .int .u8 0, .int .u8 0, .int .u8 0, .int .u8 0, .int .u8 0, .int .u8 0, .int .i64 0]) ?_ 4 _ rfl; (with_reducible repeat (first | refine blk_drewN ?_ _ | refine blk_drew ?_ | refine blk_alloc ?_ _)); refine blk_put (cs := #[.int .u8 t104, .int .u8 t105, .int .u8 t106, .int .u8 0, .int .u8 0, .int .u8 0, .int .u8 0, .int .u8 0, .int .u8 0, .int .u8 0, .int .u8 0, .int .u8 0, .int .i64 0]) ?_ 3 _ rfl; (with_reducible repeat (first | refine blk_drewN ?_ _ | refine blk_drew ?_ | refine blk_alloc ?_ _)); refine blk_put (cs := #[.int .u8 t104, .int .u8 t105, .int .u8 0, .int .u8 0, .int .u8 0, .int .u8 0, .int .u8 0, .int .u8 0, .int .u8 0, .int .u8 0, .int .u8 0, .int .u8 0, .int .i64 0]) ?_ 2 _ rfl; (with_reducible repeat (first | refine blk_drewN ?_ _ | refine blk_drew ?_ | refine blk_alloc ?_ _)); refine blk_put (cs := #[.int .u8 t104, .int .u8 0, .int .u8 0, .int .u8 0, .int .u8 0, .int .u8 0, .int .u8 0, .int .u8 0, .int .u8 0, .int .u8 0, .int .u8 0, .int .u8 0, .int .i64 0]) ?_ 1 _ rfl; (with_reducible repeat (first | refine blk_drewN ?_ _ | refine blk_drew ?_ | refine blk_alloc ?_ _)); refine blk_put (cs := #[.int .u8 0, .int .u8 0, .int .u8 0, .int .u8 0, .int .u8 0, .int .u8 0, .int .u8 0, .int .u8 0, .int .u8 0, .int .u8 0, .int .u8 0, .int .u8 0, .int .i64 0]) ?_ 0 _ rfl; (with_reducible repeat (first | refine blk_drewN ?_ _ | refine blk_drew ?_ | refine blk_alloc ?_ _)); exact BK119.out) hb); have n1_ := Aside0.mk (below_step (by repeat (first | (with_reducible first | exact HB.out | apply below_alloc | apply pw_below_drewN | apply below_drew1 | refine below_set ?_ GE119.out) | exact HB.out)) hb); clear BK119; clear HB; have BK119 := n0_; have HB := n1_; clear n0_ n1_; (try clear hb); (try clear hb2); (try clear hk); (try clear hi)) | ((with_reducible refine gate_dst (N := 4) rfl ?_); refine box_event ?hg (N := 4) ?hd (cs := #[.int .u8 0, .int .u8 0, .int .u8 0, .int .u8 0, .int .u8 0, .int .u8 0, .int .u8 0, .int .u8 0, .int .u8 0, .int .u8 0, .int .u8 0, .int .u8 0, .int .i64 0]) (t := 26) ?hr ?_; (case hd => rfl); (case hg => rfl); (case hr => first | (go_simp; done) | (go_simp; rfl)); intro gb135 hg w12 hbox hb; have n0_ := Aside0.mk (blk_below (g := gb119) (o := .cells #[.int .u8 t104, .int .u8 t105, .int .u8 t106, .int .u8 t107, .int .u8 t108, .int .u8 t109, .int .u8 t110, .int .u8 t111, .int .u8 t112, .int .u8 t113, .int .u8 t114, .int .u8 t115, .int .i64 t116] 26 (0, 0)) (by (with_reducible repeat (first | refine blk_drewN ?_ _ | refine blk_drew ?_ | refine blk_alloc ?_ _)); exact BK119.out) hb); have n1_ := Aside0.mk (below_step (by repeat (first | (with_reducible first | exact HB.out | apply below_alloc | apply pw_below_drewN | apply below_drew1 | refine below_set ?_ GE119.out) | exact HB.out)) hb); have n2_ := Aside0.mk (hbox); have n3_ := Aside0.mk ((by rw [hg]; exact (below_size (by repeat (first | (with_reducible first | exact HB.out | apply below_alloc | apply pw_below_drewN | apply below_drew1 | refine below_set ?_ GE119.out) | exact HB.out))) : w.heap.size ≤ gb135)); have n4_ := Aside0.mk ((by rw [hg]; exact (below_size (by repeat (first | (with_reducible first | exact HB.out | apply below_alloc | apply pw_below_drewN | apply below_drew1 | refine below_set ?_ GE119.out) | exact HB.out))) : w.heap.size ≤ gb135)); have n5_ := Aside0.mk ((by rw [hg]; exact Nat.ne_of_lt (blk_lt (g := gb119) (o := .cells #[.int .u8 t104, .int .u8 t105, .int .u8 t106, .int .u8 t107, .int .u8 t108, .int .u8 t109, .int .u8 t110, .int .u8 t111, .int .u8 t112, .int .u8 t113, .int .u8 t114, .int .u8 t115, .int .i64 t116] 26 (0, 0)) (by (with_reducible repeat (first | refine blk_drewN ?_ _ | refine blk_drew ?_ | refine blk_alloc ?_ _)); exact BK119.out)) : gb119 ≠ gb135)); have n6_ := Aside0.mk ((by rw [hg]; exact Nat.ne_of_gt (blk_lt (g := gb119) (o := .cells #[.int .u8 t104, .int .u8 t105, .int .u8 t106, .int .u8 t107, .int .u8 t108, .int .u8 t109, .int .u8 t110, .int .u8 t111, .int .u8 t112, .int .u8 t113, .int .u8 t114, .int .u8 t115, .int .i64 t116] 26 (0, 0)) (by (with_reducible repeat (first | refine blk_drewN ?_ _ | refine blk_drew ?_ | refine blk_alloc ?_ _)); exact BK119.out)) : gb135 ≠ gb119)); clear BK119; clear HB; have BK119 := n0_; have HB := n1_; have BK135 := n2_; have GW135 := n3_; have GE135 := n4_; have NB119_135 := n5_; have NB135_119 := n6_; clear n0_ n1_ n2_ n3_ n4_ n5_ n6_; clear hb hbox hg; have hnb13 := NB135_119.out; have hnc13 := NB119_135.out; have hcz14_0 : w12.cell? ⟨gb135, 0, none⟩ = some (.int .u8 0) := (blk_cell BK135.out 0).trans rfl; have hcz14_1 : w12.cell? ⟨gb135, 1, none⟩ = some (.int .u8 0) := (blk_cell BK135.out 1).trans rfl; have hcz14_2 : w12.cell? ⟨gb135, 2, none⟩ = some (.int .u8 0) := (blk_cell BK135.out 2).trans rfl; have hcz14_3 : w12.cell? ⟨gb135, 3, none⟩ = some (.int .u8 0) := (blk_cell BK135.out 3).trans rfl; have hcz14_4 : w12.cell? ⟨gb135, 4, none⟩ = some (.int .u8 0) := (blk_cell BK135.out 4).trans rfl; have hcz14_5 : w12.cell? ⟨gb135, 5, none⟩ = some (.int .u8 0) := (blk_cell BK135.out 5).trans rfl; have hcz14_6 : w12.cell? ⟨gb135, 6, none⟩ = some (.int .u8 0) := (blk_cell BK135.out 6).trans rfl; have hcz14_7 : w12.cell? ⟨gb135, 7, none⟩ = some (.int .u8 0) := (blk_cell BK135.out 7).trans rfl; have hcz14_8 : w12.cell? ⟨gb135, 8, none⟩ = some (.int .u8 0) := (blk_cell BK135.out 8).trans rfl; have hcz14_9 : w12.cell? ⟨gb135, 9, none⟩ = some (.int .u8 0) := (blk_cell BK135.out 9).trans rfl; have hcz14_10 : w12.cell? ⟨gb135, 10, none⟩ = some (.int .u8 0) := (blk_cell BK135.out 10).trans rfl; have hcz14_11 : w12.cell? ⟨gb135, 11, none⟩ = some (.int .u8 0) := (blk_cell BK135.out 11).trans rfl; have hcz14_12 : w12.cell? ⟨gb135, 12, none⟩ = some (.int .i64 0) := (blk_cell BK135.out 12).trans rfl; have hfz14_0 := blk_frozen BK135.out 0; have hfz14_1 := blk_frozen BK135.out 1; have hfz14_2 := blk_frozen BK135.out 2; have hfz14_3 := blk_frozen BK135.out 3; have hfz14_4 := blk_frozen BK135.out 4; have hfz14_5 := blk_frozen BK135.out 5; have hfz14_6 := blk_frozen BK135.out 6; have hfz14_7 := blk_frozen BK135.out 7; have hfz14_8 := blk_frozen BK135.out 8; have hfz14_9 := blk_frozen BK135.out 9; have hfz14_10 := blk_frozen BK135.out 10; have hfz14_11 := blk_frozen BK135.out 11; have hfz14_12 := blk_frozen BK135.out 12))
      go_ret
      exact ⟨by first | rfl | (simp [errW_none, errW_some] <;> rfl) | (simp [*, errW_none, errW_some] <;> rfl), by repeat (first | (with_reducible first | exact HB.out | apply below_alloc | apply pw_below_drewN | apply below_drew1 | refine below_set ?_ GE119.out | refine below_set ?_ GE135.out) | exact HB.out)⟩
     ·
      rw [if_neg c7] at H
      have c7b0 : (t120 == 100) = false := beq_eq_false_iff_ne.mpr c7
      have c7b1 : (t120 != 100) = true := bne_iff_ne.mpr c7
      exact absurd ((Option.some.inj H).trans HR.out) (by decide)
    ·
     rw [if_neg c6] at H
     have c6b0 : (t133.toList == ([120] : List UInt8)) = false := beq_eq_false_iff_ne.mpr c6
     have c6b1 : (t133.toList != ([120] : List UInt8)) = true := bne_iff_ne.mpr c6
     exact absurd ((Option.some.inj H).trans HR.out) (by decide)
   ·
    rw [if_neg c5] at H
    have c5b0 : (t132 == 2048) = false := beq_eq_false_iff_ne.mpr c5
    have c5b1 : (t132 != 2048) = true := bne_iff_ne.mpr c5
    exact absurd ((Option.some.inj H).trans HR.out) (by decide)
  ·
   rw [if_neg c4] at H
   have c4b0 : (t134 == 0) = false := beq_eq_false_iff_ne.mpr c4
   have c4b1 : (t134 != 0) = true := bne_iff_ne.mpr c4
   exact absurd ((Option.some.inj H).trans HR.out) (by decide)
 ·
  rw [if_neg c3] at H
  have c3b0 : (t118 == 2) = false := beq_eq_false_iff_ne.mpr c3
  have c3b1 : (t118 != 2) = true := bne_iff_ne.mpr c3
  exact absurd ((Option.some.inj H).trans HR.out) (by decide)

/-! ### rampartref02_text: function 30 -/
theorem six_bt {x0 x1 x2 x3 x4 x5 : Int} (ok : okSix x0 x1 x2 x3 x4 x5) : bt (strOfNums [x0, x1, x2, x3, x4, x5]) 0 = x0 ∧ bt (strOfNums [x0, x1, x2, x3, x4, x5]) 1 = x1 ∧ bt (strOfNums [x0, x1, x2, x3, x4, x5]) 2 = x2 ∧ bt (strOfNums [x0, x1, x2, x3, x4, x5]) 3 = x3 ∧ bt (strOfNums [x0, x1, x2, x3, x4, x5]) 4 = x4 ∧ bt (strOfNums [x0, x1, x2, x3, x4, x5]) 5 = x5 :=
 ⟨byte_of ok.1, byte_of ok.2.1, byte_of ok.2.2.1, byte_of ok.2.2.2.1, byte_of ok.2.2.2.2.1, byte_of ok.2.2.2.2.2⟩
theorem text_cell {w1 wr : World} {g : Nat} {x0 x1 x2 x3 x4 x5 i : Int} (hb : Below w1.heap.size w1 wr) (hbk : w1.heap[g]? = some (.cells #[.int .u8 x0, .int .u8 x1, .int .u8 x2, .int .u8 x3, .int .u8 x4, .int .u8 x5] 24 (0, 0))) (ok : okSix x0 x1 x2 x3 x4 x5) (h0 : 0 ≤ i) (h6 : i < 6) :
  wr.cell? ⟨g, i.toNat, none⟩ = some (.int .u8 (bt (strOfNums [x0, x1, x2, x3, x4, x5]) i)) := by
 have hk : wr.heap[g]? = some (.cells #[.int .u8 x0, .int .u8 x1, .int .u8 x2, .int .u8 x3, .int .u8 x4, .int .u8 x5] 24 (0, 0)) := blk_below hbk hb
 obtain ⟨b0, b1, b2, b3, b4, b5⟩ := six_bt ok
 have e : i = 0 ∨ i = 1 ∨ i = 2 ∨ i = 3 ∨ i = 4 ∨ i = 5 := by omega
 rcases e with rfl | rfl | rfl | rfl | rfl | rfl
 ·
  rw [b0]; exact (blk_cell hk 0).trans rfl
 ·
  rw [b1]; exact (blk_cell hk 1).trans rfl
 ·
  rw [b2]; exact (blk_cell hk 2).trans rfl
 ·
  rw [b3]; exact (blk_cell hk 3).trans rfl
 ·
  rw [b4]; exact (blk_cell hk 4).trans rfl
 ·
  rw [b5]; exact (blk_cell hk 5).trans rfl
/-! ### rampartref02_text: function 30 -/
def rampartref02_text.l0 : Nat → ByteArray → List Int → Int → Option (ByteArray)
 | 0, _, _, _ => none
 | k + 1, x1, x3, x4 => if x4 < 6 then (if 0 ≤ x4 then (if x4 < (x1.size : Int) then (if x3.length < 140737488355328 then (rampartref02_text.l0 k x1 (x3 ++ [bt x1 x4]) (wrap64 (x4 + 1))) else (none)) else (none)) else (none)) else (some (strOfNums x3))
def rampartref02_text.g (k : Nat) (a0 : ByteArray) : Option (ByteArray) := rampartref02_text.l0 k a0 ([] : List Int) 0
theorem rampartref02_text.mono_l : ∀ k, (∀ y0 y1 y2, LeO (rampartref02_text.l0 k y0 y1 y2) (rampartref02_text.l0 (k + 1) y0 y1 y2))
 | 0 => fun _ _ _ r h => by simp [rampartref02_text.l0] at h
 | k + 1 => by
  have ih0 := rampartref02_text.mono_l k
  ·
   intro y0 y1 y2
   unfold rampartref02_text.l0
   repeat' first
   | (with_reducible exact ih0 _ _ _)
   | (with_reducible exact LeO.refl _)
   | (with_reducible exact LeO.none _)
   | (with_reducible refine LeO.ite ?_ ?_)
   | (with_reducible refine LeO.bind ?_ (fun _ => ?_))
   | exact ih0 _ _ _
   | exact LeO.none _
   | refine LeO.ite ?_ ?_
   | refine LeO.bind ?_ (fun _ => ?_)
theorem rampartref02_text.mono_g : ∀ a0 k, LeO (rampartref02_text.g k a0) (rampartref02_text.g (k + 1) a0) := by
 intro a0 k
 have ih0 := rampartref02_text.mono_l k
 unfold rampartref02_text.g
 repeat' first
   | (with_reducible exact ih0 _ _ _)
   | (with_reducible exact LeO.refl _)
   | (with_reducible exact LeO.none _)
   | (with_reducible refine LeO.ite ?_ ?_)
   | (with_reducible refine LeO.bind ?_ (fun _ => ?_))
   | exact ih0 _ _ _
   | exact LeO.none _
   | refine LeO.ite ?_ ?_
   | refine LeO.bind ?_ (fun _ => ?_)
def rampartref02_text.f (k : Nat) (x0 : Int) (x1 : Int) (x2 : Int) (x3 : Int) (x4 : Int) (x5 : Int) : Option ByteArray := if okSix x0 x1 x2 x3 x4 x5 then rampartref02_text.g k (strOfNums [x0, x1, x2, x3, x4, x5]) else none
theorem rampartref02_text.mono : ∀ a0 a1 a2 a3 a4 a5 k, LeO (rampartref02_text.f k a0 a1 a2 a3 a4 a5) (rampartref02_text.f (k + 1) a0 a1 a2 a3 a4 a5) := by
 intro a0 a1 a2 a3 a4 a5 k
 unfold rampartref02_text.f
 split
 ·
  exact rampartref02_text.mono_g _ _
 ·
  exact LeO.none _
set_option maxHeartbeats 8000000 in
set_option maxRecDepth 100000 in
theorem rampartref02_text.calls (k : Nat) (x0 : Int) (x1 : Int) (x2 : Int) (x3 : Int) (x4 : Int) (x5 : Int) (r : ByteArray) (w : World) (h : rampartref02_text.f k x0 x1 x2 x3 x4 x5 = some r) :
  Calls Try.prog 30 #[.agg #[.int .u8 x0, .int .u8 x1, .int .u8 x2, .int .u8 x3, .int .u8 x4, .int .u8 x5]] w fun e w' => e = .returned (.string r) ∧ Below w.heap.size w w' := by
 have HB := Aside0.mk (Below.refl w.heap.size w)
 by_cases hok_ : okSix x0 x1 x2 x3 x4 x5
 case neg => unfold rampartref02_text.f at h; rw [if_neg hok_] at h; cases h
 obtain ⟨a0, ha0_⟩ : ∃ b, b = strOfNums [x0, x1, x2, x3, x4, x5] := ⟨_, rfl⟩
 have hu24 := Try.underlying24
 have H : (rampartref02_text.l0 k a0 ([] : List Int) 0) = some r := by rw [ha0_]; unfold rampartref02_text.f at h; rw [if_pos hok_] at h; exact h
 have HOK := Aside0.mk hok_
 have HA0 := Aside0.mk ha0_
 clear hok_ ha0_
 clear h
 have H' := Aside0.mk H
 clear H
 go_enter Try.func30, Try.ntmps30
 go_wp2_with (first | ((with_reducible refine gate_dst (N := 1) rfl ?_); refine box_event ?hg (N := 1) ?hd (cs := #[.int .u8 x0, .int .u8 x1, .int .u8 x2, .int .u8 x3, .int .u8 x4, .int .u8 x5]) (t := 24) ?hr ?_; (case hd => rfl); (case hg => rfl); (case hr => first | (go_simp; done) | (go_simp; rfl)); intro gb70 hg w70 hbox hb; have n0_ := Aside0.mk (below_step HB.out hb); have n1_ := Aside0.mk (hbox); clear HB; have HW := n0_; have BK70 := n1_; clear n0_ n1_; clear hb hbox hg))
 have HB := Aside0.mk (Below.refl w70.heap.size w70)
 go_loopg [3, 4] k (fun kq v3 v4 w' => ∃ (x3_1 : List Int) (x4_1 : Int), v4 = .int .i64 x4_1 ∧ Aside0 (rampartref02_text.l0 kq a0 x3_1 x4_1 = some r) ∧ Aside0 (kq ≤ k) ∧ Aside0 (Kd.R (Kd.int .u8) 5 w' w70.heap.size (fun _ => True) v3 x3_1) ∧ Aside0 (Below w70.heap.size w70 w'))
 case atStart => exact ⟨(([] : List Int)), (0), (by first | rfl | (simp; done) | (simp [*]; done)), H', ⟨Nat.le_refl _⟩, ⟨by first | exact Kd.R_nil _ _ _ _ _ | exact Kd.N_nil _ _ _ _ _ | exact Kd.V_nil _ _ _ _ _ | exact Kd.Q_nil _ _ _ _ _ | exact Kd.S_nil _ _ _ _ _⟩, ⟨by repeat (first | (with_reducible first | exact HB.out | apply below_alloc | apply pw_below_drewN | apply below_drew1) | exact HB.out)⟩⟩
 case round =>
  clear H'
  obtain ⟨x3_1, x4_1, rfl, HA, HK1, HO_3, HB⟩ := hrel
  cases gk with
  | zero => exact absurd HA.out (by simp [rampartref02_text.l0])
  | succ k1 =>
   have H := HA.out
   clear HA
   simp only [rampartref02_text.l0] at H
   by_cases c2 : x4_1 < 6
   ·
    rw [if_pos c2] at H
    have c2b0 : decide (x4_1 < 6) = true := decide_eq_true c2
    clear c2
    by_cases c3 : 0 ≤ x4_1
    ·
     rw [if_pos c3] at H
     have c3b0 : decide (0 ≤ x4_1) = true := decide_eq_true c3
     clear c3
     by_cases c4 : x4_1 < (a0.size : Int)
     ·
      rw [if_pos c4] at H
      have c4b0 : decide (x4_1 < (a0.size : Int)) = true := decide_eq_true c4
      clear c4
      by_cases c6 : x3_1.length < 140737488355328
      ·
       rw [if_pos c6] at H
       have LMc6 := Aside0.mk c6
       clear c6
       obtain ⟨y136, hy136⟩ : ∃ y_ : List Int, y_ = (x3_1 ++ [bt a0 x4_1]) := ⟨_, rfl⟩
       replace H : (rampartref02_text.l0 k1 a0 y136 (wrap64 (x4_1 + 1))) = some r := by first | (rw [hy136]; with_reducible exact H) | (have H2_ := (Option.bind_some _ _).symm.trans H; rw [hy136]; with_reducible exact H2_) | (have H2_ := (Option.bind_some _ _).symm.trans H; with_reducible exact H2_) | with_reducible exact H | (rw [hy136]; exact H) | exact H
       have Ny136 := Aside0.mk hy136
       clear hy136
       have H' := Aside0.mk H
       clear H
       have hb0_ : 0 ≤ x4_1 := of_decide_eq_true (by first | (with_reducible assumption) | assumption)
       have hb6_ : x4_1 < 6 := of_decide_eq_true (by first | (with_reducible assumption) | assumption)
       have hc5_ := text_cell HB.out BK70.out HOK.out hb0_ hb6_
       rw [← HA0.out] at hc5_
       replace hb0_ := eq_true hb0_
       replace hb6_ := eq_true hb6_
       have p5 : 0 ≤ (x4_1 : Int) := of_decide_eq_true (by first | (with_reducible assumption) | assumption)
       have q5 : x4_1 < (a0.size : Int) := of_decide_eq_true (by first | (with_reducible assumption) | assumption)
       have hx5 := bt_at a0 x4_1
       replace p5 := eq_true p5
       replace q5 := eq_true q5
       go_wp2_with (first | ((with_reducible refine gate_builtin (b := .append) (xs := #[.tmp 9, .tmp 13]) rfl ?_); at_builtin; refine Kd.R_append (Kd.int .u8) (w0 := w70) w70.heap.size rfl (.tmp 9) (.tmp 13) 23 5 (.int .u8 0) 1 rfl Try.underlying23 info5 rfl (by decide) (by omega) u3 x3_1 (bt a0 x4_1) [.int .u8 (bt a0 x4_1)] (fun _ => True) (fun _ => False) rfl rfl ?aP (fun _ hk => hk.elim) ?aF ?aO ?aB ?aS ?aL ?_; (case aP => exact rfl); (case aB => exact (by repeat (first | (with_reducible first | exact HB.out | apply below_alloc | apply pw_below_drewN | apply below_drew1) | exact HB.out))); (case aF => exact (fun _ _ => trivial)); (case aO => exact (by (with_reducible repeat (first | apply Kd.R_alloc | apply Kd.R_drewN | apply Kd.R_drew)); exact HO_3.out)); (case aS => exact (below_size (by repeat (first | (with_reducible first | exact HB.out | apply below_alloc | apply pw_below_drewN | apply below_drew1) | exact HB.out)))); (case aL => have := LMc6.out; omega); intro v137 w7 ho hb hg hat; rw [← Ny136.out] at ho; have n0_ := Aside0.mk (hb); have n1_ := Aside0.mk (ho); clear HB; clear HO_3; have HB := n0_; have HO138 := n1_; clear n0_ n1_; clear ho hb hg hat))
       go_roundg k1
       case measure => have := HK1.out; omega
       case rel => exact ⟨(y136), (wrap64 (x4_1 + 1)), (by first | rfl | (simp; done) | (simp [*]; done)), H', ⟨by have := HK1.out; omega⟩, ⟨by (with_reducible repeat (first | apply Kd.R_alloc | apply Kd.R_drewN | apply Kd.R_drew)); exact HO138.out⟩, ⟨by repeat (first | (with_reducible first | exact HB.out | apply below_alloc | apply pw_below_drewN | apply below_drew1) | exact HB.out)⟩⟩
      ·
       rw [if_neg c6] at H
       exact absurd H (by simp)
     ·
      rw [if_neg c4] at H
      exact absurd H (by simp)
    ·
     rw [if_neg c3] at H
     exact absurd H (by simp)
   ·
    rw [if_neg c2] at H
    have c2b0 : decide (x4_1 < 6) = false := decide_eq_false c2
    clear c2
    obtain rfl := Option.some.inj H
    have hcv8 := own_string (P := Try.prog) Try.underlying23 Try.underlying5 Try.underlying9 (Kd.own_of_R HO_3.out)
    go_wp2
    go_ret
    exact ⟨by first | rfl | (simp [errW_none, errW_some] <;> rfl) | (simp [*, errW_none, errW_some] <;> rfl), below_step HW.out (by repeat (first | (with_reducible first | exact HB.out | apply below_alloc | apply pw_below_drewN | apply below_drew1) | exact HB.out))⟩


end Go.Proofs.Ytchjfgdcldaacaa.HG
