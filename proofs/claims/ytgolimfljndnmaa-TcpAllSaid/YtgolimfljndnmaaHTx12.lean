/- What is proved: each Go function of this text answers as the plain Lean function beside it (a law: its given row, out of the plain statement). Conditions: those that stand in each theorem. Written by my drive.py, which calls the printer of the kit for what that covers. -/
import Derived.Test.YtgolimfljndnmaaHTx0
import Derived.Test.YtgolimfljndnmaaHTx9
import Derived.Test.YtgolimfljndnmaaHTx11
namespace Go.Proofs.Ytgolimfljndnmaa.HT
open Go.RowKit Go.Proofs.YtgolimfljndnmaaW.PrintWords Go.Proofs.YtgolimfljndnmaaW.PrintLast Go.Proofs.YtgolimfljndnmaaW.PrintMore
attribute [local go_sem] max2_int min2_int max_two min_two max_three min_three max_four min_four   -- for this text's walks alone
set_option linter.unusedVariables false
set_option linter.unusedSimpArgs false

/-! ### rampartref04_Get: function 28 -/
def rampartref04_Get.j0 : Nat → Int → Int → ByteArray → Int → Bool → Option (Int × Int × Int × Int × Int × Int × ByteArray × ByteArray × Int)
 | 0, _, _, _, _, _ => none
 | k + 1, x0, x1, x2, x9, x30 => if x30 = true then (some (0, 0, 0, 0, 0, 0, (⟨#[]⟩ : ByteArray), (⟨#[]⟩ : ByteArray), 3)) else (if (x2.size : Int) > 2000 then (some (0, 0, 0, 0, 0, 0, (⟨#[]⟩ : ByteArray), (⟨#[]⟩ : ByteArray), 5)) else ((rampartref04_Sum.f k x0 x1 6 x2).bind fun t186 => (if t186 = 0 then (if 0 ≤ 2 then (if 2 ≤ (x2.size : Int) then ((rampartref01_Num.f k (x2.extract 0 2)).bind fun t187 => (if 2 ≤ 4 then (if 4 ≤ (x2.size : Int) then ((rampartref01_Num.f k (x2.extract 2 4)).bind fun t188 => (if 4 ≤ 8 then (if 8 ≤ (x2.size : Int) then ((rampartref01_Num.f k (x2.extract 4 8)).bind fun t189 => (if 8 ≤ 12 then (if 12 ≤ (x2.size : Int) then ((rampartref01_Num.f k (x2.extract 8 12)).bind fun t190 => (if 13 < (x2.size : Int) then (if 14 ≤ 16 then (if 16 ≤ (x2.size : Int) then ((rampartref01_Num.f k (x2.extract 14 16)).bind fun t191 => (if 20 ≤ x9 then (if x9 ≤ (x2.size : Int) then (if 0 ≤ x9 then (some (t187, t188, (t189) % 4294967296, (t190) % 4294967296, wrap64 (bt x2 13), t191, x2.extract 20 (x9 : Int).toNat, x2.extract (x9 : Int).toNat x2.size, 0)) else (none)) else (none)) else (none))) else (none)) else (none)) else (none))) else (none)) else (none))) else (none)) else (none))) else (none)) else (none))) else (none)) else (none)) else (some (0, 0, 0, 0, 0, 0, (⟨#[]⟩ : ByteArray), (⟨#[]⟩ : ByteArray), 4)))))
def rampartref04_Get.f (k : Nat) (a0 : Int) (a1 : Int) (a2 : ByteArray) : Option (Int × Int × Int × Int × Int × Int × ByteArray × ByteArray × Int) := if (a2.size : Int) < 20 then (some (0, 0, 0, 0, 0, 0, (⟨#[]⟩ : ByteArray), (⟨#[]⟩ : ByteArray), 2)) else (if 12 < (a2.size : Int) then (if (wrap64 ((wrap64 ((bt a2 12) / 16)) * 4)) < 20 then (some (0, 0, 0, 0, 0, 0, (⟨#[]⟩ : ByteArray), (⟨#[]⟩ : ByteArray), 3)) else (if (a2.size : Int) < (wrap64 ((wrap64 ((bt a2 12) / 16)) * 4)) then (some (0, 0, 0, 0, 0, 0, (⟨#[]⟩ : ByteArray), (⟨#[]⟩ : ByteArray), 2)) else (if (Go.bits .and .u8 (bt a2 12) 15) = 0 then (if 13 < (a2.size : Int) then (rampartref04_Get.j0 k a0 a1 a2 (wrap64 ((wrap64 ((bt a2 12) / 16)) * 4)) (decide ((bt a2 13) > 63))) else (none)) else (rampartref04_Get.j0 k a0 a1 a2 (wrap64 ((wrap64 ((bt a2 12) / 16)) * 4)) true)))) else (none))
theorem rampartref04_Get.mono_l : ∀ k, (∀ y0 y1 y2 y3 y4, LeO (rampartref04_Get.j0 k y0 y1 y2 y3 y4) (rampartref04_Get.j0 (k + 1) y0 y1 y2 y3 y4))
 | 0 => fun _ _ _ _ _ r h => by simp [rampartref04_Get.j0] at h
 | k + 1 => by
  have ih0 := rampartref04_Get.mono_l k
  ·
   intro y0 y1 y2 y3 y4
   unfold rampartref04_Get.j0
   repeat' first
   | (with_reducible exact ih0 _ _ _ _ _)
   | (with_reducible exact rampartref01_Num.mono _ _)
   | (with_reducible exact rampartref04_Sum.mono _ _ _ _ _)
   | (with_reducible exact LeO.refl _)
   | (with_reducible exact LeO.none _)
   | (with_reducible refine LeO.ite ?_ ?_)
   | (with_reducible refine LeO.bind ?_ (fun _ => ?_))
   | exact ih0 _ _ _ _ _
   | exact rampartref01_Num.mono _ _
   | exact rampartref04_Sum.mono _ _ _ _ _
   | exact LeO.none _
   | refine LeO.ite ?_ ?_
   | refine LeO.bind ?_ (fun _ => ?_)
theorem rampartref04_Get.mono : ∀ a0 a1 a2 k, LeO (rampartref04_Get.f k a0 a1 a2) (rampartref04_Get.f (k + 1) a0 a1 a2) := by
 intro a0 a1 a2 k
 have ih0 := rampartref04_Get.mono_l k
 unfold rampartref04_Get.f
 repeat' first
   | (with_reducible exact ih0 _ _ _ _ _)
   | (with_reducible exact rampartref01_Num.mono _ _)
   | (with_reducible exact rampartref04_Sum.mono _ _ _ _ _)
   | (with_reducible exact LeO.refl _)
   | (with_reducible exact LeO.none _)
   | (with_reducible refine LeO.ite ?_ ?_)
   | (with_reducible refine LeO.bind ?_ (fun _ => ?_))
   | exact ih0 _ _ _ _ _
   | exact rampartref01_Num.mono _ _
   | exact rampartref04_Sum.mono _ _ _ _ _
   | exact LeO.none _
   | refine LeO.ite ?_ ?_
   | refine LeO.bind ?_ (fun _ => ?_)
def rampartref04_Get.T14 : Bool × List (List Nat × List Nat) := (true, [([], []), ([0], [0]), ([1], [1]), ([], []), ([3], [3]), ([4, 2], [4]), ([], []), ([6], [6]), ([7, 5], [7]), ([8], [8]), ([], []), ([10], [10]), ([11, 8], [11]), ([12], [12]), ([], []), ([14], [14]), ([15], [15]), ([], []), ([17], [17]), ([18, 12], [18]), ([], []), ([], []), ([20, 21], [20, 21]), ([2, 5, 9, 13, 16, 19, 22], [2, 5, 9, 13, 16, 19, 22]), ([], []), ([24, 23, 19, 0, 1, 2, 3, 4, 5, 6, 7, 8, 9, 10, 11, 12, 13, 14, 15, 16, 17, 18, 19, 20, 21, 22, 23, 24], [23, 24])])
def rampartref04_Get.B14 : List Nat := [0, 1, 3, 0, 8, 31, 0, 64, 255, 511, 0, 1024, 3583, 7679, 0, 16384, 49152, 0, 131072, 400895, 0, 0, 3145728, 8388607, 0, 33554431]
theorem rampartref04_Get.tab14 : rtab .any (opsOf Try.f28 14) = rampartref04_Get.T14 := by kernel_rfl
theorem rampartref04_Get.bits14 : waitsOk rampartref04_Get.T14.2 rampartref04_Get.B14 = true := by kernel_rfl
set_option maxHeartbeats 8000000 in
set_option maxRecDepth 100000 in
theorem rampartref04_Get.calls (k : Nat) (a0 : Int) (a1 : Int) (a2 : ByteArray) (r1 : Int) (r2 : Int) (r3 : Int) (r4 : Int) (r5 : Int) (r6 : Int) (r7 : ByteArray) (r8 : ByteArray) (r9 : Int) (w : World) (h : rampartref04_Get.f k a0 a1 a2 = some (r1, r2, r3, r4, r5, r6, r7, r8, r9)) :
  Calls Try.prog 28 #[.int .u32 a0, .int .u32 a1, .string a2] w fun e w' => e = .returned (.tuple #[.agg #[.int .i64 r1, .int .i64 r2, .int .u32 r3, .int .u32 r4, .int .i64 r5, .int .i64 r6, .string r7], .string r8, .int .i64 r9]) ∧ Below w.heap.size w w' := by
 have hu42 := Try.underlying42
 have HB := Aside0.mk (Below.refl w.heap.size w)
 have H : (if (a2.size : Int) < 20 then (some (0, 0, 0, 0, 0, 0, (⟨#[]⟩ : ByteArray), (⟨#[]⟩ : ByteArray), 2)) else (if 12 < (a2.size : Int) then (if (wrap64 ((wrap64 ((bt a2 12) / 16)) * 4)) < 20 then (some (0, 0, 0, 0, 0, 0, (⟨#[]⟩ : ByteArray), (⟨#[]⟩ : ByteArray), 3)) else (if (a2.size : Int) < (wrap64 ((wrap64 ((bt a2 12) / 16)) * 4)) then (some (0, 0, 0, 0, 0, 0, (⟨#[]⟩ : ByteArray), (⟨#[]⟩ : ByteArray), 2)) else (if (Go.bits .and .u8 (bt a2 12) 15) = 0 then (if 13 < (a2.size : Int) then (rampartref04_Get.j0 k a0 a1 a2 (wrap64 ((wrap64 ((bt a2 12) / 16)) * 4)) (decide ((bt a2 13) > 63))) else (none)) else (rampartref04_Get.j0 k a0 a1 a2 (wrap64 ((wrap64 ((bt a2 12) / 16)) * 4)) true)))) else (none))) = some (r1, r2, r3, r4, r5, r6, r7, r8, r9) := h
 clear h
 by_cases c4 : (a2.size : Int) < 20
 ·
  rw [if_pos c4] at H
  have c4b0 : decide ((a2.size : Int) < 20) = true := decide_eq_true c4
  have c4b1 : decide (a2.size < 20) = true := decide_eq_true (by omega)
  clear c4
  simp only [Option.some.injEq, Prod.mk.injEq] at H
  obtain ⟨rfl, rfl, rfl, rfl, rfl, rfl, rfl, rfl, rfl⟩ := H
  go_enter Try.func28, Try.ntmps28
  go_wp2_with (first | ((with_reducible refine gate_dst (N := 6) rfl ?_); refine box_event ?hg (N := 6) ?hd (cs := #[.int .i64 0, .int .i64 0, .int .u32 0, .int .u32 0, .int .i64 0, .int .i64 0, .string (⟨#[]⟩ : ByteArray)]) (t := 42) ?hr ?_; (case hd => rfl); (case hg => rfl); (case hr => first | (go_simp; done) | (go_simp; rfl)); intro gb185 hg w5 hbox hb; have n0_ := Aside0.mk (below_step (by repeat (first | (with_reducible first | exact HB.out | apply below_alloc | apply pw_below_drewN | apply below_drew1) | exact HB.out)) hb); have n1_ := Aside0.mk (hbox); have n2_ := Aside0.mk ((by rw [hg]; exact (below_size (by repeat (first | (with_reducible first | exact HB.out | apply below_alloc | apply pw_below_drewN | apply below_drew1) | exact HB.out))) : w.heap.size ≤ gb185)); have n3_ := Aside0.mk ((by rw [hg]; exact (below_size (by repeat (first | (with_reducible first | exact HB.out | apply below_alloc | apply pw_below_drewN | apply below_drew1) | exact HB.out))) : w.heap.size ≤ gb185)); clear HB; have HB := n0_; have BK185 := n1_; have GW185 := n2_; have GE185 := n3_; clear n0_ n1_ n2_ n3_; clear hb hbox hg; have hcz6_0 : w5.cell? ⟨gb185, 0, none⟩ = some (.int .i64 0) := (blk_cell BK185.out 0).trans rfl; have hcz6_1 : w5.cell? ⟨gb185, 1, none⟩ = some (.int .i64 0) := (blk_cell BK185.out 1).trans rfl; have hcz6_2 : w5.cell? ⟨gb185, 2, none⟩ = some (.int .u32 0) := (blk_cell BK185.out 2).trans rfl; have hcz6_3 : w5.cell? ⟨gb185, 3, none⟩ = some (.int .u32 0) := (blk_cell BK185.out 3).trans rfl; have hcz6_4 : w5.cell? ⟨gb185, 4, none⟩ = some (.int .i64 0) := (blk_cell BK185.out 4).trans rfl; have hcz6_5 : w5.cell? ⟨gb185, 5, none⟩ = some (.int .i64 0) := (blk_cell BK185.out 5).trans rfl; have hcz6_6 : w5.cell? ⟨gb185, 6, none⟩ = some (.string (⟨#[]⟩ : ByteArray)) := (blk_cell BK185.out 6).trans rfl; have hfz6_0 := blk_frozen BK185.out 0; have hfz6_1 := blk_frozen BK185.out 1; have hfz6_2 := blk_frozen BK185.out 2; have hfz6_3 := blk_frozen BK185.out 3; have hfz6_4 := blk_frozen BK185.out 4; have hfz6_5 := blk_frozen BK185.out 5; have hfz6_6 := blk_frozen BK185.out 6))
  refine bodyPost_ret (results_ctt rfl _ _ gb185 42 #[.int .i64 0, .int .i64 0, .int .u32 0, .int .u32 0, .int .i64 0, .int .i64 0, .string (⟨#[]⟩ : ByteArray)] (0, 0) _ rfl (by (with_reducible repeat (first | refine blk_drewN ?_ _ | refine blk_drew ?_ | refine blk_alloc ?_ _)); refine blk_put (cs := #[.int .i64 0, .int .i64 0, .int .u32 0, .int .u32 0, .int .i64 0, .int .i64 0, .string (⟨#[]⟩ : ByteArray)]) ?_ 6 _ rfl; (with_reducible repeat (first | refine blk_drewN ?_ _ | refine blk_drew ?_ | refine blk_alloc ?_ _)); refine blk_put (cs := #[.int .i64 0, .int .i64 0, .int .u32 0, .int .u32 0, .int .i64 0, .int .i64 0, .string (⟨#[]⟩ : ByteArray)]) ?_ 5 _ rfl; (with_reducible repeat (first | refine blk_drewN ?_ _ | refine blk_drew ?_ | refine blk_alloc ?_ _)); refine blk_put (cs := #[.int .i64 0, .int .i64 0, .int .u32 0, .int .u32 0, .int .i64 0, .int .i64 0, .string (⟨#[]⟩ : ByteArray)]) ?_ 4 _ rfl; (with_reducible repeat (first | refine blk_drewN ?_ _ | refine blk_drew ?_ | refine blk_alloc ?_ _)); refine blk_put (cs := #[.int .i64 0, .int .i64 0, .int .u32 0, .int .u32 0, .int .i64 0, .int .i64 0, .string (⟨#[]⟩ : ByteArray)]) ?_ 3 _ rfl; (with_reducible repeat (first | refine blk_drewN ?_ _ | refine blk_drew ?_ | refine blk_alloc ?_ _)); refine blk_put (cs := #[.int .i64 0, .int .i64 0, .int .u32 0, .int .u32 0, .int .i64 0, .int .i64 0, .string (⟨#[]⟩ : ByteArray)]) ?_ 2 _ rfl; (with_reducible repeat (first | refine blk_drewN ?_ _ | refine blk_drew ?_ | refine blk_alloc ?_ _)); refine blk_put (cs := #[.int .i64 0, .int .i64 0, .int .u32 0, .int .u32 0, .int .i64 0, .int .i64 0, .string (⟨#[]⟩ : ByteArray)]) ?_ 1 _ rfl; (with_reducible repeat (first | refine blk_drewN ?_ _ | refine blk_drew ?_ | refine blk_alloc ?_ _)); refine blk_put (cs := #[.int .i64 0, .int .i64 0, .int .u32 0, .int .u32 0, .int .i64 0, .int .i64 0, .string (⟨#[]⟩ : ByteArray)]) ?_ 0 _ rfl; (with_reducible repeat (first | refine blk_drewN ?_ _ | refine blk_drew ?_ | refine blk_alloc ?_ _)); exact BK185.out) Try.underlying42 rfl (by kernel_rfl)) rfl ?_
  exact ⟨by first | rfl | (simp [errW_none, errW_some] <;> rfl) | (simp [*, errW_none, errW_some] <;> rfl), by repeat (first | (with_reducible first | exact HB.out | apply below_alloc | apply pw_below_drewN | apply below_drew1 | refine below_set ?_ GE185.out) | exact HB.out)⟩
 ·
  rw [if_neg c4] at H
  have c4b0 : decide ((a2.size : Int) < 20) = false := decide_eq_false c4
  have c4b1 : decide (a2.size < 20) = false := decide_eq_false (by omega)
  clear c4
  by_cases c7 : 12 < (a2.size : Int)
  ·
   rw [if_pos c7] at H
   have c7b0 : decide (12 < (a2.size : Int)) = true := decide_eq_true c7
   have c7b1 : decide (12 < a2.size) = true := decide_eq_true (by omega)
   clear c7
   by_cases c9 : (wrap64 ((wrap64 ((bt a2 12) / 16)) * 4)) < 20
   ·
    rw [if_pos c9] at H
    have c9b0 : decide ((wrap64 ((wrap64 ((bt a2 12) / 16)) * 4)) < 20) = true := decide_eq_true c9
    clear c9
    simp only [Option.some.injEq, Prod.mk.injEq] at H
    obtain ⟨rfl, rfl, rfl, rfl, rfl, rfl, rfl, rfl, rfl⟩ := H
    go_enter Try.func28, Try.ntmps28
    go_wp2_with (first | ((with_reducible refine gate_dst (N := 6) rfl ?_); refine box_event ?hg (N := 6) ?hd (cs := #[.int .i64 0, .int .i64 0, .int .u32 0, .int .u32 0, .int .i64 0, .int .i64 0, .string (⟨#[]⟩ : ByteArray)]) (t := 42) ?hr ?_; (case hd => rfl); (case hg => rfl); (case hr => first | (go_simp; done) | (go_simp; rfl)); intro gb185 hg w10 hbox hb; have n0_ := Aside0.mk (below_step (by repeat (first | (with_reducible first | exact HB.out | apply below_alloc | apply pw_below_drewN | apply below_drew1) | exact HB.out)) hb); have n1_ := Aside0.mk (hbox); have n2_ := Aside0.mk ((by rw [hg]; exact (below_size (by repeat (first | (with_reducible first | exact HB.out | apply below_alloc | apply pw_below_drewN | apply below_drew1) | exact HB.out))) : w.heap.size ≤ gb185)); have n3_ := Aside0.mk ((by rw [hg]; exact (below_size (by repeat (first | (with_reducible first | exact HB.out | apply below_alloc | apply pw_below_drewN | apply below_drew1) | exact HB.out))) : w.heap.size ≤ gb185)); clear HB; have HB := n0_; have BK185 := n1_; have GW185 := n2_; have GE185 := n3_; clear n0_ n1_ n2_ n3_; clear hb hbox hg; have p8 : 0 ≤ (12 : Int) := (by omega); have q8 : 12 < a2.size := (by have : (12 : Int) < (a2.size : Int) := of_decide_eq_true (by first | (with_reducible assumption) | assumption); omega); have hx8 : ∀ h : 12 < a2.size, ((a2[12]'h).toNat : Int) = bt a2 12 := bt_at a2 12; clear p8; have qi8 : (12 < (a2.size : Int)) = True := eq_true (of_decide_eq_true (by first | (with_reducible assumption) | assumption)); replace q8 := eq_true q8; have hcz11_0 : w10.cell? ⟨gb185, 0, none⟩ = some (.int .i64 0) := (blk_cell BK185.out 0).trans rfl; have hcz11_1 : w10.cell? ⟨gb185, 1, none⟩ = some (.int .i64 0) := (blk_cell BK185.out 1).trans rfl; have hcz11_2 : w10.cell? ⟨gb185, 2, none⟩ = some (.int .u32 0) := (blk_cell BK185.out 2).trans rfl; have hcz11_3 : w10.cell? ⟨gb185, 3, none⟩ = some (.int .u32 0) := (blk_cell BK185.out 3).trans rfl; have hcz11_4 : w10.cell? ⟨gb185, 4, none⟩ = some (.int .i64 0) := (blk_cell BK185.out 4).trans rfl; have hcz11_5 : w10.cell? ⟨gb185, 5, none⟩ = some (.int .i64 0) := (blk_cell BK185.out 5).trans rfl; have hcz11_6 : w10.cell? ⟨gb185, 6, none⟩ = some (.string (⟨#[]⟩ : ByteArray)) := (blk_cell BK185.out 6).trans rfl; have hfz11_0 := blk_frozen BK185.out 0; have hfz11_1 := blk_frozen BK185.out 1; have hfz11_2 := blk_frozen BK185.out 2; have hfz11_3 := blk_frozen BK185.out 3; have hfz11_4 := blk_frozen BK185.out 4; have hfz11_5 := blk_frozen BK185.out 5; have hfz11_6 := blk_frozen BK185.out 6))
    refine bodyPost_ret (results_ctt rfl _ _ gb185 42 #[.int .i64 0, .int .i64 0, .int .u32 0, .int .u32 0, .int .i64 0, .int .i64 0, .string (⟨#[]⟩ : ByteArray)] (0, 0) _ rfl (by (with_reducible repeat (first | refine blk_drewN ?_ _ | refine blk_drew ?_ | refine blk_alloc ?_ _)); refine blk_put (cs := #[.int .i64 0, .int .i64 0, .int .u32 0, .int .u32 0, .int .i64 0, .int .i64 0, .string (⟨#[]⟩ : ByteArray)]) ?_ 6 _ rfl; (with_reducible repeat (first | refine blk_drewN ?_ _ | refine blk_drew ?_ | refine blk_alloc ?_ _)); refine blk_put (cs := #[.int .i64 0, .int .i64 0, .int .u32 0, .int .u32 0, .int .i64 0, .int .i64 0, .string (⟨#[]⟩ : ByteArray)]) ?_ 5 _ rfl; (with_reducible repeat (first | refine blk_drewN ?_ _ | refine blk_drew ?_ | refine blk_alloc ?_ _)); refine blk_put (cs := #[.int .i64 0, .int .i64 0, .int .u32 0, .int .u32 0, .int .i64 0, .int .i64 0, .string (⟨#[]⟩ : ByteArray)]) ?_ 4 _ rfl; (with_reducible repeat (first | refine blk_drewN ?_ _ | refine blk_drew ?_ | refine blk_alloc ?_ _)); refine blk_put (cs := #[.int .i64 0, .int .i64 0, .int .u32 0, .int .u32 0, .int .i64 0, .int .i64 0, .string (⟨#[]⟩ : ByteArray)]) ?_ 3 _ rfl; (with_reducible repeat (first | refine blk_drewN ?_ _ | refine blk_drew ?_ | refine blk_alloc ?_ _)); refine blk_put (cs := #[.int .i64 0, .int .i64 0, .int .u32 0, .int .u32 0, .int .i64 0, .int .i64 0, .string (⟨#[]⟩ : ByteArray)]) ?_ 2 _ rfl; (with_reducible repeat (first | refine blk_drewN ?_ _ | refine blk_drew ?_ | refine blk_alloc ?_ _)); refine blk_put (cs := #[.int .i64 0, .int .i64 0, .int .u32 0, .int .u32 0, .int .i64 0, .int .i64 0, .string (⟨#[]⟩ : ByteArray)]) ?_ 1 _ rfl; (with_reducible repeat (first | refine blk_drewN ?_ _ | refine blk_drew ?_ | refine blk_alloc ?_ _)); refine blk_put (cs := #[.int .i64 0, .int .i64 0, .int .u32 0, .int .u32 0, .int .i64 0, .int .i64 0, .string (⟨#[]⟩ : ByteArray)]) ?_ 0 _ rfl; (with_reducible repeat (first | refine blk_drewN ?_ _ | refine blk_drew ?_ | refine blk_alloc ?_ _)); exact BK185.out) Try.underlying42 rfl (by kernel_rfl)) rfl ?_
    exact ⟨by first | rfl | (simp [errW_none, errW_some] <;> rfl) | (simp [*, errW_none, errW_some] <;> rfl), by repeat (first | (with_reducible first | exact HB.out | apply below_alloc | apply pw_below_drewN | apply below_drew1 | refine below_set ?_ GE185.out) | exact HB.out)⟩
   ·
    rw [if_neg c9] at H
    have c9b0 : decide ((wrap64 ((wrap64 ((bt a2 12) / 16)) * 4)) < 20) = false := decide_eq_false c9
    clear c9
    by_cases c12 : (a2.size : Int) < (wrap64 ((wrap64 ((bt a2 12) / 16)) * 4))
    ·
     rw [if_pos c12] at H
     have c12b0 : decide ((a2.size : Int) < (wrap64 ((wrap64 ((bt a2 12) / 16)) * 4))) = true := decide_eq_true c12
     clear c12
     simp only [Option.some.injEq, Prod.mk.injEq] at H
     obtain ⟨rfl, rfl, rfl, rfl, rfl, rfl, rfl, rfl, rfl⟩ := H
     go_enter Try.func28, Try.ntmps28
     go_wp2_with (first | ((with_reducible refine gate_dst (N := 6) rfl ?_); refine box_event ?hg (N := 6) ?hd (cs := #[.int .i64 0, .int .i64 0, .int .u32 0, .int .u32 0, .int .i64 0, .int .i64 0, .string (⟨#[]⟩ : ByteArray)]) (t := 42) ?hr ?_; (case hd => rfl); (case hg => rfl); (case hr => first | (go_simp; done) | (go_simp; rfl)); intro gb185 hg w13 hbox hb; have n0_ := Aside0.mk (below_step (by repeat (first | (with_reducible first | exact HB.out | apply below_alloc | apply pw_below_drewN | apply below_drew1) | exact HB.out)) hb); have n1_ := Aside0.mk (hbox); have n2_ := Aside0.mk ((by rw [hg]; exact (below_size (by repeat (first | (with_reducible first | exact HB.out | apply below_alloc | apply pw_below_drewN | apply below_drew1) | exact HB.out))) : w.heap.size ≤ gb185)); have n3_ := Aside0.mk ((by rw [hg]; exact (below_size (by repeat (first | (with_reducible first | exact HB.out | apply below_alloc | apply pw_below_drewN | apply below_drew1) | exact HB.out))) : w.heap.size ≤ gb185)); clear HB; have HB := n0_; have BK185 := n1_; have GW185 := n2_; have GE185 := n3_; clear n0_ n1_ n2_ n3_; clear hb hbox hg; have p8 : 0 ≤ (12 : Int) := (by omega); have q8 : 12 < a2.size := (by have : (12 : Int) < (a2.size : Int) := of_decide_eq_true (by first | (with_reducible assumption) | assumption); omega); have hx8 : ∀ h : 12 < a2.size, ((a2[12]'h).toNat : Int) = bt a2 12 := bt_at a2 12; clear p8; have qi8 : (12 < (a2.size : Int)) = True := eq_true (of_decide_eq_true (by first | (with_reducible assumption) | assumption)); replace q8 := eq_true q8; have hcz14_0 : w13.cell? ⟨gb185, 0, none⟩ = some (.int .i64 0) := (blk_cell BK185.out 0).trans rfl; have hcz14_1 : w13.cell? ⟨gb185, 1, none⟩ = some (.int .i64 0) := (blk_cell BK185.out 1).trans rfl; have hcz14_2 : w13.cell? ⟨gb185, 2, none⟩ = some (.int .u32 0) := (blk_cell BK185.out 2).trans rfl; have hcz14_3 : w13.cell? ⟨gb185, 3, none⟩ = some (.int .u32 0) := (blk_cell BK185.out 3).trans rfl; have hcz14_4 : w13.cell? ⟨gb185, 4, none⟩ = some (.int .i64 0) := (blk_cell BK185.out 4).trans rfl; have hcz14_5 : w13.cell? ⟨gb185, 5, none⟩ = some (.int .i64 0) := (blk_cell BK185.out 5).trans rfl; have hcz14_6 : w13.cell? ⟨gb185, 6, none⟩ = some (.string (⟨#[]⟩ : ByteArray)) := (blk_cell BK185.out 6).trans rfl; have hfz14_0 := blk_frozen BK185.out 0; have hfz14_1 := blk_frozen BK185.out 1; have hfz14_2 := blk_frozen BK185.out 2; have hfz14_3 := blk_frozen BK185.out 3; have hfz14_4 := blk_frozen BK185.out 4; have hfz14_5 := blk_frozen BK185.out 5; have hfz14_6 := blk_frozen BK185.out 6))
     refine bodyPost_ret (results_ctt rfl _ _ gb185 42 #[.int .i64 0, .int .i64 0, .int .u32 0, .int .u32 0, .int .i64 0, .int .i64 0, .string (⟨#[]⟩ : ByteArray)] (0, 0) _ rfl (by (with_reducible repeat (first | refine blk_drewN ?_ _ | refine blk_drew ?_ | refine blk_alloc ?_ _)); refine blk_put (cs := #[.int .i64 0, .int .i64 0, .int .u32 0, .int .u32 0, .int .i64 0, .int .i64 0, .string (⟨#[]⟩ : ByteArray)]) ?_ 6 _ rfl; (with_reducible repeat (first | refine blk_drewN ?_ _ | refine blk_drew ?_ | refine blk_alloc ?_ _)); refine blk_put (cs := #[.int .i64 0, .int .i64 0, .int .u32 0, .int .u32 0, .int .i64 0, .int .i64 0, .string (⟨#[]⟩ : ByteArray)]) ?_ 5 _ rfl; (with_reducible repeat (first | refine blk_drewN ?_ _ | refine blk_drew ?_ | refine blk_alloc ?_ _)); refine blk_put (cs := #[.int .i64 0, .int .i64 0, .int .u32 0, .int .u32 0, .int .i64 0, .int .i64 0, .string (⟨#[]⟩ : ByteArray)]) ?_ 4 _ rfl; (with_reducible repeat (first | refine blk_drewN ?_ _ | refine blk_drew ?_ | refine blk_alloc ?_ _)); refine blk_put (cs := #[.int .i64 0, .int .i64 0, .int .u32 0, .int .u32 0, .int .i64 0, .int .i64 0, .string (⟨#[]⟩ : ByteArray)]) ?_ 3 _ rfl; (with_reducible repeat (first | refine blk_drewN ?_ _ | refine blk_drew ?_ | refine blk_alloc ?_ _)); refine blk_put (cs := #[.int .i64 0, .int .i64 0, .int .u32 0, .int .u32 0, .int .i64 0, .int .i64 0, .string (⟨#[]⟩ : ByteArray)]) ?_ 2 _ rfl; (with_reducible repeat (first | refine blk_drewN ?_ _ | refine blk_drew ?_ | refine blk_alloc ?_ _)); refine blk_put (cs := #[.int .i64 0, .int .i64 0, .int .u32 0, .int .u32 0, .int .i64 0, .int .i64 0, .string (⟨#[]⟩ : ByteArray)]) ?_ 1 _ rfl; (with_reducible repeat (first | refine blk_drewN ?_ _ | refine blk_drew ?_ | refine blk_alloc ?_ _)); refine blk_put (cs := #[.int .i64 0, .int .i64 0, .int .u32 0, .int .u32 0, .int .i64 0, .int .i64 0, .string (⟨#[]⟩ : ByteArray)]) ?_ 0 _ rfl; (with_reducible repeat (first | refine blk_drewN ?_ _ | refine blk_drew ?_ | refine blk_alloc ?_ _)); exact BK185.out) Try.underlying42 rfl (by kernel_rfl)) rfl ?_
     exact ⟨by first | rfl | (simp [errW_none, errW_some] <;> rfl) | (simp [*, errW_none, errW_some] <;> rfl), by repeat (first | (with_reducible first | exact HB.out | apply below_alloc | apply pw_below_drewN | apply below_drew1 | refine below_set ?_ GE185.out) | exact HB.out)⟩
    ·
     rw [if_neg c12] at H
     have c12b0 : decide ((a2.size : Int) < (wrap64 ((wrap64 ((bt a2 12) / 16)) * 4))) = false := decide_eq_false c12
     clear c12
     have HC15 := Aside0.mk H
     clear H
     go_enter Try.func28, Try.ntmps28
     go_upto_region 8 with (first | ((with_reducible refine gate_dst (N := 6) rfl ?_); refine box_event ?hg (N := 6) ?hd (cs := #[.int .i64 0, .int .i64 0, .int .u32 0, .int .u32 0, .int .i64 0, .int .i64 0, .string (⟨#[]⟩ : ByteArray)]) (t := 42) ?hr ?_; (case hd => rfl); (case hg => rfl); (case hr => first | (go_simp; done) | (go_simp; rfl)); intro gb185 hg w16 hbox hb; have n0_ := Aside0.mk (below_step (by repeat (first | (with_reducible first | exact HB.out | apply below_alloc | apply pw_below_drewN | apply below_drew1) | exact HB.out)) hb); have n1_ := Aside0.mk (hbox); have n2_ := Aside0.mk ((by rw [hg]; exact (below_size (by repeat (first | (with_reducible first | exact HB.out | apply below_alloc | apply pw_below_drewN | apply below_drew1) | exact HB.out))) : w.heap.size ≤ gb185)); have n3_ := Aside0.mk ((by rw [hg]; exact (below_size (by repeat (first | (with_reducible first | exact HB.out | apply below_alloc | apply pw_below_drewN | apply below_drew1) | exact HB.out))) : w.heap.size ≤ gb185)); clear HB; have HB := n0_; have BK185 := n1_; have GW185 := n2_; have GE185 := n3_; clear n0_ n1_ n2_ n3_; clear hb hbox hg; have p8 : 0 ≤ (12 : Int) := (by omega); have q8 : 12 < a2.size := (by have : (12 : Int) < (a2.size : Int) := of_decide_eq_true (by first | (with_reducible assumption) | assumption); omega); have hx8 : ∀ h : 12 < a2.size, ((a2[12]'h).toNat : Int) = bt a2 12 := bt_at a2 12; clear p8; have qi8 : (12 < (a2.size : Int)) = True := eq_true (of_decide_eq_true (by first | (with_reducible assumption) | assumption)); replace q8 := eq_true q8))
     (try simp only [Act.put, List.setIfInBounds_toArray, List.set_cons_zero, List.set_cons_succ])
     go_cut [30] (fun v30 wc => ∃ (kq : Nat) (x30_14 : Bool), v30 = .bool x30_14 ∧ Aside0 (rampartref04_Get.j0 kq a0 a1 a2 (wrap64 ((wrap64 ((bt a2 12) / 16)) * 4)) x30_14 = some (r1, r2, r3, r4, r5, r6, r7, r8, r9)) ∧ Aside0 (kq ≤ k) ∧ Aside0 (wc.heap[gb185]? = some (.cells #[.int .i64 0, .int .i64 0, .int .u32 0, .int .u32 0, .int .i64 0, .int .i64 0, .string (⟨#[]⟩ : ByteArray)] 42 (0, 0))) ∧ Aside0 (Below w.heap.size w wc))
     case first =>
      have H := HC15.out
      clear HC15
      by_cases c18 : (Go.bits .and .u8 (bt a2 12) 15) = 0
      ·
       rw [if_pos c18] at H
       have c18b0 : ((Go.bits .and .u8 (bt a2 12) 15) == 0) = true := beq_iff_eq.mpr c18
       have c18b1 : ((Go.bits .and .u8 (bt a2 12) 15) != 0) = false := bne_eq_false_iff_eq.mpr c18
       clear c18
       (first | rw [c18b0] | (simp only [i64_w, i32_w]; rw [c18b0]) | skip)
       by_cases c19 : 13 < (a2.size : Int)
       ·
        rw [if_pos c19] at H
        have c19b0 : decide (13 < (a2.size : Int)) = true := decide_eq_true c19
        have c19b1 : decide (13 < a2.size) = true := decide_eq_true (by omega)
        clear c19
        have H' := Aside0.mk H
        clear H
        have p17 : 0 ≤ (12 : Int) := (by omega)
        have q17 : 12 < a2.size := (by have : (12 : Int) < (a2.size : Int) := of_decide_eq_true (by first | (with_reducible assumption) | assumption); omega)
        have hx17 : ∀ h : 12 < a2.size, ((a2[12]'h).toNat : Int) = bt a2 12 := bt_at a2 12
        clear p17
        have qi17 : (12 < (a2.size : Int)) = True := eq_true (of_decide_eq_true (by first | (with_reducible assumption) | assumption))
        replace q17 := eq_true q17
        have p20 : 0 ≤ (13 : Int) := (by omega)
        have q20 : 13 < a2.size := (by have : (13 : Int) < (a2.size : Int) := of_decide_eq_true (by first | (with_reducible assumption) | assumption); omega)
        have hx20 : ∀ h : 13 < a2.size, ((a2[13]'h).toNat : Int) = bt a2 13 := bt_at a2 13
        clear p20
        have qi20 : (13 < (a2.size : Int)) = True := eq_true (of_decide_eq_true (by first | (with_reducible assumption) | assumption))
        replace q20 := eq_true q20
        go_wp2
        go_meet
        case rel => exact ⟨_, (decide ((bt a2 13) > 63)), (by first | rfl | (simp; done) | (simp [*]; done)), H', ⟨by first | omega | exact Nat.le_refl _⟩, ⟨by (with_reducible repeat (first | refine blk_drewN ?_ _ | refine blk_drew ?_ | refine blk_alloc ?_ _)); exact BK185.out⟩, ⟨by repeat (first | (with_reducible first | exact HB.out | apply below_alloc | apply pw_below_drewN | apply below_drew1 | refine below_set ?_ GE185.out) | exact HB.out)⟩⟩
       ·
        rw [if_neg c19] at H
        exact absurd H (by simp)
      ·
       rw [if_neg c18] at H
       have c18b0 : ((Go.bits .and .u8 (bt a2 12) 15) == 0) = false := beq_eq_false_iff_ne.mpr c18
       have c18b1 : ((Go.bits .and .u8 (bt a2 12) 15) != 0) = true := bne_iff_ne.mpr c18
       (first | rw [c18b0] | (simp only [i64_w, i32_w]; rw [c18b0]) | skip)
       have H' := Aside0.mk H
       clear H
       have p17 : 0 ≤ (12 : Int) := (by omega)
       have q17 : 12 < a2.size := (by have : (12 : Int) < (a2.size : Int) := of_decide_eq_true (by first | (with_reducible assumption) | assumption); omega)
       have hx17 : ∀ h : 12 < a2.size, ((a2[12]'h).toNat : Int) = bt a2 12 := bt_at a2 12
       clear p17
       have qi17 : (12 < (a2.size : Int)) = True := eq_true (of_decide_eq_true (by first | (with_reducible assumption) | assumption))
       replace q17 := eq_true q17
       go_wp2
       go_meet
       case rel => exact ⟨_, (true), (by first | rfl | (simp; done) | (simp [*]; done)), H', ⟨by first | omega | exact Nat.le_refl _⟩, ⟨by (with_reducible repeat (first | refine blk_drewN ?_ _ | refine blk_drew ?_ | refine blk_alloc ?_ _)); exact BK185.out⟩, ⟨by repeat (first | (with_reducible first | exact HB.out | apply below_alloc | apply pw_below_drewN | apply below_drew1 | refine below_set ?_ GE185.out) | exact HB.out)⟩⟩
     case rest =>
      clear HC15
      try clear c1
      try clear p1
      try clear q1
      try clear hx1
      try clear qi1
      try clear c2
      try clear p2
      try clear q2
      try clear hx2
      try clear qi2
      try clear c4
      try clear c4b0
      try clear c4b1
      try clear p6
      try clear c7
      try clear c7b0
      try clear c7b1
      try clear p8
      try clear q8
      try clear hx8
      try clear qi8
      try clear c9
      try clear c9b0
      try clear c12
      try clear c12b0
      try clear p17
      try clear q17
      try clear hx17
      try clear qi17
      try clear c18
      try clear c18b0
      try clear c18b1
      try clear c19
      try clear c19b0
      try clear c19b1
      try clear p20
      try clear q20
      try clear hx20
      try clear qi20
      try clear hcz11_0
      try clear hcz11_1
      try clear hcz11_2
      try clear hcz11_3
      try clear hcz11_4
      try clear hcz11_5
      try clear hcz11_6
      try clear hcz14_0
      try clear hcz14_1
      try clear hcz14_2
      try clear hcz14_3
      try clear hcz14_4
      try clear hcz14_5
      try clear hcz14_6
      try clear hcz6_0
      try clear hcz6_1
      try clear hcz6_2
      try clear hcz6_3
      try clear hcz6_4
      try clear hcz6_5
      try clear hcz6_6
      try clear hfz11_0
      try clear hfz11_1
      try clear hfz11_2
      try clear hfz11_3
      try clear hfz11_4
      try clear hfz11_5
      try clear hfz11_6
      try clear hfz14_0
      try clear hfz14_1
      try clear hfz14_2
      try clear hfz14_3
      try clear hfz14_4
      try clear hfz14_5
      try clear hfz14_6
      try clear hfz6_0
      try clear hfz6_1
      try clear hfz6_2
      try clear hfz6_3
      try clear hfz6_4
      try clear hfz6_5
      try clear hfz6_6
      try clear p17
      try clear p20
      try clear p8
      try clear q17
      try clear q20
      try clear q8
      obtain ⟨kq, x30_14, rfl, HA, HJ14, BK185, HB⟩ := hcut
      cases kq with
      | zero => exact absurd HA.out (by simp [rampartref04_Get.j0])
      | succ kj14 =>
       have H := HA.out
       clear HA
       simp only [rampartref04_Get.j0] at H
       by_cases c21 : x30_14 = true
       ·
        subst c21
        have H1 : (some (0, 0, 0, 0, 0, 0, (⟨#[]⟩ : ByteArray), (⟨#[]⟩ : ByteArray), 3)) = some (r1, r2, r3, r4, r5, r6, r7, r8, r9) := by rw [if_pos rfl] at H; exact H
        clear H
        have H := H1
        clear H1
        simp only [Option.some.injEq, Prod.mk.injEq] at H
        obtain ⟨rfl, rfl, rfl, rfl, rfl, rfl, rfl, rfl, rfl⟩ := H
        have hcz22_0 : wc.cell? ⟨gb185, 0, none⟩ = some (.int .i64 0) := (blk_cell BK185.out 0).trans rfl
        have hcz22_1 : wc.cell? ⟨gb185, 1, none⟩ = some (.int .i64 0) := (blk_cell BK185.out 1).trans rfl
        have hcz22_2 : wc.cell? ⟨gb185, 2, none⟩ = some (.int .u32 0) := (blk_cell BK185.out 2).trans rfl
        have hcz22_3 : wc.cell? ⟨gb185, 3, none⟩ = some (.int .u32 0) := (blk_cell BK185.out 3).trans rfl
        have hcz22_4 : wc.cell? ⟨gb185, 4, none⟩ = some (.int .i64 0) := (blk_cell BK185.out 4).trans rfl
        have hcz22_5 : wc.cell? ⟨gb185, 5, none⟩ = some (.int .i64 0) := (blk_cell BK185.out 5).trans rfl
        have hcz22_6 : wc.cell? ⟨gb185, 6, none⟩ = some (.string (⟨#[]⟩ : ByteArray)) := (blk_cell BK185.out 6).trans rfl
        have hfz22_0 := blk_frozen BK185.out 0
        have hfz22_1 := blk_frozen BK185.out 1
        have hfz22_2 := blk_frozen BK185.out 2
        have hfz22_3 := blk_frozen BK185.out 3
        have hfz22_4 := blk_frozen BK185.out 4
        have hfz22_5 := blk_frozen BK185.out 5
        have hfz22_6 := blk_frozen BK185.out 6
        go_wp2
        refine bodyPost_ret (results_ctt rfl _ _ gb185 42 #[.int .i64 0, .int .i64 0, .int .u32 0, .int .u32 0, .int .i64 0, .int .i64 0, .string (⟨#[]⟩ : ByteArray)] (0, 0) _ rfl (by (with_reducible repeat (first | refine blk_drewN ?_ _ | refine blk_drew ?_ | refine blk_alloc ?_ _)); refine blk_put (cs := #[.int .i64 0, .int .i64 0, .int .u32 0, .int .u32 0, .int .i64 0, .int .i64 0, .string (⟨#[]⟩ : ByteArray)]) ?_ 6 _ rfl; (with_reducible repeat (first | refine blk_drewN ?_ _ | refine blk_drew ?_ | refine blk_alloc ?_ _)); refine blk_put (cs := #[.int .i64 0, .int .i64 0, .int .u32 0, .int .u32 0, .int .i64 0, .int .i64 0, .string (⟨#[]⟩ : ByteArray)]) ?_ 5 _ rfl; (with_reducible repeat (first | refine blk_drewN ?_ _ | refine blk_drew ?_ | refine blk_alloc ?_ _)); refine blk_put (cs := #[.int .i64 0, .int .i64 0, .int .u32 0, .int .u32 0, .int .i64 0, .int .i64 0, .string (⟨#[]⟩ : ByteArray)]) ?_ 4 _ rfl; (with_reducible repeat (first | refine blk_drewN ?_ _ | refine blk_drew ?_ | refine blk_alloc ?_ _)); refine blk_put (cs := #[.int .i64 0, .int .i64 0, .int .u32 0, .int .u32 0, .int .i64 0, .int .i64 0, .string (⟨#[]⟩ : ByteArray)]) ?_ 3 _ rfl; (with_reducible repeat (first | refine blk_drewN ?_ _ | refine blk_drew ?_ | refine blk_alloc ?_ _)); refine blk_put (cs := #[.int .i64 0, .int .i64 0, .int .u32 0, .int .u32 0, .int .i64 0, .int .i64 0, .string (⟨#[]⟩ : ByteArray)]) ?_ 2 _ rfl; (with_reducible repeat (first | refine blk_drewN ?_ _ | refine blk_drew ?_ | refine blk_alloc ?_ _)); refine blk_put (cs := #[.int .i64 0, .int .i64 0, .int .u32 0, .int .u32 0, .int .i64 0, .int .i64 0, .string (⟨#[]⟩ : ByteArray)]) ?_ 1 _ rfl; (with_reducible repeat (first | refine blk_drewN ?_ _ | refine blk_drew ?_ | refine blk_alloc ?_ _)); refine blk_put (cs := #[.int .i64 0, .int .i64 0, .int .u32 0, .int .u32 0, .int .i64 0, .int .i64 0, .string (⟨#[]⟩ : ByteArray)]) ?_ 0 _ rfl; (with_reducible repeat (first | refine blk_drewN ?_ _ | refine blk_drew ?_ | refine blk_alloc ?_ _)); exact BK185.out) Try.underlying42 rfl (by kernel_rfl)) rfl ?_
        exact ⟨by first | rfl | (simp [errW_none, errW_some] <;> rfl) | (simp [*, errW_none, errW_some] <;> rfl), by repeat (first | (with_reducible first | exact HB.out | apply below_alloc | apply pw_below_drewN | apply below_drew1 | refine below_set ?_ GE185.out) | exact HB.out)⟩
       ·
        replace c21 := Bool.eq_false_iff.mpr c21
        subst c21
        have H1 : (if (a2.size : Int) > 2000 then (some (0, 0, 0, 0, 0, 0, (⟨#[]⟩ : ByteArray), (⟨#[]⟩ : ByteArray), 5)) else ((rampartref04_Sum.f kj14 a0 a1 6 a2).bind fun t186 => (if t186 = 0 then (if 0 ≤ 2 then (if 2 ≤ (a2.size : Int) then ((rampartref01_Num.f kj14 (a2.extract 0 2)).bind fun t187 => (if 2 ≤ 4 then (if 4 ≤ (a2.size : Int) then ((rampartref01_Num.f kj14 (a2.extract 2 4)).bind fun t188 => (if 4 ≤ 8 then (if 8 ≤ (a2.size : Int) then ((rampartref01_Num.f kj14 (a2.extract 4 8)).bind fun t189 => (if 8 ≤ 12 then (if 12 ≤ (a2.size : Int) then ((rampartref01_Num.f kj14 (a2.extract 8 12)).bind fun t190 => (if 13 < (a2.size : Int) then (if 14 ≤ 16 then (if 16 ≤ (a2.size : Int) then ((rampartref01_Num.f kj14 (a2.extract 14 16)).bind fun t191 => (if 20 ≤ (wrap64 ((wrap64 ((bt a2 12) / 16)) * 4)) then (if (wrap64 ((wrap64 ((bt a2 12) / 16)) * 4)) ≤ (a2.size : Int) then (if 0 ≤ (wrap64 ((wrap64 ((bt a2 12) / 16)) * 4)) then (some (t187, t188, (t189) % 4294967296, (t190) % 4294967296, wrap64 (bt a2 13), t191, a2.extract 20 ((wrap64 ((wrap64 ((bt a2 12) / 16)) * 4)) : Int).toNat, a2.extract ((wrap64 ((wrap64 ((bt a2 12) / 16)) * 4)) : Int).toNat a2.size, 0)) else (none)) else (none)) else (none))) else (none)) else (none)) else (none))) else (none)) else (none))) else (none)) else (none))) else (none)) else (none))) else (none)) else (none)) else (some (0, 0, 0, 0, 0, 0, (⟨#[]⟩ : ByteArray), (⟨#[]⟩ : ByteArray), 4))))) = some (r1, r2, r3, r4, r5, r6, r7, r8, r9) := by rw [if_neg (show ¬ (false = true) by decide)] at H; exact H
        clear H
        have H := H1
        clear H1
        by_cases c23 : (a2.size : Int) > 2000
        ·
         rw [if_pos c23] at H
         have c23b0 : decide (2000 < (a2.size : Int)) = true := decide_eq_true c23
         have c23b1 : decide (2000 < a2.size) = true := decide_eq_true (by omega)
         clear c23
         simp only [Option.some.injEq, Prod.mk.injEq] at H
         obtain ⟨rfl, rfl, rfl, rfl, rfl, rfl, rfl, rfl, rfl⟩ := H
         have hcz24_0 : wc.cell? ⟨gb185, 0, none⟩ = some (.int .i64 0) := (blk_cell BK185.out 0).trans rfl
         have hcz24_1 : wc.cell? ⟨gb185, 1, none⟩ = some (.int .i64 0) := (blk_cell BK185.out 1).trans rfl
         have hcz24_2 : wc.cell? ⟨gb185, 2, none⟩ = some (.int .u32 0) := (blk_cell BK185.out 2).trans rfl
         have hcz24_3 : wc.cell? ⟨gb185, 3, none⟩ = some (.int .u32 0) := (blk_cell BK185.out 3).trans rfl
         have hcz24_4 : wc.cell? ⟨gb185, 4, none⟩ = some (.int .i64 0) := (blk_cell BK185.out 4).trans rfl
         have hcz24_5 : wc.cell? ⟨gb185, 5, none⟩ = some (.int .i64 0) := (blk_cell BK185.out 5).trans rfl
         have hcz24_6 : wc.cell? ⟨gb185, 6, none⟩ = some (.string (⟨#[]⟩ : ByteArray)) := (blk_cell BK185.out 6).trans rfl
         have hfz24_0 := blk_frozen BK185.out 0
         have hfz24_1 := blk_frozen BK185.out 1
         have hfz24_2 := blk_frozen BK185.out 2
         have hfz24_3 := blk_frozen BK185.out 3
         have hfz24_4 := blk_frozen BK185.out 4
         have hfz24_5 := blk_frozen BK185.out 5
         have hfz24_6 := blk_frozen BK185.out 6
         go_wp2
         refine bodyPost_ret (results_ctt rfl _ _ gb185 42 #[.int .i64 0, .int .i64 0, .int .u32 0, .int .u32 0, .int .i64 0, .int .i64 0, .string (⟨#[]⟩ : ByteArray)] (0, 0) _ rfl (by (with_reducible repeat (first | refine blk_drewN ?_ _ | refine blk_drew ?_ | refine blk_alloc ?_ _)); refine blk_put (cs := #[.int .i64 0, .int .i64 0, .int .u32 0, .int .u32 0, .int .i64 0, .int .i64 0, .string (⟨#[]⟩ : ByteArray)]) ?_ 6 _ rfl; (with_reducible repeat (first | refine blk_drewN ?_ _ | refine blk_drew ?_ | refine blk_alloc ?_ _)); refine blk_put (cs := #[.int .i64 0, .int .i64 0, .int .u32 0, .int .u32 0, .int .i64 0, .int .i64 0, .string (⟨#[]⟩ : ByteArray)]) ?_ 5 _ rfl; (with_reducible repeat (first | refine blk_drewN ?_ _ | refine blk_drew ?_ | refine blk_alloc ?_ _)); refine blk_put (cs := #[.int .i64 0, .int .i64 0, .int .u32 0, .int .u32 0, .int .i64 0, .int .i64 0, .string (⟨#[]⟩ : ByteArray)]) ?_ 4 _ rfl; (with_reducible repeat (first | refine blk_drewN ?_ _ | refine blk_drew ?_ | refine blk_alloc ?_ _)); refine blk_put (cs := #[.int .i64 0, .int .i64 0, .int .u32 0, .int .u32 0, .int .i64 0, .int .i64 0, .string (⟨#[]⟩ : ByteArray)]) ?_ 3 _ rfl; (with_reducible repeat (first | refine blk_drewN ?_ _ | refine blk_drew ?_ | refine blk_alloc ?_ _)); refine blk_put (cs := #[.int .i64 0, .int .i64 0, .int .u32 0, .int .u32 0, .int .i64 0, .int .i64 0, .string (⟨#[]⟩ : ByteArray)]) ?_ 2 _ rfl; (with_reducible repeat (first | refine blk_drewN ?_ _ | refine blk_drew ?_ | refine blk_alloc ?_ _)); refine blk_put (cs := #[.int .i64 0, .int .i64 0, .int .u32 0, .int .u32 0, .int .i64 0, .int .i64 0, .string (⟨#[]⟩ : ByteArray)]) ?_ 1 _ rfl; (with_reducible repeat (first | refine blk_drewN ?_ _ | refine blk_drew ?_ | refine blk_alloc ?_ _)); refine blk_put (cs := #[.int .i64 0, .int .i64 0, .int .u32 0, .int .u32 0, .int .i64 0, .int .i64 0, .string (⟨#[]⟩ : ByteArray)]) ?_ 0 _ rfl; (with_reducible repeat (first | refine blk_drewN ?_ _ | refine blk_drew ?_ | refine blk_alloc ?_ _)); exact BK185.out) Try.underlying42 rfl (by kernel_rfl)) rfl ?_
         exact ⟨by first | rfl | (simp [errW_none, errW_some] <;> rfl) | (simp [*, errW_none, errW_some] <;> rfl), by repeat (first | (with_reducible first | exact HB.out | apply below_alloc | apply pw_below_drewN | apply below_drew1 | refine below_set ?_ GE185.out) | exact HB.out)⟩
        ·
         rw [if_neg c23] at H
         have c23b0 : decide (2000 < (a2.size : Int)) = false := decide_eq_false c23
         have c23b1 : decide (2000 < a2.size) = false := decide_eq_false (by omega)
         clear c23
         replace H := Option.bind_eq_some_iff.mp H
         obtain ⟨t186, A250, H⟩ := H
         replace H : (if t186 = 0 then (if 0 ≤ 2 then (if 2 ≤ (a2.size : Int) then ((rampartref01_Num.f kj14 (a2.extract 0 2)).bind fun t187 => (if 2 ≤ 4 then (if 4 ≤ (a2.size : Int) then ((rampartref01_Num.f kj14 (a2.extract 2 4)).bind fun t188 => (if 4 ≤ 8 then (if 8 ≤ (a2.size : Int) then ((rampartref01_Num.f kj14 (a2.extract 4 8)).bind fun t189 => (if 8 ≤ 12 then (if 12 ≤ (a2.size : Int) then ((rampartref01_Num.f kj14 (a2.extract 8 12)).bind fun t190 => (if 13 < (a2.size : Int) then (if 14 ≤ 16 then (if 16 ≤ (a2.size : Int) then ((rampartref01_Num.f kj14 (a2.extract 14 16)).bind fun t191 => (if 20 ≤ (wrap64 ((wrap64 ((bt a2 12) / 16)) * 4)) then (if (wrap64 ((wrap64 ((bt a2 12) / 16)) * 4)) ≤ (a2.size : Int) then (if 0 ≤ (wrap64 ((wrap64 ((bt a2 12) / 16)) * 4)) then (some (t187, t188, (t189) % 4294967296, (t190) % 4294967296, wrap64 (bt a2 13), t191, a2.extract 20 ((wrap64 ((wrap64 ((bt a2 12) / 16)) * 4)) : Int).toNat, a2.extract ((wrap64 ((wrap64 ((bt a2 12) / 16)) * 4)) : Int).toNat a2.size, 0)) else (none)) else (none)) else (none))) else (none)) else (none)) else (none))) else (none)) else (none))) else (none)) else (none))) else (none)) else (none))) else (none)) else (none)) else (some (0, 0, 0, 0, 0, 0, (⟨#[]⟩ : ByteArray), (⟨#[]⟩ : ByteArray), 4))) = some (r1, r2, r3, r4, r5, r6, r7, r8, r9) := H
         have A25 := Aside0.mk A250
         clear A250
         by_cases c26 : t186 = 0
         ·
          rw [if_pos c26] at H
          have c26b0 : (t186 == 0) = true := beq_iff_eq.mpr c26
          have c26b1 : (t186 != 0) = false := bne_eq_false_iff_eq.mpr c26
          clear c26
          by_cases c27 : 0 ≤ 2
          ·
           rw [if_pos c27] at H
           have c27b0 := eq_true c27
           have c27b1 : decide (0 ≤ 2) = true := decide_eq_true c27
           clear c27
           by_cases c28 : 2 ≤ (a2.size : Int)
           ·
            rw [if_pos c28] at H
            have c28b0 := eq_true c28
            have c28b1 : decide (2 ≤ (a2.size : Int)) = true := decide_eq_true c28
            clear c28
            replace H := Option.bind_eq_some_iff.mp H
            obtain ⟨t187, A290, H⟩ := H
            replace H : (if 2 ≤ 4 then (if 4 ≤ (a2.size : Int) then ((rampartref01_Num.f kj14 (a2.extract 2 4)).bind fun t188 => (if 4 ≤ 8 then (if 8 ≤ (a2.size : Int) then ((rampartref01_Num.f kj14 (a2.extract 4 8)).bind fun t189 => (if 8 ≤ 12 then (if 12 ≤ (a2.size : Int) then ((rampartref01_Num.f kj14 (a2.extract 8 12)).bind fun t190 => (if 13 < (a2.size : Int) then (if 14 ≤ 16 then (if 16 ≤ (a2.size : Int) then ((rampartref01_Num.f kj14 (a2.extract 14 16)).bind fun t191 => (if 20 ≤ (wrap64 ((wrap64 ((bt a2 12) / 16)) * 4)) then (if (wrap64 ((wrap64 ((bt a2 12) / 16)) * 4)) ≤ (a2.size : Int) then (if 0 ≤ (wrap64 ((wrap64 ((bt a2 12) / 16)) * 4)) then (some (t187, t188, (t189) % 4294967296, (t190) % 4294967296, wrap64 (bt a2 13), t191, a2.extract 20 ((wrap64 ((wrap64 ((bt a2 12) / 16)) * 4)) : Int).toNat, a2.extract ((wrap64 ((wrap64 ((bt a2 12) / 16)) * 4)) : Int).toNat a2.size, 0)) else (none)) else (none)) else (none))) else (none)) else (none)) else (none))) else (none)) else (none))) else (none)) else (none))) else (none)) else (none)) = some (r1, r2, r3, r4, r5, r6, r7, r8, r9) := H
            have A29 := Aside0.mk A290
            clear A290
            by_cases c30 : 2 ≤ 4
            ·
             rw [if_pos c30] at H
             have c30b0 := eq_true c30
             have c30b1 : decide (2 ≤ 4) = true := decide_eq_true c30
             clear c30
             by_cases c31 : 4 ≤ (a2.size : Int)
             ·
              rw [if_pos c31] at H
              have c31b0 := eq_true c31
              have c31b1 : decide (4 ≤ (a2.size : Int)) = true := decide_eq_true c31
              clear c31
              replace H := Option.bind_eq_some_iff.mp H
              obtain ⟨t188, A320, H⟩ := H
              replace H : (if 4 ≤ 8 then (if 8 ≤ (a2.size : Int) then ((rampartref01_Num.f kj14 (a2.extract 4 8)).bind fun t189 => (if 8 ≤ 12 then (if 12 ≤ (a2.size : Int) then ((rampartref01_Num.f kj14 (a2.extract 8 12)).bind fun t190 => (if 13 < (a2.size : Int) then (if 14 ≤ 16 then (if 16 ≤ (a2.size : Int) then ((rampartref01_Num.f kj14 (a2.extract 14 16)).bind fun t191 => (if 20 ≤ (wrap64 ((wrap64 ((bt a2 12) / 16)) * 4)) then (if (wrap64 ((wrap64 ((bt a2 12) / 16)) * 4)) ≤ (a2.size : Int) then (if 0 ≤ (wrap64 ((wrap64 ((bt a2 12) / 16)) * 4)) then (some (t187, t188, (t189) % 4294967296, (t190) % 4294967296, wrap64 (bt a2 13), t191, a2.extract 20 ((wrap64 ((wrap64 ((bt a2 12) / 16)) * 4)) : Int).toNat, a2.extract ((wrap64 ((wrap64 ((bt a2 12) / 16)) * 4)) : Int).toNat a2.size, 0)) else (none)) else (none)) else (none))) else (none)) else (none)) else (none))) else (none)) else (none))) else (none)) else (none)) = some (r1, r2, r3, r4, r5, r6, r7, r8, r9) := H
              have A32 := Aside0.mk A320
              clear A320
              by_cases c33 : 4 ≤ 8
              ·
               rw [if_pos c33] at H
               have c33b0 := eq_true c33
               have c33b1 : decide (4 ≤ 8) = true := decide_eq_true c33
               clear c33
               by_cases c34 : 8 ≤ (a2.size : Int)
               ·
                rw [if_pos c34] at H
                have c34b0 := eq_true c34
                have c34b1 : decide (8 ≤ (a2.size : Int)) = true := decide_eq_true c34
                clear c34
                replace H := Option.bind_eq_some_iff.mp H
                obtain ⟨t189, A350, H⟩ := H
                replace H : (if 8 ≤ 12 then (if 12 ≤ (a2.size : Int) then ((rampartref01_Num.f kj14 (a2.extract 8 12)).bind fun t190 => (if 13 < (a2.size : Int) then (if 14 ≤ 16 then (if 16 ≤ (a2.size : Int) then ((rampartref01_Num.f kj14 (a2.extract 14 16)).bind fun t191 => (if 20 ≤ (wrap64 ((wrap64 ((bt a2 12) / 16)) * 4)) then (if (wrap64 ((wrap64 ((bt a2 12) / 16)) * 4)) ≤ (a2.size : Int) then (if 0 ≤ (wrap64 ((wrap64 ((bt a2 12) / 16)) * 4)) then (some (t187, t188, (t189) % 4294967296, (t190) % 4294967296, wrap64 (bt a2 13), t191, a2.extract 20 ((wrap64 ((wrap64 ((bt a2 12) / 16)) * 4)) : Int).toNat, a2.extract ((wrap64 ((wrap64 ((bt a2 12) / 16)) * 4)) : Int).toNat a2.size, 0)) else (none)) else (none)) else (none))) else (none)) else (none)) else (none))) else (none)) else (none)) = some (r1, r2, r3, r4, r5, r6, r7, r8, r9) := H
                have A35 := Aside0.mk A350
                clear A350
                by_cases c36 : 8 ≤ 12
                ·
                 rw [if_pos c36] at H
                 have c36b0 := eq_true c36
                 have c36b1 : decide (8 ≤ 12) = true := decide_eq_true c36
                 clear c36
                 by_cases c37 : 12 ≤ (a2.size : Int)
                 ·
                  rw [if_pos c37] at H
                  have c37b0 := eq_true c37
                  have c37b1 : decide (12 ≤ (a2.size : Int)) = true := decide_eq_true c37
                  clear c37
                  replace H := Option.bind_eq_some_iff.mp H
                  obtain ⟨t190, A380, H⟩ := H
                  replace H : (if 13 < (a2.size : Int) then (if 14 ≤ 16 then (if 16 ≤ (a2.size : Int) then ((rampartref01_Num.f kj14 (a2.extract 14 16)).bind fun t191 => (if 20 ≤ (wrap64 ((wrap64 ((bt a2 12) / 16)) * 4)) then (if (wrap64 ((wrap64 ((bt a2 12) / 16)) * 4)) ≤ (a2.size : Int) then (if 0 ≤ (wrap64 ((wrap64 ((bt a2 12) / 16)) * 4)) then (some (t187, t188, (t189) % 4294967296, (t190) % 4294967296, wrap64 (bt a2 13), t191, a2.extract 20 ((wrap64 ((wrap64 ((bt a2 12) / 16)) * 4)) : Int).toNat, a2.extract ((wrap64 ((wrap64 ((bt a2 12) / 16)) * 4)) : Int).toNat a2.size, 0)) else (none)) else (none)) else (none))) else (none)) else (none)) else (none)) = some (r1, r2, r3, r4, r5, r6, r7, r8, r9) := H
                  have A38 := Aside0.mk A380
                  clear A380
                  by_cases c39 : 13 < (a2.size : Int)
                  ·
                   rw [if_pos c39] at H
                   have c39b0 : decide (13 < (a2.size : Int)) = true := decide_eq_true c39
                   have c39b1 : decide (13 < a2.size) = true := decide_eq_true (by omega)
                   clear c39
                   by_cases c41 : 14 ≤ 16
                   ·
                    rw [if_pos c41] at H
                    have c41b0 := eq_true c41
                    have c41b1 : decide (14 ≤ 16) = true := decide_eq_true c41
                    clear c41
                    by_cases c42 : 16 ≤ (a2.size : Int)
                    ·
                     rw [if_pos c42] at H
                     have c42b0 := eq_true c42
                     have c42b1 : decide (16 ≤ (a2.size : Int)) = true := decide_eq_true c42
                     clear c42
                     replace H := Option.bind_eq_some_iff.mp H
                     obtain ⟨t191, A430, H⟩ := H
                     replace H : (if 20 ≤ (wrap64 ((wrap64 ((bt a2 12) / 16)) * 4)) then (if (wrap64 ((wrap64 ((bt a2 12) / 16)) * 4)) ≤ (a2.size : Int) then (if 0 ≤ (wrap64 ((wrap64 ((bt a2 12) / 16)) * 4)) then (some (t187, t188, (t189) % 4294967296, (t190) % 4294967296, wrap64 (bt a2 13), t191, a2.extract 20 ((wrap64 ((wrap64 ((bt a2 12) / 16)) * 4)) : Int).toNat, a2.extract ((wrap64 ((wrap64 ((bt a2 12) / 16)) * 4)) : Int).toNat a2.size, 0)) else (none)) else (none)) else (none)) = some (r1, r2, r3, r4, r5, r6, r7, r8, r9) := H
                     have A43 := Aside0.mk A430
                     clear A430
                     by_cases c44 : 20 ≤ (wrap64 ((wrap64 ((bt a2 12) / 16)) * 4))
                     ·
                      rw [if_pos c44] at H
                      have c44b0 := eq_true c44
                      have c44b1 : decide (20 ≤ (wrap64 ((wrap64 ((bt a2 12) / 16)) * 4))) = true := decide_eq_true c44
                      clear c44
                      by_cases c45 : (wrap64 ((wrap64 ((bt a2 12) / 16)) * 4)) ≤ (a2.size : Int)
                      ·
                       rw [if_pos c45] at H
                       have c45b0 := eq_true c45
                       have c45b1 : decide ((wrap64 ((wrap64 ((bt a2 12) / 16)) * 4)) ≤ (a2.size : Int)) = true := decide_eq_true c45
                       clear c45
                       obtain ⟨ji46, hji46⟩ : ∃ j_ : Int, (wrap64 ((wrap64 ((bt a2 12) / 16)) * 4)) = j_ := ⟨_, rfl⟩
                       replace H : (if 0 ≤ (ji46) then (some (t187, t188, (t189) % 4294967296, (t190) % 4294967296, wrap64 (bt a2 13), t191, a2.extract 20 ((ji46) : Int).toNat, a2.extract ((ji46) : Int).toNat a2.size, 0)) else (none)) = some (r1, r2, r3, r4, r5, r6, r7, r8, r9) := by first | (rw [hji46] at H; exact H) | (simp only [hji46] at H ⊢; exact H)
                       (try rw [hji46] at c9b0)
                       (try rw [hji46] at c12b0)
                       (try rw [hji46] at c44b0)
                       (try rw [hji46] at c44b1)
                       (try rw [hji46] at c45b0)
                       (try rw [hji46] at c45b1)
                       (try rw [hji46] at A25)
                       (try rw [hji46] at A29)
                       (try rw [hji46] at A32)
                       (try rw [hji46] at A35)
                       (try rw [hji46] at A38)
                       (try rw [hji46] at A43)
                       have hji46w : (IntKind.i64.wrap ((wrap64 ((bt a2 12) / 16)) * 4)) = ji46 := (i64_w _).trans hji46
                       by_cases c47 : 0 ≤ (ji46)
                       ·
                        rw [if_pos c47] at H
                        have c47b0 := eq_true c47
                        have c47b1 : decide (0 ≤ (ji46)) = true := decide_eq_true c47
                        clear c47
                        have c48b0 := eq_true (of_decide_eq_true (by first | (with_reducible assumption) | assumption) : (ji46) ≤ (a2.size : Int))
                        simp only [Option.some.injEq, Prod.mk.injEq] at H
                        obtain ⟨rfl, rfl, rfl, rfl, rfl, rfl, rfl, rfl, rfl⟩ := H
                        try go_wp2_with (first | ((with_reducible refine gate_callee (f := 55) rfl ?_); refine goesL_ (some 50) rfl rfl Try.func55 (by kernel_rfl) rfl #[.int .u32 a0, .int .u32 a1, .int .i64 6, .string a2] rfl (by (try simp only [List.map_toArray, List.map_cons, List.map_nil]); first | done | rfl | (simp only [List.length_drop, List.length_take]; rfl)) ?_; (with_reducible refine (rampartref04_Sum.calls kj14 a0 a1 6 a2 t186 _ A25.out).mono ?_); rintro e w49 ⟨rfl, hb⟩; refine ⟨_, rfl, ?_⟩; have n0_ := Aside0.mk (blk_below (g := gb185) (o := .cells #[.int .i64 0, .int .i64 0, .int .u32 0, .int .u32 0, .int .i64 0, .int .i64 0, .string (⟨#[]⟩ : ByteArray)] 42 (0, 0)) (by (with_reducible repeat (first | refine blk_drewN ?_ _ | refine blk_drew ?_ | refine blk_alloc ?_ _)); exact BK185.out) hb); have n1_ := Aside0.mk (below_step (by repeat (first | (with_reducible first | exact HB.out | apply below_alloc | apply pw_below_drewN | apply below_drew1 | refine below_set ?_ GE185.out) | exact HB.out)) hb); clear BK185; clear HB; have BK185 := n0_; have HB := n1_; clear n0_ n1_; (try clear hb); (try clear hb2); (try clear hk); (try clear hi)))
                        have n0_ := Aside0.mk (blk_drew BK185.out)
                        have n1_ := Aside0.mk (below_drew1 HB.out)
                        clear BK185
                        clear HB
                        have BK185 := n0_
                        have HB := n1_
                        clear n0_ n1_
                        have p40 : 0 ≤ (13 : Int) := (by omega)
                        have q40 : 13 < a2.size := (by have : (13 : Int) < (a2.size : Int) := of_decide_eq_true (by first | (with_reducible assumption) | assumption); omega)
                        have hx40 : ∀ h : 13 < a2.size, ((a2[13]'h).toNat : Int) = bt a2 13 := bt_at a2 13
                        clear p40
                        have qi40 : (13 < (a2.size : Int)) = True := eq_true (of_decide_eq_true (by first | (with_reducible assumption) | assumption))
                        replace q40 := eq_true q40
                        refine start_ (n := 26) (S := fun w' => True) (ds := []) #[false, false, false, false, false, false, false, false, false, false, false, false, false, false, false, false, false, false, false, false, false, false, false, false, false, false] (by kernel_rfl) rfl rfl trivial (fun hHeld => ?_); refine with_tabW rampartref04_Get.tab14 rampartref04_Get.bits14 (fun HT_ HW_ => ?_)
                        generalize w49.drew = w50 at BK185 HB hHeld ⊢
                        refine pure_ (i := 0) (N := some 53) (v := ?_) (a' := ?_) #[true, false, false, false, false, false, false, false, false, false, false, false, false, false, false, false, false, false, false, false, false, false, false, false, false, false] rfl rfl (any_of HT_.out (by kernel_rfl)) (fun _ _ _ h => h) (Or.inl ⟨by rfl, ?_⟩) ?_ ?_
                        rotate_left
                        ·
                         intro w'
                         go_simp
                         with_reducible rfl
                        rotate_left
                        ·
                         simp only [Act.put, List.setIfInBounds_toArray, List.set_cons_zero, List.set_cons_succ, i64_w, i32_w]
                         rfl
                        refine pure_ (i := 1) (N := some 54) (v := ?_) (a' := ?_) #[true, true, false, false, false, false, false, false, false, false, false, false, false, false, false, false, false, false, false, false, false, false, false, false, false, false] rfl rfl (any_of HT_.out (by kernel_rfl)) (fun _ _ _ h => h) (Or.inl ⟨by rfl, ?_⟩) ?_ ?_
                        rotate_left
                        ·
                         intro w'
                         go_simp
                         with_reducible rfl
                        rotate_left
                        ·
                         simp only [Act.put, List.setIfInBounds_toArray, List.set_cons_zero, List.set_cons_succ, i64_w, i32_w]
                         rfl
                        refine pure_ (i := 3) (N := some 56) (v := ?_) (a' := ?_) #[true, true, false, true, false, false, false, false, false, false, false, false, false, false, false, false, false, false, false, false, false, false, false, false, false, false] rfl rfl (any_of HT_.out (by kernel_rfl)) (fun _ _ _ h => h) (Or.inl ⟨by rfl, ?_⟩) ?_ ?_
                        rotate_left
                        ·
                         intro w'
                         go_simp
                         with_reducible rfl
                        rotate_left
                        ·
                         simp only [Act.put, List.setIfInBounds_toArray, List.set_cons_zero, List.set_cons_succ, i64_w, i32_w]
                         rfl
                        refine pure_ (i := 4) (N := some 57) (v := ?_) (a' := ?_) #[true, true, false, true, true, false, false, false, false, false, false, false, false, false, false, false, false, false, false, false, false, false, false, false, false, false] rfl rfl (any_of HT_.out (by kernel_rfl)) (fun _ _ _ h => h) (Or.inl ⟨by rfl, ?_⟩) ?_ ?_
                        rotate_left
                        ·
                         intro w'
                         go_simp
                         with_reducible rfl
                        rotate_left
                        ·
                         simp only [Act.put, List.setIfInBounds_toArray, List.set_cons_zero, List.set_cons_succ, i64_w, i32_w]
                         rfl
                        refine pure_ (i := 6) (N := some 59) (v := ?_) (a' := ?_) #[true, true, false, true, true, false, true, false, false, false, false, false, false, false, false, false, false, false, false, false, false, false, false, false, false, false] rfl rfl (any_of HT_.out (by kernel_rfl)) (fun _ _ _ h => h) (Or.inl ⟨by rfl, ?_⟩) ?_ ?_
                        rotate_left
                        ·
                         intro w'
                         go_simp
                         with_reducible rfl
                        rotate_left
                        ·
                         simp only [Act.put, List.setIfInBounds_toArray, List.set_cons_zero, List.set_cons_succ, i64_w, i32_w]
                         rfl
                        refine pure_ (i := 7) (N := some 60) (v := ?_) (a' := ?_) #[true, true, false, true, true, false, true, true, false, false, false, false, false, false, false, false, false, false, false, false, false, false, false, false, false, false] rfl rfl (any_of HT_.out (by kernel_rfl)) (fun _ _ _ h => h) (Or.inl ⟨by rfl, ?_⟩) ?_ ?_
                        rotate_left
                        ·
                         intro w'
                         go_simp
                         with_reducible rfl
                        rotate_left
                        ·
                         simp only [Act.put, List.setIfInBounds_toArray, List.set_cons_zero, List.set_cons_succ, i64_w, i32_w]
                         rfl
                        refine pure_ (i := 10) (N := some 63) (v := ?_) (a' := ?_) #[true, true, false, true, true, false, true, true, false, false, true, false, false, false, false, false, false, false, false, false, false, false, false, false, false, false] rfl rfl (any_of HT_.out (by kernel_rfl)) (fun _ _ _ h => h) (Or.inl ⟨by rfl, ?_⟩) ?_ ?_
                        rotate_left
                        ·
                         intro w'
                         go_simp
                         with_reducible rfl
                        rotate_left
                        ·
                         simp only [Act.put, List.setIfInBounds_toArray, List.set_cons_zero, List.set_cons_succ, i64_w, i32_w]
                         rfl
                        refine pure_ (i := 11) (N := some 64) (v := ?_) (a' := ?_) #[true, true, false, true, true, false, true, true, false, false, true, true, false, false, false, false, false, false, false, false, false, false, false, false, false, false] rfl rfl (any_of HT_.out (by kernel_rfl)) (fun _ _ _ h => h) (Or.inl ⟨by rfl, ?_⟩) ?_ ?_
                        rotate_left
                        ·
                         intro w'
                         go_simp
                         with_reducible rfl
                        rotate_left
                        ·
                         simp only [Act.put, List.setIfInBounds_toArray, List.set_cons_zero, List.set_cons_succ, i64_w, i32_w]
                         rfl
                        refine pure_ (i := 14) (N := some 67) (v := ?_) (a' := ?_) #[true, true, false, true, true, false, true, true, false, false, true, true, false, false, true, false, false, false, false, false, false, false, false, false, false, false] rfl rfl (any_of HT_.out (by kernel_rfl)) (fun _ _ _ h => h) (Or.inl ⟨by rfl, ?_⟩) ?_ ?_
                        rotate_left
                        ·
                         intro w'
                         go_simp
                         with_reducible rfl
                        rotate_left
                        ·
                         simp only [Act.put, List.setIfInBounds_toArray, List.set_cons_zero, List.set_cons_succ, i64_w, i32_w]
                         rfl
                        refine pure_ (i := 17) (N := some 70) (v := ?_) (a' := ?_) #[true, true, false, true, true, false, true, true, false, false, true, true, false, false, true, false, false, true, false, false, false, false, false, false, false, false] rfl rfl (any_of HT_.out (by kernel_rfl)) (fun _ _ _ h => h) (Or.inl ⟨by rfl, ?_⟩) ?_ ?_
                        rotate_left
                        ·
                         intro w'
                         go_simp
                         with_reducible rfl
                        rotate_left
                        ·
                         simp only [Act.put, List.setIfInBounds_toArray, List.set_cons_zero, List.set_cons_succ, i64_w, i32_w]
                         rfl
                        refine pure_ (i := 18) (N := some 71) (v := ?_) (a' := ?_) #[true, true, false, true, true, false, true, true, false, false, true, true, false, false, true, false, false, true, true, false, false, false, false, false, false, false] rfl rfl (any_of HT_.out (by kernel_rfl)) (fun _ _ _ h => h) (Or.inl ⟨by rfl, ?_⟩) ?_ ?_
                        rotate_left
                        ·
                         intro w'
                         go_simp
                         with_reducible rfl
                        rotate_left
                        ·
                         simp only [Act.put, List.setIfInBounds_toArray, List.set_cons_zero, List.set_cons_succ, i64_w, i32_w]
                         rfl
                        refine pure_ (i := 20) (N := some 73) (v := ?_) (a' := ?_) #[true, true, false, true, true, false, true, true, false, false, true, true, false, false, true, false, false, true, true, false, true, false, false, false, false, false] rfl rfl (any_of HT_.out (by kernel_rfl)) (fun _ _ _ h => h) (Or.inl ⟨by rfl, ?_⟩) ?_ ?_
                        rotate_left
                        ·
                         intro w'
                         go_simp
                         with_reducible rfl
                        rotate_left
                        ·
                         simp only [Act.put, List.setIfInBounds_toArray, List.set_cons_zero, List.set_cons_succ, i64_w, i32_w]
                         rfl
                        refine pure_ (i := 21) (N := some 74) (v := ?_) (a' := ?_) #[true, true, false, true, true, false, true, true, false, false, true, true, false, false, true, false, false, true, true, false, true, true, false, false, false, false] rfl rfl (any_of HT_.out (by kernel_rfl)) (fun _ _ _ h => h) (Or.inl ⟨by rfl, ?_⟩) ?_ ?_
                        rotate_left
                        ·
                         intro w'
                         go_simp
                         with_reducible rfl
                        rotate_left
                        ·
                         simp only [Act.put, List.setIfInBounds_toArray, List.set_cons_zero, List.set_cons_succ, i64_w, i32_w]
                         rfl
                        refine pure_ (i := 22) (N := some 75) (v := ?_) (a' := ?_) #[true, true, false, true, true, false, true, true, false, false, true, true, false, false, true, false, false, true, true, false, true, true, true, false, false, false] rfl rfl (any_of HT_.out (by kernel_rfl)) (fun _ _ _ h => h) (Or.inl ⟨by rfl, ?_⟩) ?_ ?_
                        rotate_left
                        ·
                         intro w'
                         go_simp
                         with_reducible rfl
                        rotate_left
                        ·
                         simp only [Act.put, List.setIfInBounds_toArray, List.set_cons_zero, List.set_cons_succ, i64_w, i32_w]
                         rfl
                        refine take_ (i := 15) (N := some 68) (v := ?_) (a' := ?_) #[true, true, false, true, true, false, true, true, false, false, true, true, false, false, true, true, false, true, true, false, true, true, true, false, false, false] rfl rfl (take_ofW HT_.out HW_.out (by kernel_rfl)) (fun _ _ _ h => h) (Or.inl ⟨by rfl, ?_⟩) hHeld ?_ ?_
                        rotate_left
                        ·
                         intro w' _
                         go_simp
                         with_reducible rfl
                        rotate_left
                        ·
                         simp only [Act.put, List.setIfInBounds_toArray, List.set_cons_zero, List.set_cons_succ, i64_w, i32_w]
                         rfl
                        refine pure_ (i := 16) (N := some 69) (v := ?_) (a' := ?_) #[true, true, false, true, true, false, true, true, false, false, true, true, false, false, true, true, true, true, true, false, true, true, true, false, false, false] rfl rfl (any_of HT_.out (by kernel_rfl)) (fun _ _ _ h => h) (Or.inl ⟨by rfl, ?_⟩) ?_ ?_
                        rotate_left
                        ·
                         intro w'
                         go_simp
                         with_reducible rfl
                        rotate_left
                        ·
                         simp only [Act.put, List.setIfInBounds_toArray, List.set_cons_zero, List.set_cons_succ, i64_w, i32_w]
                         rfl
                        refine join_ (σ := Nat) 1 #[true, true, true, true, true, true, true, true, true, true, true, true, true, true, true, true, true, true, true, true, true, true, true, true, true, false] (fun s_ => [(55, .int .i64 t187), (58, .int .i64 t188), (61, .int .i64 t189), (65, .int .i64 t190), (72, .int .i64 t191), (10, .pointer (some ⟨s_, 0, none⟩)), (62, .int .u32 ((t189) % 4294967296)), (66, .int .u32 ((t190) % 4294967296)), (76, .agg #[.int .i64 t187, .int .i64 t188, .int .u32 ((t189) % 4294967296), .int .u32 ((t190) % 4294967296), .int .i64 (wrap64 (bt a2 13)), .int .i64 t191, .string (a2.extract 20 ((ji46) : Int).toNat)])]) (fun s_ w' => (w'.heap[gb185]? = some (.cells #[.int .i64 0, .int .i64 0, .int .u32 0, .int .u32 0, .int .i64 0, .int .i64 0, .string (⟨#[]⟩ : ByteArray)] 42 (0, 0))) ∧ (w'.heap[s_]? = some (.cells #[.int .i64 0, .int .i64 0, .int .u32 0, .int .u32 0, .int .i64 0, .int .i64 0, .string (⟨#[]⟩ : ByteArray)] 42 (0, 0))) ∧ (w.heap.size ≤ s_) ∧ (w.heap.size ≤ s_) ∧ (gb185 ≠ s_) ∧ (s_ ≠ gb185) ∧ (Below w.heap.size w w')) ?_ ?_
                        rotate_left
                        ·
                         intro hJ2_5_8_12_19_24
                         refine join_ (σ := Unit) 2 #[true, true, true, true, true, true, true, true, true, true, true, true, true, true, true, true, true, true, true, true, true, true, true, true, false, false] (fun s_ => [(55, .int .i64 t187), (58, .int .i64 t188), (61, .int .i64 t189), (65, .int .i64 t190), (72, .int .i64 t191), (62, .int .u32 ((t189) % 4294967296)), (66, .int .u32 ((t190) % 4294967296)), (76, .agg #[.int .i64 t187, .int .i64 t188, .int .u32 ((t189) % 4294967296), .int .u32 ((t190) % 4294967296), .int .i64 (wrap64 (bt a2 13)), .int .i64 t191, .string (a2.extract 20 ((ji46) : Int).toNat)])]) (fun s_ w' => (w'.heap[gb185]? = some (.cells #[.int .i64 0, .int .i64 0, .int .u32 0, .int .u32 0, .int .i64 0, .int .i64 0, .string (⟨#[]⟩ : ByteArray)] 42 (0, 0))) ∧ (Below w.heap.size w w')) ?_ ?_
                         rotate_left
                         ·
                          intro hJ2_5_8_12_19
                          refine join_ (σ := Nat) 3 #[true, true, true, true, true, true, true, true, true, true, true, true, true, true, true, true, true, true, true, false, true, true, true, false, true, false] (fun s_ => [(55, .int .i64 t187), (58, .int .i64 t188), (61, .int .i64 t189), (65, .int .i64 t190), (10, .pointer (some ⟨s_, 0, none⟩)), (62, .int .u32 ((t189) % 4294967296)), (66, .int .u32 ((t190) % 4294967296))]) (fun s_ w' => (w'.heap[gb185]? = some (.cells #[.int .i64 0, .int .i64 0, .int .u32 0, .int .u32 0, .int .i64 0, .int .i64 0, .string (⟨#[]⟩ : ByteArray)] 42 (0, 0))) ∧ (w'.heap[s_]? = some (.cells #[.int .i64 0, .int .i64 0, .int .u32 0, .int .u32 0, .int .i64 0, .int .i64 0, .string (⟨#[]⟩ : ByteArray)] 42 (0, 0))) ∧ (w.heap.size ≤ s_) ∧ (w.heap.size ≤ s_) ∧ (gb185 ≠ s_) ∧ (s_ ≠ gb185) ∧ (Below w.heap.size w w')) ?_ ?_
                          rotate_left
                          ·
                           intro hJ2_5_8_12_24
                           refine join_ (σ := Unit) 4 #[true, true, true, true, true, true, true, true, true, true, true, true, true, true, true, true, true, true, true, false, true, true, true, false, false, false] (fun s_ => [(55, .int .i64 t187), (58, .int .i64 t188), (61, .int .i64 t189), (65, .int .i64 t190), (62, .int .u32 ((t189) % 4294967296)), (66, .int .u32 ((t190) % 4294967296))]) (fun s_ w' => (w'.heap[gb185]? = some (.cells #[.int .i64 0, .int .i64 0, .int .u32 0, .int .u32 0, .int .i64 0, .int .i64 0, .string (⟨#[]⟩ : ByteArray)] 42 (0, 0))) ∧ (Below w.heap.size w w')) ?_ ?_
                           rotate_left
                           ·
                            intro hJ2_5_8_12
                            refine join_ (σ := Nat) 5 #[true, true, true, true, true, true, true, true, true, true, true, true, false, false, true, true, true, true, true, false, true, true, true, false, true, false] (fun s_ => [(55, .int .i64 t187), (58, .int .i64 t188), (61, .int .i64 t189), (10, .pointer (some ⟨s_, 0, none⟩)), (62, .int .u32 ((t189) % 4294967296))]) (fun s_ w' => (w'.heap[gb185]? = some (.cells #[.int .i64 0, .int .i64 0, .int .u32 0, .int .u32 0, .int .i64 0, .int .i64 0, .string (⟨#[]⟩ : ByteArray)] 42 (0, 0))) ∧ (w'.heap[s_]? = some (.cells #[.int .i64 0, .int .i64 0, .int .u32 0, .int .u32 0, .int .i64 0, .int .i64 0, .string (⟨#[]⟩ : ByteArray)] 42 (0, 0))) ∧ (w.heap.size ≤ s_) ∧ (w.heap.size ≤ s_) ∧ (gb185 ≠ s_) ∧ (s_ ≠ gb185) ∧ (Below w.heap.size w w')) ?_ ?_
                            rotate_left
                            ·
                             intro hJ2_5_8_24
                             refine join_ (σ := Unit) 6 #[true, true, true, true, true, true, true, true, true, true, true, true, false, false, true, true, true, true, true, false, true, true, true, false, false, false] (fun s_ => [(55, .int .i64 t187), (58, .int .i64 t188), (61, .int .i64 t189), (62, .int .u32 ((t189) % 4294967296))]) (fun s_ w' => (w'.heap[gb185]? = some (.cells #[.int .i64 0, .int .i64 0, .int .u32 0, .int .u32 0, .int .i64 0, .int .i64 0, .string (⟨#[]⟩ : ByteArray)] 42 (0, 0))) ∧ (Below w.heap.size w w')) ?_ ?_
                             rotate_left
                             ·
                              intro hJ2_5_8
                              refine join_ (σ := Nat) 7 #[true, true, true, true, true, true, true, true, false, false, true, true, false, false, true, true, true, true, true, false, true, true, true, false, true, false] (fun s_ => [(55, .int .i64 t187), (58, .int .i64 t188), (10, .pointer (some ⟨s_, 0, none⟩))]) (fun s_ w' => (w'.heap[gb185]? = some (.cells #[.int .i64 0, .int .i64 0, .int .u32 0, .int .u32 0, .int .i64 0, .int .i64 0, .string (⟨#[]⟩ : ByteArray)] 42 (0, 0))) ∧ (w'.heap[s_]? = some (.cells #[.int .i64 0, .int .i64 0, .int .u32 0, .int .u32 0, .int .i64 0, .int .i64 0, .string (⟨#[]⟩ : ByteArray)] 42 (0, 0))) ∧ (w.heap.size ≤ s_) ∧ (w.heap.size ≤ s_) ∧ (gb185 ≠ s_) ∧ (s_ ≠ gb185) ∧ (Below w.heap.size w w')) ?_ ?_
                              rotate_left
                              ·
                               intro hJ2_5_24
                               refine join_ (σ := Unit) 8 #[true, true, true, true, true, true, true, true, false, false, true, true, false, false, true, true, true, true, true, false, true, true, true, false, false, false] (fun s_ => [(55, .int .i64 t187), (58, .int .i64 t188)]) (fun s_ w' => (w'.heap[gb185]? = some (.cells #[.int .i64 0, .int .i64 0, .int .u32 0, .int .u32 0, .int .i64 0, .int .i64 0, .string (⟨#[]⟩ : ByteArray)] 42 (0, 0))) ∧ (Below w.heap.size w w')) ?_ ?_
                               rotate_left
                               ·
                                intro hJ2_5
                                refine join_ (σ := Nat) 8 #[true, true, true, true, true, false, true, true, false, false, true, true, false, false, true, true, true, true, true, false, true, true, true, false, true, false] (fun s_ => [(55, .int .i64 t187), (10, .pointer (some ⟨s_, 0, none⟩))]) (fun s_ w' => (w'.heap[gb185]? = some (.cells #[.int .i64 0, .int .i64 0, .int .u32 0, .int .u32 0, .int .i64 0, .int .i64 0, .string (⟨#[]⟩ : ByteArray)] 42 (0, 0))) ∧ (w'.heap[s_]? = some (.cells #[.int .i64 0, .int .i64 0, .int .u32 0, .int .u32 0, .int .i64 0, .int .i64 0, .string (⟨#[]⟩ : ByteArray)] 42 (0, 0))) ∧ (w.heap.size ≤ s_) ∧ (w.heap.size ≤ s_) ∧ (gb185 ≠ s_) ∧ (s_ ≠ gb185) ∧ (Below w.heap.size w w')) ?_ ?_
                                rotate_left
                                ·
                                 intro hJ2_24
                                 refine join_ (σ := Unit) 9 #[true, true, true, true, true, false, true, true, false, false, true, true, false, false, true, true, true, true, true, false, true, true, true, false, false, false] (fun s_ => [(55, .int .i64 t187)]) (fun s_ w' => (w'.heap[gb185]? = some (.cells #[.int .i64 0, .int .i64 0, .int .u32 0, .int .u32 0, .int .i64 0, .int .i64 0, .string (⟨#[]⟩ : ByteArray)] 42 (0, 0))) ∧ (Below w.heap.size w w')) ?_ ?_
                                 rotate_left
                                 ·
                                  intro hJ2
                                  refine join_ (σ := Nat) 9 #[true, true, false, true, true, false, true, true, false, false, true, true, false, false, true, true, true, true, true, false, true, true, true, false, true, false] (fun s_ => [(10, .pointer (some ⟨s_, 0, none⟩))]) (fun s_ w' => (w'.heap[gb185]? = some (.cells #[.int .i64 0, .int .i64 0, .int .u32 0, .int .u32 0, .int .i64 0, .int .i64 0, .string (⟨#[]⟩ : ByteArray)] 42 (0, 0))) ∧ (w'.heap[s_]? = some (.cells #[.int .i64 0, .int .i64 0, .int .u32 0, .int .u32 0, .int .i64 0, .int .i64 0, .string (⟨#[]⟩ : ByteArray)] 42 (0, 0))) ∧ (w.heap.size ≤ s_) ∧ (w.heap.size ≤ s_) ∧ (gb185 ≠ s_) ∧ (s_ ≠ gb185) ∧ (Below w.heap.size w w')) ?_ ?_
                                  rotate_left
                                  ·
                                   intro hJ24
                                   refine two_ (i := 2) (j := 24) (Ni := some 55) (Nj := some 10) #[true, true, true, true, true, false, true, true, false, false, true, true, false, false, true, true, true, true, true, false, true, true, true, false, false, false] #[true, true, false, true, true, false, true, true, false, false, true, true, false, false, true, true, true, true, true, false, true, true, true, false, true, false] rfl rfl rfl rfl (two_of HT_.out (by kernel_rfl)) (by decide) (by decide) (fun K hK => ?_) (fun K hK => ?_)
                                   ·
                                    skip
                                    refine goes_ Try.func51 (by kernel_rfl) rfl #[.string (a2.extract 0 2)] (by rfl) rfl rfl (by (try simp only [List.map_toArray, List.map_cons, List.map_nil]); first | done | rfl | (simp only [List.length_drop, List.length_take]; rfl)) ?_
                                    with_reducible refine (rampartref01_Num.calls kj14 (a2.extract 0 2) t187 _ A29.out).mono ?_
                                    rintro e w' ⟨rfl, ⟨nd, rfl⟩⟩
                                    refine ⟨_, rfl, ?_⟩
                                    refine hK.out _ _ trivial (fun hHeld => ?_)
                                    clear hK K
                                    refine norm_ (a' := ?_) ?_ ?_
                                    rotate_left
                                    ·
                                     show Act.put _ (some 55) _ = _
                                     simp only [Act.put, List.setIfInBounds_toArray, List.set_cons_zero, List.set_cons_succ, i64_w, i32_w]
                                     rfl
                                    exact norm_ (by first | (simp only [putAll, Act.put, List.setIfInBounds_toArray, List.set_cons_zero, List.set_cons_succ]; done) | (simp only [putAll, Act.put, List.setIfInBounds_toArray, List.set_cons_zero, List.set_cons_succ]; rfl)) (hJ2 () _ ⟨(by (with_reducible repeat (first | refine blk_drewN ?_ _ | refine blk_drew ?_ | refine blk_alloc ?_ _)); exact BK185.out), (by repeat (first | (with_reducible first | exact HB.out | apply below_alloc | apply pw_below_drewN | apply below_drew1 | refine below_set ?_ GE185.out) | exact HB.out))⟩)
                                   ·
                                    skip
                                    refine box_step ?hg (N := 10) ?hd (cs := #[.int .i64 0, .int .i64 0, .int .u32 0, .int .u32 0, .int .i64 0, .int .i64 0, .string (⟨#[]⟩ : ByteArray)]) (t := 42) ?hr ?_; (case hd => rfl); (case hg => rfl); (case hr => first | (go_simp; done) | (go_simp; rfl))
                                    intro gb192 hg w51 hbox hb
                                    have n0_ := Aside0.mk (blk_below (g := gb185) (o := .cells #[.int .i64 0, .int .i64 0, .int .u32 0, .int .u32 0, .int .i64 0, .int .i64 0, .string (⟨#[]⟩ : ByteArray)] 42 (0, 0)) (by (with_reducible repeat (first | refine blk_drewN ?_ _ | refine blk_drew ?_ | refine blk_alloc ?_ _)); exact BK185.out) hb)
                                    have n1_ := Aside0.mk (below_step (by repeat (first | (with_reducible first | exact HB.out | apply below_alloc | apply pw_below_drewN | apply below_drew1 | refine below_set ?_ GE185.out) | exact HB.out)) hb)
                                    have n2_ := Aside0.mk (hbox)
                                    have n3_ := Aside0.mk ((by rw [hg]; exact (below_size (by repeat (first | (with_reducible first | exact HB.out | apply below_alloc | apply pw_below_drewN | apply below_drew1 | refine below_set ?_ GE185.out) | exact HB.out))) : w.heap.size ≤ gb192))
                                    have n4_ := Aside0.mk ((by rw [hg]; exact (below_size (by repeat (first | (with_reducible first | exact HB.out | apply below_alloc | apply pw_below_drewN | apply below_drew1 | refine below_set ?_ GE185.out) | exact HB.out))) : w.heap.size ≤ gb192))
                                    have n5_ := Aside0.mk ((by rw [hg]; exact Nat.ne_of_lt (blk_lt (g := gb185) (o := .cells #[.int .i64 0, .int .i64 0, .int .u32 0, .int .u32 0, .int .i64 0, .int .i64 0, .string (⟨#[]⟩ : ByteArray)] 42 (0, 0)) (by (with_reducible repeat (first | refine blk_drewN ?_ _ | refine blk_drew ?_ | refine blk_alloc ?_ _)); exact BK185.out)) : gb185 ≠ gb192))
                                    have n6_ := Aside0.mk ((by rw [hg]; exact Nat.ne_of_gt (blk_lt (g := gb185) (o := .cells #[.int .i64 0, .int .i64 0, .int .u32 0, .int .u32 0, .int .i64 0, .int .i64 0, .string (⟨#[]⟩ : ByteArray)] 42 (0, 0)) (by (with_reducible repeat (first | refine blk_drewN ?_ _ | refine blk_drew ?_ | refine blk_alloc ?_ _)); exact BK185.out)) : gb192 ≠ gb185))
                                    clear BK185
                                    clear HB
                                    have BK185 := n0_
                                    have HB := n1_
                                    have BK192 := n2_
                                    have GW192 := n3_
                                    have GE192 := n4_
                                    have NB185_192 := n5_
                                    have NB192_185 := n6_
                                    clear n0_ n1_ n2_ n3_ n4_ n5_ n6_
                                    clear hb hbox hg
                                    refine hK.out _ _ trivial (fun hHeld => ?_)
                                    clear hK K
                                    refine norm_ (a' := ?_) ?_ ?_
                                    rotate_left
                                    ·
                                     show Act.put _ (some 10) _ = _
                                     simp only [Act.put, List.setIfInBounds_toArray, List.set_cons_zero, List.set_cons_succ, i64_w, i32_w]
                                     rfl
                                    exact norm_ (by first | (simp only [putAll, Act.put, List.setIfInBounds_toArray, List.set_cons_zero, List.set_cons_succ]; done) | (simp only [putAll, Act.put, List.setIfInBounds_toArray, List.set_cons_zero, List.set_cons_succ]; rfl)) (hJ24 (gb192) _ ⟨(by (with_reducible repeat (first | refine blk_drewN ?_ _ | refine blk_drew ?_ | refine blk_alloc ?_ _)); exact BK185.out), (by (with_reducible repeat (first | refine blk_drewN ?_ _ | refine blk_drew ?_ | refine blk_alloc ?_ _)); exact BK192.out), GW192.out, GE192.out, NB185_192.out, NB192_185.out, (by repeat (first | (with_reducible first | exact HB.out | apply below_alloc | apply pw_below_drewN | apply below_drew1 | refine below_set ?_ GE185.out | refine below_set ?_ GE192.out) | exact HB.out))⟩)
                                  ·
                                   skip
                                   rintro gb192 w52 ⟨h0_, h1_, h2_, h3_, h4_, h5_, h6_⟩
                                   have n0_ : Aside0 (w52.heap[gb185]? = some (.cells #[.int .i64 0, .int .i64 0, .int .u32 0, .int .u32 0, .int .i64 0, .int .i64 0, .string (⟨#[]⟩ : ByteArray)] 42 (0, 0))) := ⟨h0_⟩
                                   have n1_ : Aside0 (w52.heap[gb192]? = some (.cells #[.int .i64 0, .int .i64 0, .int .u32 0, .int .u32 0, .int .i64 0, .int .i64 0, .string (⟨#[]⟩ : ByteArray)] 42 (0, 0))) := ⟨h1_⟩
                                   have n2_ : Aside0 (w.heap.size ≤ gb192) := ⟨h2_⟩
                                   have n3_ : Aside0 (w.heap.size ≤ gb192) := ⟨h3_⟩
                                   have n4_ : Aside0 (gb185 ≠ gb192) := ⟨h4_⟩
                                   have n5_ : Aside0 (gb192 ≠ gb185) := ⟨h5_⟩
                                   have n6_ : Aside0 (Below w.heap.size w w52) := ⟨h6_⟩
                                   clear BK185
                                   clear HB
                                   clear h0_ h1_ h2_ h3_ h4_ h5_ h6_
                                   have BK185 := n0_
                                   have BK192 := n1_
                                   have GW192 := n2_
                                   have GE192 := n3_
                                   have NB185_192 := n4_
                                   have NB192_185 := n5_
                                   have HB := n6_
                                   clear n0_ n1_ n2_ n3_ n4_ n5_ n6_
                                   have hHeld := trivial
                                   refine norm_ (a' := ?_) ?_ ?_
                                   rotate_left
                                   ·
                                    simp only [putAll, Act.put, List.setIfInBounds_toArray, List.set_cons_zero, List.set_cons_succ]
                                    rfl
                                   refine one_ (i := 2) (N := some 55) #[true, true, true, true, true, false, true, true, false, false, true, true, false, false, true, true, true, true, true, false, true, true, true, false, true, false] rfl rfl (one_of HT_.out (by kernel_rfl)) (by decide) (fun K hK => ?_)
                                   refine goes_ Try.func51 (by kernel_rfl) rfl #[.string (a2.extract 0 2)] (by rfl) rfl rfl (by (try simp only [List.map_toArray, List.map_cons, List.map_nil]); first | done | rfl | (simp only [List.length_drop, List.length_take]; rfl)) ?_
                                   with_reducible refine (rampartref01_Num.calls kj14 (a2.extract 0 2) t187 _ A29.out).mono ?_
                                   rintro e w' ⟨rfl, ⟨nd, rfl⟩⟩
                                   refine ⟨_, rfl, ?_⟩
                                   refine hK.out _ _ trivial (fun hHeld => ?_)
                                   clear hK K
                                   refine norm_ (a' := ?_) ?_ ?_
                                   rotate_left
                                   ·
                                    show Act.put _ (some 55) _ = _
                                    simp only [Act.put, List.setIfInBounds_toArray, List.set_cons_zero, List.set_cons_succ, i64_w, i32_w]
                                    rfl
                                   exact norm_ (by first | (simp only [putAll, Act.put, List.setIfInBounds_toArray, List.set_cons_zero, List.set_cons_succ]; done) | (simp only [putAll, Act.put, List.setIfInBounds_toArray, List.set_cons_zero, List.set_cons_succ]; rfl)) (hJ2_24 (gb192) _ ⟨(by (with_reducible repeat (first | refine blk_drewN ?_ _ | refine blk_drew ?_ | refine blk_alloc ?_ _)); exact BK185.out), (by (with_reducible repeat (first | refine blk_drewN ?_ _ | refine blk_drew ?_ | refine blk_alloc ?_ _)); exact BK192.out), GW192.out, GE192.out, NB185_192.out, NB192_185.out, (by repeat (first | (with_reducible first | exact HB.out | apply below_alloc | apply pw_below_drewN | apply below_drew1 | refine below_set ?_ GE185.out | refine below_set ?_ GE192.out) | exact HB.out))⟩)
                                 ·
                                  skip
                                  rintro _ w51 ⟨h0_, h1_⟩
                                  have n0_ : Aside0 (w51.heap[gb185]? = some (.cells #[.int .i64 0, .int .i64 0, .int .u32 0, .int .u32 0, .int .i64 0, .int .i64 0, .string (⟨#[]⟩ : ByteArray)] 42 (0, 0))) := ⟨h0_⟩
                                  have n1_ : Aside0 (Below w.heap.size w w51) := ⟨h1_⟩
                                  clear BK185
                                  clear HB
                                  clear h0_ h1_
                                  have BK185 := n0_
                                  have HB := n1_
                                  clear n0_ n1_
                                  have hHeld := trivial
                                  refine norm_ (a' := ?_) ?_ ?_
                                  rotate_left
                                  ·
                                   simp only [putAll, Act.put, List.setIfInBounds_toArray, List.set_cons_zero, List.set_cons_succ]
                                   rfl
                                  refine two_ (i := 5) (j := 24) (Ni := some 58) (Nj := some 10) #[true, true, true, true, true, true, true, true, false, false, true, true, false, false, true, true, true, true, true, false, true, true, true, false, false, false] #[true, true, true, true, true, false, true, true, false, false, true, true, false, false, true, true, true, true, true, false, true, true, true, false, true, false] rfl rfl rfl rfl (two_of HT_.out (by kernel_rfl)) (by decide) (by decide) (fun K hK => ?_) (fun K hK => ?_)
                                  ·
                                   skip
                                   refine goes_ Try.func51 (by kernel_rfl) rfl #[.string (a2.extract 2 4)] (by rfl) rfl rfl (by (try simp only [List.map_toArray, List.map_cons, List.map_nil]); first | done | rfl | (simp only [List.length_drop, List.length_take]; rfl)) ?_
                                   with_reducible refine (rampartref01_Num.calls kj14 (a2.extract 2 4) t188 _ A32.out).mono ?_
                                   rintro e w' ⟨rfl, ⟨nd, rfl⟩⟩
                                   refine ⟨_, rfl, ?_⟩
                                   refine hK.out _ _ trivial (fun hHeld => ?_)
                                   clear hK K
                                   refine norm_ (a' := ?_) ?_ ?_
                                   rotate_left
                                   ·
                                    show Act.put _ (some 58) _ = _
                                    simp only [Act.put, List.setIfInBounds_toArray, List.set_cons_zero, List.set_cons_succ, i64_w, i32_w]
                                    rfl
                                   exact norm_ (by first | (simp only [putAll, Act.put, List.setIfInBounds_toArray, List.set_cons_zero, List.set_cons_succ]; done) | (simp only [putAll, Act.put, List.setIfInBounds_toArray, List.set_cons_zero, List.set_cons_succ]; rfl)) (hJ2_5 () _ ⟨(by (with_reducible repeat (first | refine blk_drewN ?_ _ | refine blk_drew ?_ | refine blk_alloc ?_ _)); exact BK185.out), (by repeat (first | (with_reducible first | exact HB.out | apply below_alloc | apply pw_below_drewN | apply below_drew1 | refine below_set ?_ GE185.out) | exact HB.out))⟩)
                                  ·
                                   skip
                                   refine box_step ?hg (N := 10) ?hd (cs := #[.int .i64 0, .int .i64 0, .int .u32 0, .int .u32 0, .int .i64 0, .int .i64 0, .string (⟨#[]⟩ : ByteArray)]) (t := 42) ?hr ?_; (case hd => rfl); (case hg => rfl); (case hr => first | (go_simp; done) | (go_simp; rfl))
                                   intro gb192 hg w52 hbox hb
                                   have n0_ := Aside0.mk (blk_below (g := gb185) (o := .cells #[.int .i64 0, .int .i64 0, .int .u32 0, .int .u32 0, .int .i64 0, .int .i64 0, .string (⟨#[]⟩ : ByteArray)] 42 (0, 0)) (by (with_reducible repeat (first | refine blk_drewN ?_ _ | refine blk_drew ?_ | refine blk_alloc ?_ _)); exact BK185.out) hb)
                                   have n1_ := Aside0.mk (below_step (by repeat (first | (with_reducible first | exact HB.out | apply below_alloc | apply pw_below_drewN | apply below_drew1 | refine below_set ?_ GE185.out) | exact HB.out)) hb)
                                   have n2_ := Aside0.mk (hbox)
                                   have n3_ := Aside0.mk ((by rw [hg]; exact (below_size (by repeat (first | (with_reducible first | exact HB.out | apply below_alloc | apply pw_below_drewN | apply below_drew1 | refine below_set ?_ GE185.out) | exact HB.out))) : w.heap.size ≤ gb192))
                                   have n4_ := Aside0.mk ((by rw [hg]; exact (below_size (by repeat (first | (with_reducible first | exact HB.out | apply below_alloc | apply pw_below_drewN | apply below_drew1 | refine below_set ?_ GE185.out) | exact HB.out))) : w.heap.size ≤ gb192))
                                   have n5_ := Aside0.mk ((by rw [hg]; exact Nat.ne_of_lt (blk_lt (g := gb185) (o := .cells #[.int .i64 0, .int .i64 0, .int .u32 0, .int .u32 0, .int .i64 0, .int .i64 0, .string (⟨#[]⟩ : ByteArray)] 42 (0, 0)) (by (with_reducible repeat (first | refine blk_drewN ?_ _ | refine blk_drew ?_ | refine blk_alloc ?_ _)); exact BK185.out)) : gb185 ≠ gb192))
                                   have n6_ := Aside0.mk ((by rw [hg]; exact Nat.ne_of_gt (blk_lt (g := gb185) (o := .cells #[.int .i64 0, .int .i64 0, .int .u32 0, .int .u32 0, .int .i64 0, .int .i64 0, .string (⟨#[]⟩ : ByteArray)] 42 (0, 0)) (by (with_reducible repeat (first | refine blk_drewN ?_ _ | refine blk_drew ?_ | refine blk_alloc ?_ _)); exact BK185.out)) : gb192 ≠ gb185))
                                   clear BK185
                                   clear HB
                                   have BK185 := n0_
                                   have HB := n1_
                                   have BK192 := n2_
                                   have GW192 := n3_
                                   have GE192 := n4_
                                   have NB185_192 := n5_
                                   have NB192_185 := n6_
                                   clear n0_ n1_ n2_ n3_ n4_ n5_ n6_
                                   clear hb hbox hg
                                   refine hK.out _ _ trivial (fun hHeld => ?_)
                                   clear hK K
                                   refine norm_ (a' := ?_) ?_ ?_
                                   rotate_left
                                   ·
                                    show Act.put _ (some 10) _ = _
                                    simp only [Act.put, List.setIfInBounds_toArray, List.set_cons_zero, List.set_cons_succ, i64_w, i32_w]
                                    rfl
                                   exact norm_ (by first | (simp only [putAll, Act.put, List.setIfInBounds_toArray, List.set_cons_zero, List.set_cons_succ]; done) | (simp only [putAll, Act.put, List.setIfInBounds_toArray, List.set_cons_zero, List.set_cons_succ]; rfl)) (hJ2_24 (gb192) _ ⟨(by (with_reducible repeat (first | refine blk_drewN ?_ _ | refine blk_drew ?_ | refine blk_alloc ?_ _)); exact BK185.out), (by (with_reducible repeat (first | refine blk_drewN ?_ _ | refine blk_drew ?_ | refine blk_alloc ?_ _)); exact BK192.out), GW192.out, GE192.out, NB185_192.out, NB192_185.out, (by repeat (first | (with_reducible first | exact HB.out | apply below_alloc | apply pw_below_drewN | apply below_drew1 | refine below_set ?_ GE185.out | refine below_set ?_ GE192.out) | exact HB.out))⟩)
                                ·
                                 skip
                                 rintro gb192 w52 ⟨h0_, h1_, h2_, h3_, h4_, h5_, h6_⟩
                                 have n0_ : Aside0 (w52.heap[gb185]? = some (.cells #[.int .i64 0, .int .i64 0, .int .u32 0, .int .u32 0, .int .i64 0, .int .i64 0, .string (⟨#[]⟩ : ByteArray)] 42 (0, 0))) := ⟨h0_⟩
                                 have n1_ : Aside0 (w52.heap[gb192]? = some (.cells #[.int .i64 0, .int .i64 0, .int .u32 0, .int .u32 0, .int .i64 0, .int .i64 0, .string (⟨#[]⟩ : ByteArray)] 42 (0, 0))) := ⟨h1_⟩
                                 have n2_ : Aside0 (w.heap.size ≤ gb192) := ⟨h2_⟩
                                 have n3_ : Aside0 (w.heap.size ≤ gb192) := ⟨h3_⟩
                                 have n4_ : Aside0 (gb185 ≠ gb192) := ⟨h4_⟩
                                 have n5_ : Aside0 (gb192 ≠ gb185) := ⟨h5_⟩
                                 have n6_ : Aside0 (Below w.heap.size w w52) := ⟨h6_⟩
                                 clear BK185
                                 clear HB
                                 clear h0_ h1_ h2_ h3_ h4_ h5_ h6_
                                 have BK185 := n0_
                                 have BK192 := n1_
                                 have GW192 := n2_
                                 have GE192 := n3_
                                 have NB185_192 := n4_
                                 have NB192_185 := n5_
                                 have HB := n6_
                                 clear n0_ n1_ n2_ n3_ n4_ n5_ n6_
                                 have hHeld := trivial
                                 refine norm_ (a' := ?_) ?_ ?_
                                 rotate_left
                                 ·
                                  simp only [putAll, Act.put, List.setIfInBounds_toArray, List.set_cons_zero, List.set_cons_succ]
                                  rfl
                                 refine one_ (i := 5) (N := some 58) #[true, true, true, true, true, true, true, true, false, false, true, true, false, false, true, true, true, true, true, false, true, true, true, false, true, false] rfl rfl (one_of HT_.out (by kernel_rfl)) (by decide) (fun K hK => ?_)
                                 refine goes_ Try.func51 (by kernel_rfl) rfl #[.string (a2.extract 2 4)] (by rfl) rfl rfl (by (try simp only [List.map_toArray, List.map_cons, List.map_nil]); first | done | rfl | (simp only [List.length_drop, List.length_take]; rfl)) ?_
                                 with_reducible refine (rampartref01_Num.calls kj14 (a2.extract 2 4) t188 _ A32.out).mono ?_
                                 rintro e w' ⟨rfl, ⟨nd, rfl⟩⟩
                                 refine ⟨_, rfl, ?_⟩
                                 refine hK.out _ _ trivial (fun hHeld => ?_)
                                 clear hK K
                                 refine norm_ (a' := ?_) ?_ ?_
                                 rotate_left
                                 ·
                                  show Act.put _ (some 58) _ = _
                                  simp only [Act.put, List.setIfInBounds_toArray, List.set_cons_zero, List.set_cons_succ, i64_w, i32_w]
                                  rfl
                                 exact norm_ (by first | (simp only [putAll, Act.put, List.setIfInBounds_toArray, List.set_cons_zero, List.set_cons_succ]; done) | (simp only [putAll, Act.put, List.setIfInBounds_toArray, List.set_cons_zero, List.set_cons_succ]; rfl)) (hJ2_5_24 (gb192) _ ⟨(by (with_reducible repeat (first | refine blk_drewN ?_ _ | refine blk_drew ?_ | refine blk_alloc ?_ _)); exact BK185.out), (by (with_reducible repeat (first | refine blk_drewN ?_ _ | refine blk_drew ?_ | refine blk_alloc ?_ _)); exact BK192.out), GW192.out, GE192.out, NB185_192.out, NB192_185.out, (by repeat (first | (with_reducible first | exact HB.out | apply below_alloc | apply pw_below_drewN | apply below_drew1 | refine below_set ?_ GE185.out | refine below_set ?_ GE192.out) | exact HB.out))⟩)
                               ·
                                skip
                                rintro _ w51 ⟨h0_, h1_⟩
                                have n0_ : Aside0 (w51.heap[gb185]? = some (.cells #[.int .i64 0, .int .i64 0, .int .u32 0, .int .u32 0, .int .i64 0, .int .i64 0, .string (⟨#[]⟩ : ByteArray)] 42 (0, 0))) := ⟨h0_⟩
                                have n1_ : Aside0 (Below w.heap.size w w51) := ⟨h1_⟩
                                clear BK185
                                clear HB
                                clear h0_ h1_
                                have BK185 := n0_
                                have HB := n1_
                                clear n0_ n1_
                                have hHeld := trivial
                                refine norm_ (a' := ?_) ?_ ?_
                                rotate_left
                                ·
                                 simp only [putAll, Act.put, List.setIfInBounds_toArray, List.set_cons_zero, List.set_cons_succ]
                                 rfl
                                refine two_ (i := 8) (j := 24) (Ni := some 61) (Nj := some 10) #[true, true, true, true, true, true, true, true, true, false, true, true, false, false, true, true, true, true, true, false, true, true, true, false, false, false] #[true, true, true, true, true, true, true, true, false, false, true, true, false, false, true, true, true, true, true, false, true, true, true, false, true, false] rfl rfl rfl rfl (two_of HT_.out (by kernel_rfl)) (by decide) (by decide) (fun K hK => ?_) (fun K hK => ?_)
                                ·
                                 skip
                                 refine goes_ Try.func51 (by kernel_rfl) rfl #[.string (a2.extract 4 8)] (by rfl) rfl rfl (by (try simp only [List.map_toArray, List.map_cons, List.map_nil]); first | done | rfl | (simp only [List.length_drop, List.length_take]; rfl)) ?_
                                 with_reducible refine (rampartref01_Num.calls kj14 (a2.extract 4 8) t189 _ A35.out).mono ?_
                                 rintro e w' ⟨rfl, ⟨nd, rfl⟩⟩
                                 refine ⟨_, rfl, ?_⟩
                                 refine hK.out _ _ trivial (fun hHeld => ?_)
                                 clear hK K
                                 refine norm_ (a' := ?_) ?_ ?_
                                 rotate_left
                                 ·
                                  show Act.put _ (some 61) _ = _
                                  simp only [Act.put, List.setIfInBounds_toArray, List.set_cons_zero, List.set_cons_succ, i64_w, i32_w]
                                  rfl
                                 refine pure_ (i := 9) (N := some 62) (v := ?_) (a' := ?_) #[true, true, true, true, true, true, true, true, true, true, true, true, false, false, true, true, true, true, true, false, true, true, true, false, false, false] rfl rfl (any_of HT_.out (by kernel_rfl)) (fun _ _ _ h => h) (Or.inl ⟨by rfl, ?_⟩) ?_ ?_
                                 rotate_left
                                 ·
                                  intro w'
                                  go_simp
                                  with_reducible rfl
                                 rotate_left
                                 ·
                                  simp only [Act.put, List.setIfInBounds_toArray, List.set_cons_zero, List.set_cons_succ, i64_w, i32_w]
                                  rfl
                                 exact norm_ (by first | (simp only [putAll, Act.put, List.setIfInBounds_toArray, List.set_cons_zero, List.set_cons_succ]; done) | (simp only [putAll, Act.put, List.setIfInBounds_toArray, List.set_cons_zero, List.set_cons_succ]; rfl)) (hJ2_5_8 () _ ⟨(by (with_reducible repeat (first | refine blk_drewN ?_ _ | refine blk_drew ?_ | refine blk_alloc ?_ _)); exact BK185.out), (by repeat (first | (with_reducible first | exact HB.out | apply below_alloc | apply pw_below_drewN | apply below_drew1 | refine below_set ?_ GE185.out) | exact HB.out))⟩)
                                ·
                                 skip
                                 refine box_step ?hg (N := 10) ?hd (cs := #[.int .i64 0, .int .i64 0, .int .u32 0, .int .u32 0, .int .i64 0, .int .i64 0, .string (⟨#[]⟩ : ByteArray)]) (t := 42) ?hr ?_; (case hd => rfl); (case hg => rfl); (case hr => first | (go_simp; done) | (go_simp; rfl))
                                 intro gb192 hg w52 hbox hb
                                 have n0_ := Aside0.mk (blk_below (g := gb185) (o := .cells #[.int .i64 0, .int .i64 0, .int .u32 0, .int .u32 0, .int .i64 0, .int .i64 0, .string (⟨#[]⟩ : ByteArray)] 42 (0, 0)) (by (with_reducible repeat (first | refine blk_drewN ?_ _ | refine blk_drew ?_ | refine blk_alloc ?_ _)); exact BK185.out) hb)
                                 have n1_ := Aside0.mk (below_step (by repeat (first | (with_reducible first | exact HB.out | apply below_alloc | apply pw_below_drewN | apply below_drew1 | refine below_set ?_ GE185.out) | exact HB.out)) hb)
                                 have n2_ := Aside0.mk (hbox)
                                 have n3_ := Aside0.mk ((by rw [hg]; exact (below_size (by repeat (first | (with_reducible first | exact HB.out | apply below_alloc | apply pw_below_drewN | apply below_drew1 | refine below_set ?_ GE185.out) | exact HB.out))) : w.heap.size ≤ gb192))
                                 have n4_ := Aside0.mk ((by rw [hg]; exact (below_size (by repeat (first | (with_reducible first | exact HB.out | apply below_alloc | apply pw_below_drewN | apply below_drew1 | refine below_set ?_ GE185.out) | exact HB.out))) : w.heap.size ≤ gb192))
                                 have n5_ := Aside0.mk ((by rw [hg]; exact Nat.ne_of_lt (blk_lt (g := gb185) (o := .cells #[.int .i64 0, .int .i64 0, .int .u32 0, .int .u32 0, .int .i64 0, .int .i64 0, .string (⟨#[]⟩ : ByteArray)] 42 (0, 0)) (by (with_reducible repeat (first | refine blk_drewN ?_ _ | refine blk_drew ?_ | refine blk_alloc ?_ _)); exact BK185.out)) : gb185 ≠ gb192))
                                 have n6_ := Aside0.mk ((by rw [hg]; exact Nat.ne_of_gt (blk_lt (g := gb185) (o := .cells #[.int .i64 0, .int .i64 0, .int .u32 0, .int .u32 0, .int .i64 0, .int .i64 0, .string (⟨#[]⟩ : ByteArray)] 42 (0, 0)) (by (with_reducible repeat (first | refine blk_drewN ?_ _ | refine blk_drew ?_ | refine blk_alloc ?_ _)); exact BK185.out)) : gb192 ≠ gb185))
                                 clear BK185
                                 clear HB
                                 have BK185 := n0_
                                 have HB := n1_
                                 have BK192 := n2_
                                 have GW192 := n3_
                                 have GE192 := n4_
                                 have NB185_192 := n5_
                                 have NB192_185 := n6_
                                 clear n0_ n1_ n2_ n3_ n4_ n5_ n6_
                                 clear hb hbox hg
                                 refine hK.out _ _ trivial (fun hHeld => ?_)
                                 clear hK K
                                 refine norm_ (a' := ?_) ?_ ?_
                                 rotate_left
                                 ·
                                  show Act.put _ (some 10) _ = _
                                  simp only [Act.put, List.setIfInBounds_toArray, List.set_cons_zero, List.set_cons_succ, i64_w, i32_w]
                                  rfl
                                 exact norm_ (by first | (simp only [putAll, Act.put, List.setIfInBounds_toArray, List.set_cons_zero, List.set_cons_succ]; done) | (simp only [putAll, Act.put, List.setIfInBounds_toArray, List.set_cons_zero, List.set_cons_succ]; rfl)) (hJ2_5_24 (gb192) _ ⟨(by (with_reducible repeat (first | refine blk_drewN ?_ _ | refine blk_drew ?_ | refine blk_alloc ?_ _)); exact BK185.out), (by (with_reducible repeat (first | refine blk_drewN ?_ _ | refine blk_drew ?_ | refine blk_alloc ?_ _)); exact BK192.out), GW192.out, GE192.out, NB185_192.out, NB192_185.out, (by repeat (first | (with_reducible first | exact HB.out | apply below_alloc | apply pw_below_drewN | apply below_drew1 | refine below_set ?_ GE185.out | refine below_set ?_ GE192.out) | exact HB.out))⟩)
                              ·
                               skip
                               rintro gb192 w52 ⟨h0_, h1_, h2_, h3_, h4_, h5_, h6_⟩
                               have n0_ : Aside0 (w52.heap[gb185]? = some (.cells #[.int .i64 0, .int .i64 0, .int .u32 0, .int .u32 0, .int .i64 0, .int .i64 0, .string (⟨#[]⟩ : ByteArray)] 42 (0, 0))) := ⟨h0_⟩
                               have n1_ : Aside0 (w52.heap[gb192]? = some (.cells #[.int .i64 0, .int .i64 0, .int .u32 0, .int .u32 0, .int .i64 0, .int .i64 0, .string (⟨#[]⟩ : ByteArray)] 42 (0, 0))) := ⟨h1_⟩
                               have n2_ : Aside0 (w.heap.size ≤ gb192) := ⟨h2_⟩
                               have n3_ : Aside0 (w.heap.size ≤ gb192) := ⟨h3_⟩
                               have n4_ : Aside0 (gb185 ≠ gb192) := ⟨h4_⟩
                               have n5_ : Aside0 (gb192 ≠ gb185) := ⟨h5_⟩
                               have n6_ : Aside0 (Below w.heap.size w w52) := ⟨h6_⟩
                               clear BK185
                               clear HB
                               clear h0_ h1_ h2_ h3_ h4_ h5_ h6_
                               have BK185 := n0_
                               have BK192 := n1_
                               have GW192 := n2_
                               have GE192 := n3_
                               have NB185_192 := n4_
                               have NB192_185 := n5_
                               have HB := n6_
                               clear n0_ n1_ n2_ n3_ n4_ n5_ n6_
                               have hHeld := trivial
                               refine norm_ (a' := ?_) ?_ ?_
                               rotate_left
                               ·
                                simp only [putAll, Act.put, List.setIfInBounds_toArray, List.set_cons_zero, List.set_cons_succ]
                                rfl
                               refine one_ (i := 8) (N := some 61) #[true, true, true, true, true, true, true, true, true, false, true, true, false, false, true, true, true, true, true, false, true, true, true, false, true, false] rfl rfl (one_of HT_.out (by kernel_rfl)) (by decide) (fun K hK => ?_)
                               refine goes_ Try.func51 (by kernel_rfl) rfl #[.string (a2.extract 4 8)] (by rfl) rfl rfl (by (try simp only [List.map_toArray, List.map_cons, List.map_nil]); first | done | rfl | (simp only [List.length_drop, List.length_take]; rfl)) ?_
                               with_reducible refine (rampartref01_Num.calls kj14 (a2.extract 4 8) t189 _ A35.out).mono ?_
                               rintro e w' ⟨rfl, ⟨nd, rfl⟩⟩
                               refine ⟨_, rfl, ?_⟩
                               refine hK.out _ _ trivial (fun hHeld => ?_)
                               clear hK K
                               refine norm_ (a' := ?_) ?_ ?_
                               rotate_left
                               ·
                                show Act.put _ (some 61) _ = _
                                simp only [Act.put, List.setIfInBounds_toArray, List.set_cons_zero, List.set_cons_succ, i64_w, i32_w]
                                rfl
                               refine pure_ (i := 9) (N := some 62) (v := ?_) (a' := ?_) #[true, true, true, true, true, true, true, true, true, true, true, true, false, false, true, true, true, true, true, false, true, true, true, false, true, false] rfl rfl (any_of HT_.out (by kernel_rfl)) (fun _ _ _ h => h) (Or.inl ⟨by rfl, ?_⟩) ?_ ?_
                               rotate_left
                               ·
                                intro w'
                                go_simp
                                with_reducible rfl
                               rotate_left
                               ·
                                simp only [Act.put, List.setIfInBounds_toArray, List.set_cons_zero, List.set_cons_succ, i64_w, i32_w]
                                rfl
                               exact norm_ (by first | (simp only [putAll, Act.put, List.setIfInBounds_toArray, List.set_cons_zero, List.set_cons_succ]; done) | (simp only [putAll, Act.put, List.setIfInBounds_toArray, List.set_cons_zero, List.set_cons_succ]; rfl)) (hJ2_5_8_24 (gb192) _ ⟨(by (with_reducible repeat (first | refine blk_drewN ?_ _ | refine blk_drew ?_ | refine blk_alloc ?_ _)); exact BK185.out), (by (with_reducible repeat (first | refine blk_drewN ?_ _ | refine blk_drew ?_ | refine blk_alloc ?_ _)); exact BK192.out), GW192.out, GE192.out, NB185_192.out, NB192_185.out, (by repeat (first | (with_reducible first | exact HB.out | apply below_alloc | apply pw_below_drewN | apply below_drew1 | refine below_set ?_ GE185.out | refine below_set ?_ GE192.out) | exact HB.out))⟩)
                             ·
                              skip
                              rintro _ w51 ⟨h0_, h1_⟩
                              have n0_ : Aside0 (w51.heap[gb185]? = some (.cells #[.int .i64 0, .int .i64 0, .int .u32 0, .int .u32 0, .int .i64 0, .int .i64 0, .string (⟨#[]⟩ : ByteArray)] 42 (0, 0))) := ⟨h0_⟩
                              have n1_ : Aside0 (Below w.heap.size w w51) := ⟨h1_⟩
                              clear BK185
                              clear HB
                              clear h0_ h1_
                              have BK185 := n0_
                              have HB := n1_
                              clear n0_ n1_
                              have hHeld := trivial
                              refine norm_ (a' := ?_) ?_ ?_
                              rotate_left
                              ·
                               simp only [putAll, Act.put, List.setIfInBounds_toArray, List.set_cons_zero, List.set_cons_succ]
                               rfl
                              refine two_ (i := 12) (j := 24) (Ni := some 65) (Nj := some 10) #[true, true, true, true, true, true, true, true, true, true, true, true, true, false, true, true, true, true, true, false, true, true, true, false, false, false] #[true, true, true, true, true, true, true, true, true, true, true, true, false, false, true, true, true, true, true, false, true, true, true, false, true, false] rfl rfl rfl rfl (two_of HT_.out (by kernel_rfl)) (by decide) (by decide) (fun K hK => ?_) (fun K hK => ?_)
                              ·
                               skip
                               refine goes_ Try.func51 (by kernel_rfl) rfl #[.string (a2.extract 8 12)] (by rfl) rfl rfl (by (try simp only [List.map_toArray, List.map_cons, List.map_nil]); first | done | rfl | (simp only [List.length_drop, List.length_take]; rfl)) ?_
                               with_reducible refine (rampartref01_Num.calls kj14 (a2.extract 8 12) t190 _ A38.out).mono ?_
                               rintro e w' ⟨rfl, ⟨nd, rfl⟩⟩
                               refine ⟨_, rfl, ?_⟩
                               refine hK.out _ _ trivial (fun hHeld => ?_)
                               clear hK K
                               refine norm_ (a' := ?_) ?_ ?_
                               rotate_left
                               ·
                                show Act.put _ (some 65) _ = _
                                simp only [Act.put, List.setIfInBounds_toArray, List.set_cons_zero, List.set_cons_succ, i64_w, i32_w]
                                rfl
                               refine pure_ (i := 13) (N := some 66) (v := ?_) (a' := ?_) #[true, true, true, true, true, true, true, true, true, true, true, true, true, true, true, true, true, true, true, false, true, true, true, false, false, false] rfl rfl (any_of HT_.out (by kernel_rfl)) (fun _ _ _ h => h) (Or.inl ⟨by rfl, ?_⟩) ?_ ?_
                               rotate_left
                               ·
                                intro w'
                                go_simp
                                with_reducible rfl
                               rotate_left
                               ·
                                simp only [Act.put, List.setIfInBounds_toArray, List.set_cons_zero, List.set_cons_succ, i64_w, i32_w]
                                rfl
                               exact norm_ (by first | (simp only [putAll, Act.put, List.setIfInBounds_toArray, List.set_cons_zero, List.set_cons_succ]; done) | (simp only [putAll, Act.put, List.setIfInBounds_toArray, List.set_cons_zero, List.set_cons_succ]; rfl)) (hJ2_5_8_12 () _ ⟨(by (with_reducible repeat (first | refine blk_drewN ?_ _ | refine blk_drew ?_ | refine blk_alloc ?_ _)); exact BK185.out), (by repeat (first | (with_reducible first | exact HB.out | apply below_alloc | apply pw_below_drewN | apply below_drew1 | refine below_set ?_ GE185.out) | exact HB.out))⟩)
                              ·
                               skip
                               refine box_step ?hg (N := 10) ?hd (cs := #[.int .i64 0, .int .i64 0, .int .u32 0, .int .u32 0, .int .i64 0, .int .i64 0, .string (⟨#[]⟩ : ByteArray)]) (t := 42) ?hr ?_; (case hd => rfl); (case hg => rfl); (case hr => first | (go_simp; done) | (go_simp; rfl))
                               intro gb192 hg w52 hbox hb
                               have n0_ := Aside0.mk (blk_below (g := gb185) (o := .cells #[.int .i64 0, .int .i64 0, .int .u32 0, .int .u32 0, .int .i64 0, .int .i64 0, .string (⟨#[]⟩ : ByteArray)] 42 (0, 0)) (by (with_reducible repeat (first | refine blk_drewN ?_ _ | refine blk_drew ?_ | refine blk_alloc ?_ _)); exact BK185.out) hb)
                               have n1_ := Aside0.mk (below_step (by repeat (first | (with_reducible first | exact HB.out | apply below_alloc | apply pw_below_drewN | apply below_drew1 | refine below_set ?_ GE185.out) | exact HB.out)) hb)
                               have n2_ := Aside0.mk (hbox)
                               have n3_ := Aside0.mk ((by rw [hg]; exact (below_size (by repeat (first | (with_reducible first | exact HB.out | apply below_alloc | apply pw_below_drewN | apply below_drew1 | refine below_set ?_ GE185.out) | exact HB.out))) : w.heap.size ≤ gb192))
                               have n4_ := Aside0.mk ((by rw [hg]; exact (below_size (by repeat (first | (with_reducible first | exact HB.out | apply below_alloc | apply pw_below_drewN | apply below_drew1 | refine below_set ?_ GE185.out) | exact HB.out))) : w.heap.size ≤ gb192))
                               have n5_ := Aside0.mk ((by rw [hg]; exact Nat.ne_of_lt (blk_lt (g := gb185) (o := .cells #[.int .i64 0, .int .i64 0, .int .u32 0, .int .u32 0, .int .i64 0, .int .i64 0, .string (⟨#[]⟩ : ByteArray)] 42 (0, 0)) (by (with_reducible repeat (first | refine blk_drewN ?_ _ | refine blk_drew ?_ | refine blk_alloc ?_ _)); exact BK185.out)) : gb185 ≠ gb192))
                               have n6_ := Aside0.mk ((by rw [hg]; exact Nat.ne_of_gt (blk_lt (g := gb185) (o := .cells #[.int .i64 0, .int .i64 0, .int .u32 0, .int .u32 0, .int .i64 0, .int .i64 0, .string (⟨#[]⟩ : ByteArray)] 42 (0, 0)) (by (with_reducible repeat (first | refine blk_drewN ?_ _ | refine blk_drew ?_ | refine blk_alloc ?_ _)); exact BK185.out)) : gb192 ≠ gb185))
                               clear BK185
                               clear HB
                               have BK185 := n0_
                               have HB := n1_
                               have BK192 := n2_
                               have GW192 := n3_
                               have GE192 := n4_
                               have NB185_192 := n5_
                               have NB192_185 := n6_
                               clear n0_ n1_ n2_ n3_ n4_ n5_ n6_
                               clear hb hbox hg
                               refine hK.out _ _ trivial (fun hHeld => ?_)
                               clear hK K
                               refine norm_ (a' := ?_) ?_ ?_
                               rotate_left
                               ·
                                show Act.put _ (some 10) _ = _
                                simp only [Act.put, List.setIfInBounds_toArray, List.set_cons_zero, List.set_cons_succ, i64_w, i32_w]
                                rfl
                               exact norm_ (by first | (simp only [putAll, Act.put, List.setIfInBounds_toArray, List.set_cons_zero, List.set_cons_succ]; done) | (simp only [putAll, Act.put, List.setIfInBounds_toArray, List.set_cons_zero, List.set_cons_succ]; rfl)) (hJ2_5_8_24 (gb192) _ ⟨(by (with_reducible repeat (first | refine blk_drewN ?_ _ | refine blk_drew ?_ | refine blk_alloc ?_ _)); exact BK185.out), (by (with_reducible repeat (first | refine blk_drewN ?_ _ | refine blk_drew ?_ | refine blk_alloc ?_ _)); exact BK192.out), GW192.out, GE192.out, NB185_192.out, NB192_185.out, (by repeat (first | (with_reducible first | exact HB.out | apply below_alloc | apply pw_below_drewN | apply below_drew1 | refine below_set ?_ GE185.out | refine below_set ?_ GE192.out) | exact HB.out))⟩)
                            ·
                             skip
                             rintro gb192 w52 ⟨h0_, h1_, h2_, h3_, h4_, h5_, h6_⟩
                             have n0_ : Aside0 (w52.heap[gb185]? = some (.cells #[.int .i64 0, .int .i64 0, .int .u32 0, .int .u32 0, .int .i64 0, .int .i64 0, .string (⟨#[]⟩ : ByteArray)] 42 (0, 0))) := ⟨h0_⟩
                             have n1_ : Aside0 (w52.heap[gb192]? = some (.cells #[.int .i64 0, .int .i64 0, .int .u32 0, .int .u32 0, .int .i64 0, .int .i64 0, .string (⟨#[]⟩ : ByteArray)] 42 (0, 0))) := ⟨h1_⟩
                             have n2_ : Aside0 (w.heap.size ≤ gb192) := ⟨h2_⟩
                             have n3_ : Aside0 (w.heap.size ≤ gb192) := ⟨h3_⟩
                             have n4_ : Aside0 (gb185 ≠ gb192) := ⟨h4_⟩
                             have n5_ : Aside0 (gb192 ≠ gb185) := ⟨h5_⟩
                             have n6_ : Aside0 (Below w.heap.size w w52) := ⟨h6_⟩
                             clear BK185
                             clear HB
                             clear h0_ h1_ h2_ h3_ h4_ h5_ h6_
                             have BK185 := n0_
                             have BK192 := n1_
                             have GW192 := n2_
                             have GE192 := n3_
                             have NB185_192 := n4_
                             have NB192_185 := n5_
                             have HB := n6_
                             clear n0_ n1_ n2_ n3_ n4_ n5_ n6_
                             have hHeld := trivial
                             refine norm_ (a' := ?_) ?_ ?_
                             rotate_left
                             ·
                              simp only [putAll, Act.put, List.setIfInBounds_toArray, List.set_cons_zero, List.set_cons_succ]
                              rfl
                             refine one_ (i := 12) (N := some 65) #[true, true, true, true, true, true, true, true, true, true, true, true, true, false, true, true, true, true, true, false, true, true, true, false, true, false] rfl rfl (one_of HT_.out (by kernel_rfl)) (by decide) (fun K hK => ?_)
                             refine goes_ Try.func51 (by kernel_rfl) rfl #[.string (a2.extract 8 12)] (by rfl) rfl rfl (by (try simp only [List.map_toArray, List.map_cons, List.map_nil]); first | done | rfl | (simp only [List.length_drop, List.length_take]; rfl)) ?_
                             with_reducible refine (rampartref01_Num.calls kj14 (a2.extract 8 12) t190 _ A38.out).mono ?_
                             rintro e w' ⟨rfl, ⟨nd, rfl⟩⟩
                             refine ⟨_, rfl, ?_⟩
                             refine hK.out _ _ trivial (fun hHeld => ?_)
                             clear hK K
                             refine norm_ (a' := ?_) ?_ ?_
                             rotate_left
                             ·
                              show Act.put _ (some 65) _ = _
                              simp only [Act.put, List.setIfInBounds_toArray, List.set_cons_zero, List.set_cons_succ, i64_w, i32_w]
                              rfl
                             refine pure_ (i := 13) (N := some 66) (v := ?_) (a' := ?_) #[true, true, true, true, true, true, true, true, true, true, true, true, true, true, true, true, true, true, true, false, true, true, true, false, true, false] rfl rfl (any_of HT_.out (by kernel_rfl)) (fun _ _ _ h => h) (Or.inl ⟨by rfl, ?_⟩) ?_ ?_
                             rotate_left
                             ·
                              intro w'
                              go_simp
                              with_reducible rfl
                             rotate_left
                             ·
                              simp only [Act.put, List.setIfInBounds_toArray, List.set_cons_zero, List.set_cons_succ, i64_w, i32_w]
                              rfl
                             exact norm_ (by first | (simp only [putAll, Act.put, List.setIfInBounds_toArray, List.set_cons_zero, List.set_cons_succ]; done) | (simp only [putAll, Act.put, List.setIfInBounds_toArray, List.set_cons_zero, List.set_cons_succ]; rfl)) (hJ2_5_8_12_24 (gb192) _ ⟨(by (with_reducible repeat (first | refine blk_drewN ?_ _ | refine blk_drew ?_ | refine blk_alloc ?_ _)); exact BK185.out), (by (with_reducible repeat (first | refine blk_drewN ?_ _ | refine blk_drew ?_ | refine blk_alloc ?_ _)); exact BK192.out), GW192.out, GE192.out, NB185_192.out, NB192_185.out, (by repeat (first | (with_reducible first | exact HB.out | apply below_alloc | apply pw_below_drewN | apply below_drew1 | refine below_set ?_ GE185.out | refine below_set ?_ GE192.out) | exact HB.out))⟩)
                           ·
                            skip
                            rintro _ w51 ⟨h0_, h1_⟩
                            have n0_ : Aside0 (w51.heap[gb185]? = some (.cells #[.int .i64 0, .int .i64 0, .int .u32 0, .int .u32 0, .int .i64 0, .int .i64 0, .string (⟨#[]⟩ : ByteArray)] 42 (0, 0))) := ⟨h0_⟩
                            have n1_ : Aside0 (Below w.heap.size w w51) := ⟨h1_⟩
                            clear BK185
                            clear HB
                            clear h0_ h1_
                            have BK185 := n0_
                            have HB := n1_
                            clear n0_ n1_
                            have hHeld := trivial
                            refine norm_ (a' := ?_) ?_ ?_
                            rotate_left
                            ·
                             simp only [putAll, Act.put, List.setIfInBounds_toArray, List.set_cons_zero, List.set_cons_succ]
                             rfl
                            refine two_ (i := 19) (j := 24) (Ni := some 72) (Nj := some 10) #[true, true, true, true, true, true, true, true, true, true, true, true, true, true, true, true, true, true, true, true, true, true, true, false, false, false] #[true, true, true, true, true, true, true, true, true, true, true, true, true, true, true, true, true, true, true, false, true, true, true, false, true, false] rfl rfl rfl rfl (two_of HT_.out (by kernel_rfl)) (by decide) (by decide) (fun K hK => ?_) (fun K hK => ?_)
                            ·
                             skip
                             refine goes_ Try.func51 (by kernel_rfl) rfl #[.string (a2.extract 14 16)] (by rfl) rfl rfl (by (try simp only [List.map_toArray, List.map_cons, List.map_nil]); first | done | rfl | (simp only [List.length_drop, List.length_take]; rfl)) ?_
                             with_reducible refine (rampartref01_Num.calls kj14 (a2.extract 14 16) t191 _ A43.out).mono ?_
                             rintro e w' ⟨rfl, ⟨nd, rfl⟩⟩
                             refine ⟨_, rfl, ?_⟩
                             refine hK.out _ _ trivial (fun hHeld => ?_)
                             clear hK K
                             refine norm_ (a' := ?_) ?_ ?_
                             rotate_left
                             ·
                              show Act.put _ (some 72) _ = _
                              simp only [Act.put, List.setIfInBounds_toArray, List.set_cons_zero, List.set_cons_succ, i64_w, i32_w]
                              rfl
                             refine pure_ (i := 23) (N := some 76) (v := ?_) (a' := ?_) #[true, true, true, true, true, true, true, true, true, true, true, true, true, true, true, true, true, true, true, true, true, true, true, true, false, false] rfl rfl (any_of HT_.out (by kernel_rfl)) (fun _ _ _ h => h) (Or.inl ⟨by rfl, ?_⟩) ?_ ?_
                             rotate_left
                             ·
                              intro w'
                              go_simp
                              with_reducible rfl
                             rotate_left
                             ·
                              simp only [Act.put, List.setIfInBounds_toArray, List.set_cons_zero, List.set_cons_succ, i64_w, i32_w]
                              rfl
                             exact norm_ (by first | (simp only [putAll, Act.put, List.setIfInBounds_toArray, List.set_cons_zero, List.set_cons_succ]; done) | (simp only [putAll, Act.put, List.setIfInBounds_toArray, List.set_cons_zero, List.set_cons_succ]; rfl)) (hJ2_5_8_12_19 () _ ⟨(by (with_reducible repeat (first | refine blk_drewN ?_ _ | refine blk_drew ?_ | refine blk_alloc ?_ _)); exact BK185.out), (by repeat (first | (with_reducible first | exact HB.out | apply below_alloc | apply pw_below_drewN | apply below_drew1 | refine below_set ?_ GE185.out) | exact HB.out))⟩)
                            ·
                             skip
                             refine box_step ?hg (N := 10) ?hd (cs := #[.int .i64 0, .int .i64 0, .int .u32 0, .int .u32 0, .int .i64 0, .int .i64 0, .string (⟨#[]⟩ : ByteArray)]) (t := 42) ?hr ?_; (case hd => rfl); (case hg => rfl); (case hr => first | (go_simp; done) | (go_simp; rfl))
                             intro gb192 hg w52 hbox hb
                             have n0_ := Aside0.mk (blk_below (g := gb185) (o := .cells #[.int .i64 0, .int .i64 0, .int .u32 0, .int .u32 0, .int .i64 0, .int .i64 0, .string (⟨#[]⟩ : ByteArray)] 42 (0, 0)) (by (with_reducible repeat (first | refine blk_drewN ?_ _ | refine blk_drew ?_ | refine blk_alloc ?_ _)); exact BK185.out) hb)
                             have n1_ := Aside0.mk (below_step (by repeat (first | (with_reducible first | exact HB.out | apply below_alloc | apply pw_below_drewN | apply below_drew1 | refine below_set ?_ GE185.out) | exact HB.out)) hb)
                             have n2_ := Aside0.mk (hbox)
                             have n3_ := Aside0.mk ((by rw [hg]; exact (below_size (by repeat (first | (with_reducible first | exact HB.out | apply below_alloc | apply pw_below_drewN | apply below_drew1 | refine below_set ?_ GE185.out) | exact HB.out))) : w.heap.size ≤ gb192))
                             have n4_ := Aside0.mk ((by rw [hg]; exact (below_size (by repeat (first | (with_reducible first | exact HB.out | apply below_alloc | apply pw_below_drewN | apply below_drew1 | refine below_set ?_ GE185.out) | exact HB.out))) : w.heap.size ≤ gb192))
                             have n5_ := Aside0.mk ((by rw [hg]; exact Nat.ne_of_lt (blk_lt (g := gb185) (o := .cells #[.int .i64 0, .int .i64 0, .int .u32 0, .int .u32 0, .int .i64 0, .int .i64 0, .string (⟨#[]⟩ : ByteArray)] 42 (0, 0)) (by (with_reducible repeat (first | refine blk_drewN ?_ _ | refine blk_drew ?_ | refine blk_alloc ?_ _)); exact BK185.out)) : gb185 ≠ gb192))
                             have n6_ := Aside0.mk ((by rw [hg]; exact Nat.ne_of_gt (blk_lt (g := gb185) (o := .cells #[.int .i64 0, .int .i64 0, .int .u32 0, .int .u32 0, .int .i64 0, .int .i64 0, .string (⟨#[]⟩ : ByteArray)] 42 (0, 0)) (by (with_reducible repeat (first | refine blk_drewN ?_ _ | refine blk_drew ?_ | refine blk_alloc ?_ _)); exact BK185.out)) : gb192 ≠ gb185))
                             clear BK185
                             clear HB
                             have BK185 := n0_
                             have HB := n1_
                             have BK192 := n2_
                             have GW192 := n3_
                             have GE192 := n4_
                             have NB185_192 := n5_
                             have NB192_185 := n6_
                             clear n0_ n1_ n2_ n3_ n4_ n5_ n6_
                             clear hb hbox hg
                             refine hK.out _ _ trivial (fun hHeld => ?_)
                             clear hK K
                             refine norm_ (a' := ?_) ?_ ?_
                             rotate_left
                             ·
                              show Act.put _ (some 10) _ = _
                              simp only [Act.put, List.setIfInBounds_toArray, List.set_cons_zero, List.set_cons_succ, i64_w, i32_w]
                              rfl
                             exact norm_ (by first | (simp only [putAll, Act.put, List.setIfInBounds_toArray, List.set_cons_zero, List.set_cons_succ]; done) | (simp only [putAll, Act.put, List.setIfInBounds_toArray, List.set_cons_zero, List.set_cons_succ]; rfl)) (hJ2_5_8_12_24 (gb192) _ ⟨(by (with_reducible repeat (first | refine blk_drewN ?_ _ | refine blk_drew ?_ | refine blk_alloc ?_ _)); exact BK185.out), (by (with_reducible repeat (first | refine blk_drewN ?_ _ | refine blk_drew ?_ | refine blk_alloc ?_ _)); exact BK192.out), GW192.out, GE192.out, NB185_192.out, NB192_185.out, (by repeat (first | (with_reducible first | exact HB.out | apply below_alloc | apply pw_below_drewN | apply below_drew1 | refine below_set ?_ GE185.out | refine below_set ?_ GE192.out) | exact HB.out))⟩)
                          ·
                           skip
                           rintro gb192 w52 ⟨h0_, h1_, h2_, h3_, h4_, h5_, h6_⟩
                           have n0_ : Aside0 (w52.heap[gb185]? = some (.cells #[.int .i64 0, .int .i64 0, .int .u32 0, .int .u32 0, .int .i64 0, .int .i64 0, .string (⟨#[]⟩ : ByteArray)] 42 (0, 0))) := ⟨h0_⟩
                           have n1_ : Aside0 (w52.heap[gb192]? = some (.cells #[.int .i64 0, .int .i64 0, .int .u32 0, .int .u32 0, .int .i64 0, .int .i64 0, .string (⟨#[]⟩ : ByteArray)] 42 (0, 0))) := ⟨h1_⟩
                           have n2_ : Aside0 (w.heap.size ≤ gb192) := ⟨h2_⟩
                           have n3_ : Aside0 (w.heap.size ≤ gb192) := ⟨h3_⟩
                           have n4_ : Aside0 (gb185 ≠ gb192) := ⟨h4_⟩
                           have n5_ : Aside0 (gb192 ≠ gb185) := ⟨h5_⟩
                           have n6_ : Aside0 (Below w.heap.size w w52) := ⟨h6_⟩
                           clear BK185
                           clear HB
                           clear h0_ h1_ h2_ h3_ h4_ h5_ h6_
                           have BK185 := n0_
                           have BK192 := n1_
                           have GW192 := n2_
                           have GE192 := n3_
                           have NB185_192 := n4_
                           have NB192_185 := n5_
                           have HB := n6_
                           clear n0_ n1_ n2_ n3_ n4_ n5_ n6_
                           have hHeld := trivial
                           refine norm_ (a' := ?_) ?_ ?_
                           rotate_left
                           ·
                            simp only [putAll, Act.put, List.setIfInBounds_toArray, List.set_cons_zero, List.set_cons_succ]
                            rfl
                           refine one_ (i := 19) (N := some 72) #[true, true, true, true, true, true, true, true, true, true, true, true, true, true, true, true, true, true, true, true, true, true, true, false, true, false] rfl rfl (one_of HT_.out (by kernel_rfl)) (by decide) (fun K hK => ?_)
                           refine goes_ Try.func51 (by kernel_rfl) rfl #[.string (a2.extract 14 16)] (by rfl) rfl rfl (by (try simp only [List.map_toArray, List.map_cons, List.map_nil]); first | done | rfl | (simp only [List.length_drop, List.length_take]; rfl)) ?_
                           with_reducible refine (rampartref01_Num.calls kj14 (a2.extract 14 16) t191 _ A43.out).mono ?_
                           rintro e w' ⟨rfl, ⟨nd, rfl⟩⟩
                           refine ⟨_, rfl, ?_⟩
                           refine hK.out _ _ trivial (fun hHeld => ?_)
                           clear hK K
                           refine norm_ (a' := ?_) ?_ ?_
                           rotate_left
                           ·
                            show Act.put _ (some 72) _ = _
                            simp only [Act.put, List.setIfInBounds_toArray, List.set_cons_zero, List.set_cons_succ, i64_w, i32_w]
                            rfl
                           refine pure_ (i := 23) (N := some 76) (v := ?_) (a' := ?_) #[true, true, true, true, true, true, true, true, true, true, true, true, true, true, true, true, true, true, true, true, true, true, true, true, true, false] rfl rfl (any_of HT_.out (by kernel_rfl)) (fun _ _ _ h => h) (Or.inl ⟨by rfl, ?_⟩) ?_ ?_
                           rotate_left
                           ·
                            intro w'
                            go_simp
                            with_reducible rfl
                           rotate_left
                           ·
                            simp only [Act.put, List.setIfInBounds_toArray, List.set_cons_zero, List.set_cons_succ, i64_w, i32_w]
                            rfl
                           exact norm_ (by first | (simp only [putAll, Act.put, List.setIfInBounds_toArray, List.set_cons_zero, List.set_cons_succ]; done) | (simp only [putAll, Act.put, List.setIfInBounds_toArray, List.set_cons_zero, List.set_cons_succ]; rfl)) (hJ2_5_8_12_19_24 (gb192) _ ⟨(by (with_reducible repeat (first | refine blk_drewN ?_ _ | refine blk_drew ?_ | refine blk_alloc ?_ _)); exact BK185.out), (by (with_reducible repeat (first | refine blk_drewN ?_ _ | refine blk_drew ?_ | refine blk_alloc ?_ _)); exact BK192.out), GW192.out, GE192.out, NB185_192.out, NB192_185.out, (by repeat (first | (with_reducible first | exact HB.out | apply below_alloc | apply pw_below_drewN | apply below_drew1 | refine below_set ?_ GE185.out | refine below_set ?_ GE192.out) | exact HB.out))⟩)
                         ·
                          skip
                          rintro _ w51 ⟨h0_, h1_⟩
                          have n0_ : Aside0 (w51.heap[gb185]? = some (.cells #[.int .i64 0, .int .i64 0, .int .u32 0, .int .u32 0, .int .i64 0, .int .i64 0, .string (⟨#[]⟩ : ByteArray)] 42 (0, 0))) := ⟨h0_⟩
                          have n1_ : Aside0 (Below w.heap.size w w51) := ⟨h1_⟩
                          clear BK185
                          clear HB
                          clear h0_ h1_
                          have BK185 := n0_
                          have HB := n1_
                          clear n0_ n1_
                          have hHeld := trivial
                          refine norm_ (a' := ?_) ?_ ?_
                          rotate_left
                          ·
                           simp only [putAll, Act.put, List.setIfInBounds_toArray, List.set_cons_zero, List.set_cons_succ]
                           rfl
                          refine one_ (i := 24) (N := some 10) #[true, true, true, true, true, true, true, true, true, true, true, true, true, true, true, true, true, true, true, true, true, true, true, true, true, false] rfl rfl (one_of HT_.out (by kernel_rfl)) (by decide) (fun K hK => ?_)
                          refine box_step ?hg (N := 10) ?hd (cs := #[.int .i64 0, .int .i64 0, .int .u32 0, .int .u32 0, .int .i64 0, .int .i64 0, .string (⟨#[]⟩ : ByteArray)]) (t := 42) ?hr ?_; (case hd => rfl); (case hg => rfl); (case hr => first | (go_simp; done) | (go_simp; rfl))
                          intro gb192 hg w52 hbox hb
                          have n0_ := Aside0.mk (blk_below (g := gb185) (o := .cells #[.int .i64 0, .int .i64 0, .int .u32 0, .int .u32 0, .int .i64 0, .int .i64 0, .string (⟨#[]⟩ : ByteArray)] 42 (0, 0)) (by (with_reducible repeat (first | refine blk_drewN ?_ _ | refine blk_drew ?_ | refine blk_alloc ?_ _)); exact BK185.out) hb)
                          have n1_ := Aside0.mk (below_step (by repeat (first | (with_reducible first | exact HB.out | apply below_alloc | apply pw_below_drewN | apply below_drew1 | refine below_set ?_ GE185.out) | exact HB.out)) hb)
                          have n2_ := Aside0.mk (hbox)
                          have n3_ := Aside0.mk ((by rw [hg]; exact (below_size (by repeat (first | (with_reducible first | exact HB.out | apply below_alloc | apply pw_below_drewN | apply below_drew1 | refine below_set ?_ GE185.out) | exact HB.out))) : w.heap.size ≤ gb192))
                          have n4_ := Aside0.mk ((by rw [hg]; exact (below_size (by repeat (first | (with_reducible first | exact HB.out | apply below_alloc | apply pw_below_drewN | apply below_drew1 | refine below_set ?_ GE185.out) | exact HB.out))) : w.heap.size ≤ gb192))
                          have n5_ := Aside0.mk ((by rw [hg]; exact Nat.ne_of_lt (blk_lt (g := gb185) (o := .cells #[.int .i64 0, .int .i64 0, .int .u32 0, .int .u32 0, .int .i64 0, .int .i64 0, .string (⟨#[]⟩ : ByteArray)] 42 (0, 0)) (by (with_reducible repeat (first | refine blk_drewN ?_ _ | refine blk_drew ?_ | refine blk_alloc ?_ _)); exact BK185.out)) : gb185 ≠ gb192))
                          have n6_ := Aside0.mk ((by rw [hg]; exact Nat.ne_of_gt (blk_lt (g := gb185) (o := .cells #[.int .i64 0, .int .i64 0, .int .u32 0, .int .u32 0, .int .i64 0, .int .i64 0, .string (⟨#[]⟩ : ByteArray)] 42 (0, 0)) (by (with_reducible repeat (first | refine blk_drewN ?_ _ | refine blk_drew ?_ | refine blk_alloc ?_ _)); exact BK185.out)) : gb192 ≠ gb185))
                          clear BK185
                          clear HB
                          have BK185 := n0_
                          have HB := n1_
                          have BK192 := n2_
                          have GW192 := n3_
                          have GE192 := n4_
                          have NB185_192 := n5_
                          have NB192_185 := n6_
                          clear n0_ n1_ n2_ n3_ n4_ n5_ n6_
                          clear hb hbox hg
                          refine hK.out _ _ trivial (fun hHeld => ?_)
                          clear hK K
                          refine norm_ (a' := ?_) ?_ ?_
                          rotate_left
                          ·
                           show Act.put _ (some 10) _ = _
                           simp only [Act.put, List.setIfInBounds_toArray, List.set_cons_zero, List.set_cons_succ, i64_w, i32_w]
                           rfl
                          exact norm_ (by first | (simp only [putAll, Act.put, List.setIfInBounds_toArray, List.set_cons_zero, List.set_cons_succ]; done) | (simp only [putAll, Act.put, List.setIfInBounds_toArray, List.set_cons_zero, List.set_cons_succ]; rfl)) (hJ2_5_8_12_19_24 (gb192) _ ⟨(by (with_reducible repeat (first | refine blk_drewN ?_ _ | refine blk_drew ?_ | refine blk_alloc ?_ _)); exact BK185.out), (by (with_reducible repeat (first | refine blk_drewN ?_ _ | refine blk_drew ?_ | refine blk_alloc ?_ _)); exact BK192.out), GW192.out, GE192.out, NB185_192.out, NB192_185.out, (by repeat (first | (with_reducible first | exact HB.out | apply below_alloc | apply pw_below_drewN | apply below_drew1 | refine below_set ?_ GE185.out | refine below_set ?_ GE192.out) | exact HB.out))⟩)
                        rintro gb192 w52 ⟨h0_, h1_, h2_, h3_, h4_, h5_, h6_⟩
                        have n0_ : Aside0 (w52.heap[gb185]? = some (.cells #[.int .i64 0, .int .i64 0, .int .u32 0, .int .u32 0, .int .i64 0, .int .i64 0, .string (⟨#[]⟩ : ByteArray)] 42 (0, 0))) := ⟨h0_⟩
                        have n1_ : Aside0 (w52.heap[gb192]? = some (.cells #[.int .i64 0, .int .i64 0, .int .u32 0, .int .u32 0, .int .i64 0, .int .i64 0, .string (⟨#[]⟩ : ByteArray)] 42 (0, 0))) := ⟨h1_⟩
                        have n2_ : Aside0 (w.heap.size ≤ gb192) := ⟨h2_⟩
                        have n3_ : Aside0 (w.heap.size ≤ gb192) := ⟨h3_⟩
                        have n4_ : Aside0 (gb185 ≠ gb192) := ⟨h4_⟩
                        have n5_ : Aside0 (gb192 ≠ gb185) := ⟨h5_⟩
                        have n6_ : Aside0 (Below w.heap.size w w52) := ⟨h6_⟩
                        clear BK185
                        clear HB
                        clear h0_ h1_ h2_ h3_ h4_ h5_ h6_
                        have BK185 := n0_
                        have BK192 := n1_
                        have GW192 := n2_
                        have GE192 := n3_
                        have NB185_192 := n4_
                        have NB192_185 := n5_
                        have HB := n6_
                        clear n0_ n1_ n2_ n3_ n4_ n5_ n6_
                        have hHeld := trivial
                        refine norm_ (a' := ?_) ?_ ?_
                        rotate_left
                        ·
                         simp only [putAll, Act.put, List.setIfInBounds_toArray, List.set_cons_zero, List.set_cons_succ]
                         rfl
                        refine one_ (i := 25) (N := none) #[true, true, true, true, true, true, true, true, true, true, true, true, true, true, true, true, true, true, true, true, true, true, true, true, true, true] rfl rfl (one_of HT_.out (by kernel_rfl)) (by decide) (fun K hK => ?_)
                        have hs53 : w52.cell? ⟨gb192, 0, none⟩ = some (.int .i64 0) := (blk_cell BK192.out 0).trans rfl
                        have hfs53 := blk_frozen BK192.out 0
                        have hns53_0 := NB185_192.out
                        have hms53_0 := NB192_185.out
                        have hs54 : w52.cell? ⟨gb192, 1, none⟩ = some (.int .i64 0) := (blk_cell BK192.out 1).trans rfl
                        have hfs54 := blk_frozen BK192.out 1
                        have hns54_0 := NB185_192.out
                        have hms54_0 := NB192_185.out
                        have hs55 : w52.cell? ⟨gb192, 2, none⟩ = some (.int .u32 0) := (blk_cell BK192.out 2).trans rfl
                        have hfs55 := blk_frozen BK192.out 2
                        have hns55_0 := NB185_192.out
                        have hms55_0 := NB192_185.out
                        have hs56 : w52.cell? ⟨gb192, 3, none⟩ = some (.int .u32 0) := (blk_cell BK192.out 3).trans rfl
                        have hfs56 := blk_frozen BK192.out 3
                        have hns56_0 := NB185_192.out
                        have hms56_0 := NB192_185.out
                        have hs57 : w52.cell? ⟨gb192, 4, none⟩ = some (.int .i64 0) := (blk_cell BK192.out 4).trans rfl
                        have hfs57 := blk_frozen BK192.out 4
                        have hns57_0 := NB185_192.out
                        have hms57_0 := NB192_185.out
                        have hs58 : w52.cell? ⟨gb192, 5, none⟩ = some (.int .i64 0) := (blk_cell BK192.out 5).trans rfl
                        have hfs58 := blk_frozen BK192.out 5
                        have hns58_0 := NB185_192.out
                        have hms58_0 := NB192_185.out
                        have hs59 : w52.cell? ⟨gb192, 6, none⟩ = some (.string (⟨#[]⟩ : ByteArray)) := (blk_cell BK192.out 6).trans rfl
                        have hfs59 := blk_frozen BK192.out 6
                        have hns59_0 := NB185_192.out
                        have hms59_0 := NB192_185.out
                        refine skip_ (w1 := ?_) (by rfl) rfl ?_ ?_
                        rotate_left
                        ·
                         go_simp
                         rfl
                        refine hK.out _ _ trivial (fun hHeld => ?_)
                        clear hK K
                        refine done_ (done_of HT_.out (by kernel_rfl)) ?_
                        try go_wp2
                        have n0_ : Aside0 ((((((((w52.setCell ⟨gb192, 0, none⟩ (.int .i64 t187)).setCell ⟨gb192, 1, none⟩ (.int .i64 t188)).setCell ⟨gb192, 2, none⟩ (.int .u32 ((t189) % 4294967296))).setCell ⟨gb192, 3, none⟩ (.int .u32 ((t190) % 4294967296))).setCell ⟨gb192, 4, none⟩ (.int .i64 (wrap64 (bt a2 13)))).setCell ⟨gb192, 5, none⟩ (.int .i64 t191)).setCell ⟨gb192, 6, none⟩ (.string (a2.extract 20 ((ji46) : Int).toNat))).heap[gb185]? = some (.cells #[.int .i64 0, .int .i64 0, .int .u32 0, .int .u32 0, .int .i64 0, .int .i64 0, .string (⟨#[]⟩ : ByteArray)] 42 (0, 0))) := ⟨by (with_reducible repeat (first | refine blk_drewN ?_ _ | refine blk_drew ?_ | refine blk_alloc ?_ _)); refine blk_far ?_ NB185_192.out _; (with_reducible repeat (first | refine blk_drewN ?_ _ | refine blk_drew ?_ | refine blk_alloc ?_ _)); refine blk_far ?_ NB185_192.out _; (with_reducible repeat (first | refine blk_drewN ?_ _ | refine blk_drew ?_ | refine blk_alloc ?_ _)); refine blk_far ?_ NB185_192.out _; (with_reducible repeat (first | refine blk_drewN ?_ _ | refine blk_drew ?_ | refine blk_alloc ?_ _)); refine blk_far ?_ NB185_192.out _; (with_reducible repeat (first | refine blk_drewN ?_ _ | refine blk_drew ?_ | refine blk_alloc ?_ _)); refine blk_far ?_ NB185_192.out _; (with_reducible repeat (first | refine blk_drewN ?_ _ | refine blk_drew ?_ | refine blk_alloc ?_ _)); refine blk_far ?_ NB185_192.out _; (with_reducible repeat (first | refine blk_drewN ?_ _ | refine blk_drew ?_ | refine blk_alloc ?_ _)); refine blk_far ?_ NB185_192.out _; (with_reducible repeat (first | refine blk_drewN ?_ _ | refine blk_drew ?_ | refine blk_alloc ?_ _)); exact BK185.out⟩
                        have n1_ : Aside0 ((((((((w52.setCell ⟨gb192, 0, none⟩ (.int .i64 t187)).setCell ⟨gb192, 1, none⟩ (.int .i64 t188)).setCell ⟨gb192, 2, none⟩ (.int .u32 ((t189) % 4294967296))).setCell ⟨gb192, 3, none⟩ (.int .u32 ((t190) % 4294967296))).setCell ⟨gb192, 4, none⟩ (.int .i64 (wrap64 (bt a2 13)))).setCell ⟨gb192, 5, none⟩ (.int .i64 t191)).setCell ⟨gb192, 6, none⟩ (.string (a2.extract 20 ((ji46) : Int).toNat))).heap[gb192]? = some (.cells #[.int .i64 t187, .int .i64 t188, .int .u32 ((t189) % 4294967296), .int .u32 ((t190) % 4294967296), .int .i64 (wrap64 (bt a2 13)), .int .i64 t191, .string (a2.extract 20 ((ji46) : Int).toNat)] 42 (0, 0))) := ⟨by (with_reducible repeat (first | refine blk_drewN ?_ _ | refine blk_drew ?_ | refine blk_alloc ?_ _)); refine blk_put (cs := #[.int .i64 t187, .int .i64 t188, .int .u32 ((t189) % 4294967296), .int .u32 ((t190) % 4294967296), .int .i64 (wrap64 (bt a2 13)), .int .i64 t191, .string (⟨#[]⟩ : ByteArray)]) ?_ 6 _ rfl; (with_reducible repeat (first | refine blk_drewN ?_ _ | refine blk_drew ?_ | refine blk_alloc ?_ _)); refine blk_put (cs := #[.int .i64 t187, .int .i64 t188, .int .u32 ((t189) % 4294967296), .int .u32 ((t190) % 4294967296), .int .i64 (wrap64 (bt a2 13)), .int .i64 0, .string (⟨#[]⟩ : ByteArray)]) ?_ 5 _ rfl; (with_reducible repeat (first | refine blk_drewN ?_ _ | refine blk_drew ?_ | refine blk_alloc ?_ _)); refine blk_put (cs := #[.int .i64 t187, .int .i64 t188, .int .u32 ((t189) % 4294967296), .int .u32 ((t190) % 4294967296), .int .i64 0, .int .i64 0, .string (⟨#[]⟩ : ByteArray)]) ?_ 4 _ rfl; (with_reducible repeat (first | refine blk_drewN ?_ _ | refine blk_drew ?_ | refine blk_alloc ?_ _)); refine blk_put (cs := #[.int .i64 t187, .int .i64 t188, .int .u32 ((t189) % 4294967296), .int .u32 0, .int .i64 0, .int .i64 0, .string (⟨#[]⟩ : ByteArray)]) ?_ 3 _ rfl; (with_reducible repeat (first | refine blk_drewN ?_ _ | refine blk_drew ?_ | refine blk_alloc ?_ _)); refine blk_put (cs := #[.int .i64 t187, .int .i64 t188, .int .u32 0, .int .u32 0, .int .i64 0, .int .i64 0, .string (⟨#[]⟩ : ByteArray)]) ?_ 2 _ rfl; (with_reducible repeat (first | refine blk_drewN ?_ _ | refine blk_drew ?_ | refine blk_alloc ?_ _)); refine blk_put (cs := #[.int .i64 t187, .int .i64 0, .int .u32 0, .int .u32 0, .int .i64 0, .int .i64 0, .string (⟨#[]⟩ : ByteArray)]) ?_ 1 _ rfl; (with_reducible repeat (first | refine blk_drewN ?_ _ | refine blk_drew ?_ | refine blk_alloc ?_ _)); refine blk_put (cs := #[.int .i64 0, .int .i64 0, .int .u32 0, .int .u32 0, .int .i64 0, .int .i64 0, .string (⟨#[]⟩ : ByteArray)]) ?_ 0 _ rfl; (with_reducible repeat (first | refine blk_drewN ?_ _ | refine blk_drew ?_ | refine blk_alloc ?_ _)); exact BK192.out⟩
                        have n2_ : Aside0 (Below w.heap.size w (((((((w52.setCell ⟨gb192, 0, none⟩ (.int .i64 t187)).setCell ⟨gb192, 1, none⟩ (.int .i64 t188)).setCell ⟨gb192, 2, none⟩ (.int .u32 ((t189) % 4294967296))).setCell ⟨gb192, 3, none⟩ (.int .u32 ((t190) % 4294967296))).setCell ⟨gb192, 4, none⟩ (.int .i64 (wrap64 (bt a2 13)))).setCell ⟨gb192, 5, none⟩ (.int .i64 t191)).setCell ⟨gb192, 6, none⟩ (.string (a2.extract 20 ((ji46) : Int).toNat)))) := ⟨by repeat (first | (with_reducible first | exact HB.out | apply below_alloc | apply pw_below_drewN | apply below_drew1 | refine below_set ?_ GE185.out | refine below_set ?_ GE192.out) | exact HB.out)⟩
                        (try clear BK185)
                        (try clear BK192)
                        (try clear HB)
                        (try simp only [IntKind.wrap_u32])
                        generalize (((((((w52.setCell ⟨gb192, 0, none⟩ (.int .i64 t187)).setCell ⟨gb192, 1, none⟩ (.int .i64 t188)).setCell ⟨gb192, 2, none⟩ (.int .u32 ((t189) % 4294967296))).setCell ⟨gb192, 3, none⟩ (.int .u32 ((t190) % 4294967296))).setCell ⟨gb192, 4, none⟩ (.int .i64 (wrap64 (bt a2 13)))).setCell ⟨gb192, 5, none⟩ (.int .i64 t191)).setCell ⟨gb192, 6, none⟩ (.string (a2.extract 20 ((ji46) : Int).toNat))) = w60 at n0_ n1_ n2_ ⊢
                        have BK185 := n0_
                        have BK192 := n1_
                        have HB := n2_
                        clear n0_ n1_ n2_
                        have n0_ := Aside0.mk (blk_drew BK185.out)
                        have n1_ := Aside0.mk (blk_drew BK192.out)
                        have n2_ := Aside0.mk (below_drew1 HB.out)
                        clear BK185
                        clear BK192
                        clear HB
                        have BK185 := n0_
                        have BK192 := n1_
                        have HB := n2_
                        clear n0_ n1_ n2_
                        refine start_ (n := 7) (S := fun w' => w'.cell? ⟨gb192, 0, none⟩ = some (.int .i64 t187) ∧ w'.cell? ⟨gb192, 1, none⟩ = some (.int .i64 t188) ∧ w'.cell? ⟨gb192, 2, none⟩ = some (.int .u32 ((t189) % 4294967296)) ∧ w'.cell? ⟨gb192, 3, none⟩ = some (.int .u32 ((t190) % 4294967296)) ∧ w'.cell? ⟨gb192, 4, none⟩ = some (.int .i64 (wrap64 (bt a2 13))) ∧ w'.cell? ⟨gb192, 5, none⟩ = some (.int .i64 t191) ∧ w'.cell? ⟨gb192, 6, none⟩ = some (.string (a2.extract 20 ((ji46) : Int).toNat))) (ds := []) #[false, false, false, false, false, false, false] (by kernel_rfl) rfl rfl ⟨(blk_cell BK192.out 0).trans rfl, (blk_cell BK192.out 1).trans rfl, (blk_cell BK192.out 2).trans rfl, (blk_cell BK192.out 3).trans rfl, (blk_cell BK192.out 4).trans rfl, (blk_cell BK192.out 5).trans rfl, (blk_cell BK192.out 6).trans rfl⟩ (fun hHeld => ?_)
                        generalize w60.drew = w61 at BK185 BK192 HB hHeld ⊢
                        refine pure_ (i := 1) (N := some 78) (v := ?_) (a' := ?_) #[false, true, false, false, false, false, false] rfl rfl (by kernel_rfl) (fun _ _ _ h => h) (Or.inl ⟨by rfl, ?_⟩) ?_ ?_
                        rotate_left
                        ·
                         intro w'
                         go_simp
                         with_reducible rfl
                        rotate_left
                        ·
                         simp only [Act.put, List.setIfInBounds_toArray, List.set_cons_zero, List.set_cons_succ, i64_w, i32_w]
                         rfl
                        refine pure_ (i := 2) (N := some 79) (v := ?_) (a' := ?_) #[false, true, true, false, false, false, false] rfl rfl (by kernel_rfl) (fun _ _ _ h => h) (Or.inl ⟨by rfl, ?_⟩) ?_ ?_
                        rotate_left
                        ·
                         intro w'
                         go_simp
                         with_reducible rfl
                        rotate_left
                        ·
                         simp only [Act.put, List.setIfInBounds_toArray, List.set_cons_zero, List.set_cons_succ, i64_w, i32_w]
                         rfl
                        refine pure_ (i := 3) (N := some 80) (v := ?_) (a' := ?_) #[false, true, true, true, false, false, false] rfl rfl (by kernel_rfl) (fun _ _ _ h => h) (Or.inl ⟨by rfl, ?_⟩) ?_ ?_
                        rotate_left
                        ·
                         intro w'
                         go_simp
                         with_reducible rfl
                        rotate_left
                        ·
                         simp only [Act.put, List.setIfInBounds_toArray, List.set_cons_zero, List.set_cons_succ, i64_w, i32_w]
                         rfl
                        refine take_ (i := 0) (N := some 77) (v := ?_) (a' := ?_) #[true, true, true, true, false, false, false] rfl rfl (by kernel_rfl) (fun _ _ _ h => h) (Or.inl ⟨by rfl, ?_⟩) hHeld ?_ ?_
                        rotate_left
                        ·
                         rintro w' ⟨s0, s1, s2, s3, s4, s5, s6⟩
                         go_simp
                         with_reducible rfl
                        rotate_left
                        ·
                         simp only [Act.put, List.setIfInBounds_toArray, List.set_cons_zero, List.set_cons_succ, i64_w, i32_w]
                         rfl
                        refine one_ (i := 4) (N := none) #[true, true, true, true, true, false, false] rfl rfl (by kernel_rfl) (by decide) (fun K hK => ?_)
                        have hs62 : w61.cell? ⟨gb185, 0, none⟩ = some (.int .i64 0) := (blk_cell BK185.out 0).trans rfl
                        have hfs62 := blk_frozen BK185.out 0
                        have hns62_1 := NB192_185.out
                        have hms62_1 := NB185_192.out
                        have hs63 : w61.cell? ⟨gb185, 1, none⟩ = some (.int .i64 0) := (blk_cell BK185.out 1).trans rfl
                        have hfs63 := blk_frozen BK185.out 1
                        have hns63_1 := NB192_185.out
                        have hms63_1 := NB185_192.out
                        have hs64 : w61.cell? ⟨gb185, 2, none⟩ = some (.int .u32 0) := (blk_cell BK185.out 2).trans rfl
                        have hfs64 := blk_frozen BK185.out 2
                        have hns64_1 := NB192_185.out
                        have hms64_1 := NB185_192.out
                        have hs65 : w61.cell? ⟨gb185, 3, none⟩ = some (.int .u32 0) := (blk_cell BK185.out 3).trans rfl
                        have hfs65 := blk_frozen BK185.out 3
                        have hns65_1 := NB192_185.out
                        have hms65_1 := NB185_192.out
                        have hs66 : w61.cell? ⟨gb185, 4, none⟩ = some (.int .i64 0) := (blk_cell BK185.out 4).trans rfl
                        have hfs66 := blk_frozen BK185.out 4
                        have hns66_1 := NB192_185.out
                        have hms66_1 := NB185_192.out
                        have hs67 : w61.cell? ⟨gb185, 5, none⟩ = some (.int .i64 0) := (blk_cell BK185.out 5).trans rfl
                        have hfs67 := blk_frozen BK185.out 5
                        have hns67_1 := NB192_185.out
                        have hms67_1 := NB185_192.out
                        have hs68 : w61.cell? ⟨gb185, 6, none⟩ = some (.string (⟨#[]⟩ : ByteArray)) := (blk_cell BK185.out 6).trans rfl
                        have hfs68 := blk_frozen BK185.out 6
                        have hns68_1 := NB192_185.out
                        have hms68_1 := NB185_192.out
                        refine skip_ (w1 := ?_) (by rfl) rfl ?_ ?_
                        rotate_left
                        ·
                         go_simp
                         rfl
                        refine hK.out _ _ ⟨((cell_far (p := ⟨gb185, _, none⟩) NB192_185.out _).trans (((cell_far (p := ⟨gb185, _, none⟩) NB192_185.out _).trans (((cell_far (p := ⟨gb185, _, none⟩) NB192_185.out _).trans (((cell_far (p := ⟨gb185, _, none⟩) NB192_185.out _).trans (((cell_far (p := ⟨gb185, _, none⟩) NB192_185.out _).trans (((cell_far (p := ⟨gb185, _, none⟩) NB192_185.out _).trans (((cell_far (p := ⟨gb185, _, none⟩) NB192_185.out _).trans (hHeld.1)))))))))))))), ((cell_far (p := ⟨gb185, _, none⟩) NB192_185.out _).trans (((cell_far (p := ⟨gb185, _, none⟩) NB192_185.out _).trans (((cell_far (p := ⟨gb185, _, none⟩) NB192_185.out _).trans (((cell_far (p := ⟨gb185, _, none⟩) NB192_185.out _).trans (((cell_far (p := ⟨gb185, _, none⟩) NB192_185.out _).trans (((cell_far (p := ⟨gb185, _, none⟩) NB192_185.out _).trans (((cell_far (p := ⟨gb185, _, none⟩) NB192_185.out _).trans (hHeld.2.1)))))))))))))), ((cell_far (p := ⟨gb185, _, none⟩) NB192_185.out _).trans (((cell_far (p := ⟨gb185, _, none⟩) NB192_185.out _).trans (((cell_far (p := ⟨gb185, _, none⟩) NB192_185.out _).trans (((cell_far (p := ⟨gb185, _, none⟩) NB192_185.out _).trans (((cell_far (p := ⟨gb185, _, none⟩) NB192_185.out _).trans (((cell_far (p := ⟨gb185, _, none⟩) NB192_185.out _).trans (((cell_far (p := ⟨gb185, _, none⟩) NB192_185.out _).trans (hHeld.2.2.1)))))))))))))), ((cell_far (p := ⟨gb185, _, none⟩) NB192_185.out _).trans (((cell_far (p := ⟨gb185, _, none⟩) NB192_185.out _).trans (((cell_far (p := ⟨gb185, _, none⟩) NB192_185.out _).trans (((cell_far (p := ⟨gb185, _, none⟩) NB192_185.out _).trans (((cell_far (p := ⟨gb185, _, none⟩) NB192_185.out _).trans (((cell_far (p := ⟨gb185, _, none⟩) NB192_185.out _).trans (((cell_far (p := ⟨gb185, _, none⟩) NB192_185.out _).trans (hHeld.2.2.2.1)))))))))))))), ((cell_far (p := ⟨gb185, _, none⟩) NB192_185.out _).trans (((cell_far (p := ⟨gb185, _, none⟩) NB192_185.out _).trans (((cell_far (p := ⟨gb185, _, none⟩) NB192_185.out _).trans (((cell_far (p := ⟨gb185, _, none⟩) NB192_185.out _).trans (((cell_far (p := ⟨gb185, _, none⟩) NB192_185.out _).trans (((cell_far (p := ⟨gb185, _, none⟩) NB192_185.out _).trans (((cell_far (p := ⟨gb185, _, none⟩) NB192_185.out _).trans (hHeld.2.2.2.2.1)))))))))))))), ((cell_far (p := ⟨gb185, _, none⟩) NB192_185.out _).trans (((cell_far (p := ⟨gb185, _, none⟩) NB192_185.out _).trans (((cell_far (p := ⟨gb185, _, none⟩) NB192_185.out _).trans (((cell_far (p := ⟨gb185, _, none⟩) NB192_185.out _).trans (((cell_far (p := ⟨gb185, _, none⟩) NB192_185.out _).trans (((cell_far (p := ⟨gb185, _, none⟩) NB192_185.out _).trans (((cell_far (p := ⟨gb185, _, none⟩) NB192_185.out _).trans (hHeld.2.2.2.2.2.1)))))))))))))), ((cell_far (p := ⟨gb185, _, none⟩) NB192_185.out _).trans (((cell_far (p := ⟨gb185, _, none⟩) NB192_185.out _).trans (((cell_far (p := ⟨gb185, _, none⟩) NB192_185.out _).trans (((cell_far (p := ⟨gb185, _, none⟩) NB192_185.out _).trans (((cell_far (p := ⟨gb185, _, none⟩) NB192_185.out _).trans (((cell_far (p := ⟨gb185, _, none⟩) NB192_185.out _).trans (((cell_far (p := ⟨gb185, _, none⟩) NB192_185.out _).trans (hHeld.2.2.2.2.2.2))))))))))))))⟩ (fun hHeld => ?_)
                        clear hK K
                        refine pure_ (i := 5) (N := some 7) (v := ?_) (a' := ?_) #[true, true, true, true, true, true, false] rfl rfl (by kernel_rfl) (fun _ _ _ h => h) (Or.inl ⟨by rfl, ?_⟩) ?_ ?_
                        rotate_left
                        ·
                         intro w'
                         go_simp
                         with_reducible rfl
                        rotate_left
                        ·
                         simp only [Act.put, List.setIfInBounds_toArray, List.set_cons_zero, List.set_cons_succ, i64_w, i32_w]
                         rfl
                        refine pure_ (i := 6) (N := some 8) (v := ?_) (a' := ?_) #[true, true, true, true, true, true, true] rfl rfl (by kernel_rfl) (fun _ _ _ h => h) (Or.inl ⟨by rfl, ?_⟩) ?_ ?_
                        rotate_left
                        ·
                         intro w'
                         go_simp
                         with_reducible rfl
                        rotate_left
                        ·
                         simp only [Act.put, List.setIfInBounds_toArray, List.set_cons_zero, List.set_cons_succ, i64_w, i32_w]
                         rfl
                        refine done_ (by kernel_rfl) ?_
                        try go_wp2
                        refine bodyPost_ret (results_ctt rfl _ _ gb185 42 #[.int .i64 t187, .int .i64 t188, .int .u32 ((t189) % 4294967296), .int .u32 ((t190) % 4294967296), .int .i64 (wrap64 (bt a2 13)), .int .i64 t191, .string (a2.extract 20 ((ji46) : Int).toNat)] (0, 0) _ rfl (by (with_reducible repeat (first | refine blk_drewN ?_ _ | refine blk_drew ?_ | refine blk_alloc ?_ _)); refine blk_put (cs := #[.int .i64 t187, .int .i64 t188, .int .u32 ((t189) % 4294967296), .int .u32 ((t190) % 4294967296), .int .i64 (wrap64 (bt a2 13)), .int .i64 t191, .string (⟨#[]⟩ : ByteArray)]) ?_ 6 _ rfl; (with_reducible repeat (first | refine blk_drewN ?_ _ | refine blk_drew ?_ | refine blk_alloc ?_ _)); refine blk_put (cs := #[.int .i64 t187, .int .i64 t188, .int .u32 ((t189) % 4294967296), .int .u32 ((t190) % 4294967296), .int .i64 (wrap64 (bt a2 13)), .int .i64 0, .string (⟨#[]⟩ : ByteArray)]) ?_ 5 _ rfl; (with_reducible repeat (first | refine blk_drewN ?_ _ | refine blk_drew ?_ | refine blk_alloc ?_ _)); refine blk_put (cs := #[.int .i64 t187, .int .i64 t188, .int .u32 ((t189) % 4294967296), .int .u32 ((t190) % 4294967296), .int .i64 0, .int .i64 0, .string (⟨#[]⟩ : ByteArray)]) ?_ 4 _ rfl; (with_reducible repeat (first | refine blk_drewN ?_ _ | refine blk_drew ?_ | refine blk_alloc ?_ _)); refine blk_put (cs := #[.int .i64 t187, .int .i64 t188, .int .u32 ((t189) % 4294967296), .int .u32 0, .int .i64 0, .int .i64 0, .string (⟨#[]⟩ : ByteArray)]) ?_ 3 _ rfl; (with_reducible repeat (first | refine blk_drewN ?_ _ | refine blk_drew ?_ | refine blk_alloc ?_ _)); refine blk_put (cs := #[.int .i64 t187, .int .i64 t188, .int .u32 0, .int .u32 0, .int .i64 0, .int .i64 0, .string (⟨#[]⟩ : ByteArray)]) ?_ 2 _ rfl; (with_reducible repeat (first | refine blk_drewN ?_ _ | refine blk_drew ?_ | refine blk_alloc ?_ _)); refine blk_put (cs := #[.int .i64 t187, .int .i64 0, .int .u32 0, .int .u32 0, .int .i64 0, .int .i64 0, .string (⟨#[]⟩ : ByteArray)]) ?_ 1 _ rfl; (with_reducible repeat (first | refine blk_drewN ?_ _ | refine blk_drew ?_ | refine blk_alloc ?_ _)); refine blk_put (cs := #[.int .i64 0, .int .i64 0, .int .u32 0, .int .u32 0, .int .i64 0, .int .i64 0, .string (⟨#[]⟩ : ByteArray)]) ?_ 0 _ rfl; (with_reducible repeat (first | refine blk_drewN ?_ _ | refine blk_drew ?_ | refine blk_alloc ?_ _)); exact BK185.out) Try.underlying42 rfl (by kernel_rfl)) rfl ?_
                        exact ⟨by first | rfl | (simp [errW_none, errW_some] <;> rfl) | (simp only [← hji46]; first | rfl | (simp [errW_none, errW_some] <;> rfl)) | (simp [*, errW_none, errW_some] <;> rfl), by repeat (first | (with_reducible first | exact HB.out | apply below_alloc | apply pw_below_drewN | apply below_drew1 | refine below_set ?_ GE185.out | refine below_set ?_ GE192.out) | exact HB.out)⟩
                       ·
                        rw [if_neg c47] at H
                        exact absurd H (by simp)
                      ·
                       rw [if_neg c45] at H
                       exact absurd H (by simp)
                     ·
                      rw [if_neg c44] at H
                      exact absurd H (by simp)
                    ·
                     rw [if_neg c42] at H
                     exact absurd H (by simp)
                   ·
                    rw [if_neg c41] at H
                    exact absurd H (by simp)
                  ·
                   rw [if_neg c39] at H
                   exact absurd H (by simp)
                 ·
                  rw [if_neg c37] at H
                  exact absurd H (by simp)
                ·
                 rw [if_neg c36] at H
                 exact absurd H (by simp)
               ·
                rw [if_neg c34] at H
                exact absurd H (by simp)
              ·
               rw [if_neg c33] at H
               exact absurd H (by simp)
             ·
              rw [if_neg c31] at H
              exact absurd H (by simp)
            ·
             rw [if_neg c30] at H
             exact absurd H (by simp)
           ·
            rw [if_neg c28] at H
            exact absurd H (by simp)
          ·
           rw [if_neg c27] at H
           exact absurd H (by simp)
         ·
          rw [if_neg c26] at H
          have c26b0 : (t186 == 0) = false := beq_eq_false_iff_ne.mpr c26
          have c26b1 : (t186 != 0) = true := bne_iff_ne.mpr c26
          simp only [Option.some.injEq, Prod.mk.injEq] at H
          obtain ⟨rfl, rfl, rfl, rfl, rfl, rfl, rfl, rfl, rfl⟩ := H
          go_wp2_with (first | ((with_reducible refine gate_callee (f := 55) rfl ?_); refine goesL_ (some 50) rfl rfl Try.func55 (by kernel_rfl) rfl #[.int .u32 a0, .int .u32 a1, .int .i64 6, .string a2] rfl (by (try simp only [List.map_toArray, List.map_cons, List.map_nil]); first | done | rfl | (simp only [List.length_drop, List.length_take]; rfl)) ?_; (with_reducible refine (rampartref04_Sum.calls kj14 a0 a1 6 a2 t186 _ A25.out).mono ?_); rintro e w69 ⟨rfl, hb⟩; refine ⟨_, rfl, ?_⟩; have n0_ := Aside0.mk (blk_below (g := gb185) (o := .cells #[.int .i64 0, .int .i64 0, .int .u32 0, .int .u32 0, .int .i64 0, .int .i64 0, .string (⟨#[]⟩ : ByteArray)] 42 (0, 0)) (by (with_reducible repeat (first | refine blk_drewN ?_ _ | refine blk_drew ?_ | refine blk_alloc ?_ _)); exact BK185.out) hb); have n1_ := Aside0.mk (below_step (by repeat (first | (with_reducible first | exact HB.out | apply below_alloc | apply pw_below_drewN | apply below_drew1 | refine below_set ?_ GE185.out) | exact HB.out)) hb); clear BK185; clear HB; have BK185 := n0_; have HB := n1_; clear n0_ n1_; (try clear hb); (try clear hb2); (try clear hk); (try clear hi); have hcz70_0 : w69.cell? ⟨gb185, 0, none⟩ = some (.int .i64 0) := (blk_cell BK185.out 0).trans rfl; have hcz70_1 : w69.cell? ⟨gb185, 1, none⟩ = some (.int .i64 0) := (blk_cell BK185.out 1).trans rfl; have hcz70_2 : w69.cell? ⟨gb185, 2, none⟩ = some (.int .u32 0) := (blk_cell BK185.out 2).trans rfl; have hcz70_3 : w69.cell? ⟨gb185, 3, none⟩ = some (.int .u32 0) := (blk_cell BK185.out 3).trans rfl; have hcz70_4 : w69.cell? ⟨gb185, 4, none⟩ = some (.int .i64 0) := (blk_cell BK185.out 4).trans rfl; have hcz70_5 : w69.cell? ⟨gb185, 5, none⟩ = some (.int .i64 0) := (blk_cell BK185.out 5).trans rfl; have hcz70_6 : w69.cell? ⟨gb185, 6, none⟩ = some (.string (⟨#[]⟩ : ByteArray)) := (blk_cell BK185.out 6).trans rfl; have hfz70_0 := blk_frozen BK185.out 0; have hfz70_1 := blk_frozen BK185.out 1; have hfz70_2 := blk_frozen BK185.out 2; have hfz70_3 := blk_frozen BK185.out 3; have hfz70_4 := blk_frozen BK185.out 4; have hfz70_5 := blk_frozen BK185.out 5; have hfz70_6 := blk_frozen BK185.out 6))
          refine bodyPost_ret (results_ctt rfl _ _ gb185 42 #[.int .i64 0, .int .i64 0, .int .u32 0, .int .u32 0, .int .i64 0, .int .i64 0, .string (⟨#[]⟩ : ByteArray)] (0, 0) _ rfl (by (with_reducible repeat (first | refine blk_drewN ?_ _ | refine blk_drew ?_ | refine blk_alloc ?_ _)); refine blk_put (cs := #[.int .i64 0, .int .i64 0, .int .u32 0, .int .u32 0, .int .i64 0, .int .i64 0, .string (⟨#[]⟩ : ByteArray)]) ?_ 6 _ rfl; (with_reducible repeat (first | refine blk_drewN ?_ _ | refine blk_drew ?_ | refine blk_alloc ?_ _)); refine blk_put (cs := #[.int .i64 0, .int .i64 0, .int .u32 0, .int .u32 0, .int .i64 0, .int .i64 0, .string (⟨#[]⟩ : ByteArray)]) ?_ 5 _ rfl; (with_reducible repeat (first | refine blk_drewN ?_ _ | refine blk_drew ?_ | refine blk_alloc ?_ _)); refine blk_put (cs := #[.int .i64 0, .int .i64 0, .int .u32 0, .int .u32 0, .int .i64 0, .int .i64 0, .string (⟨#[]⟩ : ByteArray)]) ?_ 4 _ rfl; (with_reducible repeat (first | refine blk_drewN ?_ _ | refine blk_drew ?_ | refine blk_alloc ?_ _)); refine blk_put (cs := #[.int .i64 0, .int .i64 0, .int .u32 0, .int .u32 0, .int .i64 0, .int .i64 0, .string (⟨#[]⟩ : ByteArray)]) ?_ 3 _ rfl; (with_reducible repeat (first | refine blk_drewN ?_ _ | refine blk_drew ?_ | refine blk_alloc ?_ _)); refine blk_put (cs := #[.int .i64 0, .int .i64 0, .int .u32 0, .int .u32 0, .int .i64 0, .int .i64 0, .string (⟨#[]⟩ : ByteArray)]) ?_ 2 _ rfl; (with_reducible repeat (first | refine blk_drewN ?_ _ | refine blk_drew ?_ | refine blk_alloc ?_ _)); refine blk_put (cs := #[.int .i64 0, .int .i64 0, .int .u32 0, .int .u32 0, .int .i64 0, .int .i64 0, .string (⟨#[]⟩ : ByteArray)]) ?_ 1 _ rfl; (with_reducible repeat (first | refine blk_drewN ?_ _ | refine blk_drew ?_ | refine blk_alloc ?_ _)); refine blk_put (cs := #[.int .i64 0, .int .i64 0, .int .u32 0, .int .u32 0, .int .i64 0, .int .i64 0, .string (⟨#[]⟩ : ByteArray)]) ?_ 0 _ rfl; (with_reducible repeat (first | refine blk_drewN ?_ _ | refine blk_drew ?_ | refine blk_alloc ?_ _)); exact BK185.out) Try.underlying42 rfl (by kernel_rfl)) rfl ?_
          exact ⟨by first | rfl | (simp [errW_none, errW_some] <;> rfl) | (simp [*, errW_none, errW_some] <;> rfl), by repeat (first | (with_reducible first | exact HB.out | apply below_alloc | apply pw_below_drewN | apply below_drew1 | refine below_set ?_ GE185.out) | exact HB.out)⟩
  ·
   rw [if_neg c7] at H
   exact absurd H (by simp)

end Go.Proofs.Ytgolimfljndnmaa.HT
