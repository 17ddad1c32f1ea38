/- What is proved: each Go function of this text answers as the plain Lean function beside it (a law: its given row, out of the plain statement). Conditions: those that stand in each theorem. Written by my drive.py, which calls the printer of the kit for what that covers. -/
import Derived.Test.YtgolimfljndnmaaHTx0
import Derived.Test.YtgolimfljndnmaaHTx1
import Derived.Test.YtgolimfljndnmaaHTx4
import Derived.Test.YtgolimfljndnmaaHTx7
import Derived.Test.YtgolimfljndnmaaHTx8
import Derived.Test.YtgolimfljndnmaaHTx10
import Derived.Test.YtgolimfljndnmaaHTx12
import Derived.Test.YtgolimfljndnmaaHTx13
namespace Go.Proofs.Ytgolimfljndnmaa.HT
open Go.RowKit Go.Proofs.YtgolimfljndnmaaW.PrintWords Go.Proofs.YtgolimfljndnmaaW.PrintLast Go.Proofs.YtgolimfljndnmaaW.PrintMore
attribute [local go_sem] max2_int min2_int max_two min_two max_three min_three max_four min_four   -- for this text's walks alone
set_option linter.unusedVariables false
set_option linter.unusedSimpArgs false

/-! ### rampartlaw04_TcpAll: function 7 -/
def rampartlaw04_TcpAll.j0 : Nat → Int → Int → ByteArray → ByteArray → Bool → Int → Int → Int → Int → Int → Int → ByteArray → Option (Bool)
 | 0, _, _, _, _, _, _, _, _, _, _, _, _ => none
 | k + 1, x0, x1, x3, x4, x34, x196000, x196001, x196002, x196003, x196004, x196005, x196006 => if x34 = true then ((rampartlaw04_awake.f k).bind fun t196 => (some t196)) else ((tcp_Put.f k x0 x1 x196000 x196001 x196002 x196003 x196004 x196005 x196006 x3).bind fun bt197 => ((rampartref04_Put.f k x0 x1 x196000 x196001 x196002 x196003 x196004 x196005 x196006 x3).bind fun bt199 => ((tcp_Get.f k x0 x1 x4).bind fun bt201 => ((rampartref04_Get.f k x0 x1 x4).bind fun bt211 => ((tcp_Check.f x196000 x196001 x196002 x196003 x196004 x196005 x196006).bind fun t221 => ((rampartref04_Check.f x196000 x196001 x196002 x196003 x196004 x196005 x196006).bind fun t222 => (if (t221 == t222) = true then (if bt197.1.toList = bt199.1.toList then (if bt197.2 = bt199.2 then ((rampartref04_Same.f bt201.1 bt201.2.1 bt201.2.2.1 bt201.2.2.2.1 bt201.2.2.2.2.1 bt201.2.2.2.2.2.1 bt201.2.2.2.2.2.2.1 bt211.1 bt211.2.1 bt211.2.2.1 bt211.2.2.2.1 bt211.2.2.2.2.1 bt211.2.2.2.2.2.1 bt211.2.2.2.2.2.2.1).bind fun t223 => (if t223 = true then (if bt201.2.2.2.2.2.2.2.1.toList = bt211.2.2.2.2.2.2.2.1.toList then (if bt201.2.2.2.2.2.2.2.2 = bt211.2.2.2.2.2.2.2.2 then ((rampartlaw04_awake.f k).bind fun t224 => (some t224)) else (some false)) else (some false)) else (some false))) else (some false)) else (some false)) else (some false))))))))
def rampartlaw04_TcpAll.f (k : Nat) (a0 : Int) (a1 : Int) (a2_0 : Int) (a2_1 : Int) (a2_2 : Int) (a2_3 : Int) (a2_4 : Int) (a2_5 : Int) (a2_6 : ByteArray) (a3 : ByteArray) (a4 : ByteArray) : Option (Bool) := if (a2_6.size : Int) > 100 then (rampartlaw04_TcpAll.j0 k a0 a1 a3 a4 true a2_0 a2_1 a2_2 a2_3 a2_4 a2_5 a2_6) else (if (a3.size : Int) > 2500 then (rampartlaw04_TcpAll.j0 k a0 a1 a3 a4 true a2_0 a2_1 a2_2 a2_3 a2_4 a2_5 a2_6) else (rampartlaw04_TcpAll.j0 k a0 a1 a3 a4 (decide ((a4.size : Int) > 2500)) a2_0 a2_1 a2_2 a2_3 a2_4 a2_5 a2_6))
theorem rampartlaw04_TcpAll.mono_l : ∀ k, (∀ y0 y1 y2 y3 y4 y5 y6 y7 y8 y9 y10 y11, LeO (rampartlaw04_TcpAll.j0 k y0 y1 y2 y3 y4 y5 y6 y7 y8 y9 y10 y11) (rampartlaw04_TcpAll.j0 (k + 1) y0 y1 y2 y3 y4 y5 y6 y7 y8 y9 y10 y11))
 | 0 => fun _ _ _ _ _ _ _ _ _ _ _ _ r h => by simp [rampartlaw04_TcpAll.j0] at h
 | k + 1 => by
  have ih0 := rampartlaw04_TcpAll.mono_l k
  ·
   intro y0 y1 y2 y3 y4 y5 y6 y7 y8 y9 y10 y11
   unfold rampartlaw04_TcpAll.j0
   repeat' first
   | (with_reducible exact ih0 _ _ _ _ _ _ _ _ _ _ _ _)
   | (with_reducible exact rampartlaw04_awake.mono _)
   | (with_reducible exact rampartref04_Get.mono _ _ _ _)
   | (with_reducible exact rampartref04_Put.mono _ _ _ _ _ _ _ _ _ _ _)
   | (with_reducible exact tcp_Get.mono _ _ _ _)
   | (with_reducible exact tcp_Put.mono _ _ _ _ _ _ _ _ _ _ _)
   | (with_reducible exact LeO.refl _)
   | (with_reducible exact LeO.none _)
   | (with_reducible refine LeO.ite ?_ ?_)
   | (with_reducible refine LeO.bind ?_ (fun _ => ?_))
   | exact ih0 _ _ _ _ _ _ _ _ _ _ _ _
   | exact rampartlaw04_awake.mono _
   | exact rampartref04_Get.mono _ _ _ _
   | exact rampartref04_Put.mono _ _ _ _ _ _ _ _ _ _ _
   | exact tcp_Get.mono _ _ _ _
   | exact tcp_Put.mono _ _ _ _ _ _ _ _ _ _ _
   | exact LeO.none _
   | refine LeO.ite ?_ ?_
   | refine LeO.bind ?_ (fun _ => ?_)
theorem rampartlaw04_TcpAll.mono : ∀ a0 a1 a2 a3 a4 a5 a6 a7 a8 a9 a10 k, LeO (rampartlaw04_TcpAll.f k a0 a1 a2 a3 a4 a5 a6 a7 a8 a9 a10) (rampartlaw04_TcpAll.f (k + 1) a0 a1 a2 a3 a4 a5 a6 a7 a8 a9 a10) := by
 intro a0 a1 a2 a3 a4 a5 a6 a7 a8 a9 a10 k
 have ih0 := rampartlaw04_TcpAll.mono_l k
 unfold rampartlaw04_TcpAll.f
 repeat' first
   | (with_reducible exact ih0 _ _ _ _ _ _ _ _ _ _ _ _)
   | (with_reducible exact rampartlaw04_awake.mono _)
   | (with_reducible exact rampartref04_Get.mono _ _ _ _)
   | (with_reducible exact rampartref04_Put.mono _ _ _ _ _ _ _ _ _ _ _)
   | (with_reducible exact tcp_Get.mono _ _ _ _)
   | (with_reducible exact tcp_Put.mono _ _ _ _ _ _ _ _ _ _ _)
   | (with_reducible exact LeO.refl _)
   | (with_reducible exact LeO.none _)
   | (with_reducible refine LeO.ite ?_ ?_)
   | (with_reducible refine LeO.bind ?_ (fun _ => ?_))
   | exact ih0 _ _ _ _ _ _ _ _ _ _ _ _
   | exact rampartlaw04_awake.mono _
   | exact rampartref04_Get.mono _ _ _ _
   | exact rampartref04_Put.mono _ _ _ _ _ _ _ _ _ _ _
   | exact tcp_Get.mono _ _ _ _
   | exact tcp_Put.mono _ _ _ _ _ _ _ _ _ _ _
   | exact LeO.none _
   | refine LeO.ite ?_ ?_
   | refine LeO.bind ?_ (fun _ => ?_)
def rampartlaw04_TcpAll.T7 : Bool × List (List Nat × List Nat) := (true, [([], []), ([0], [0]), ([], []), ([2, 1], [2]), ([1, 3], [1, 3]), ([4, 3], [4]), ([5], [5]), ([5], [5]), ([6, 7, 5], [5, 6, 7]), ([5, 8], [5, 8]), ([9, 5], [9]), ([10], [10]), ([10], [10]), ([11, 12, 10], [10, 11, 12]), ([10, 13], [10, 13]), ([14, 10], [14]), ([15], [15]), ([15], [15]), ([16, 17, 15, 15], [15, 16, 17]), ([15, 18], [15, 18]), ([19, 18], [19]), ([20], [20]), ([20], [20]), ([21, 22, 20], [20, 21, 22]), ([20, 23], [20, 23]), ([24, 20], [24]), ([25], [25]), ([25], [25]), ([26, 27, 25], [25, 26, 27]), ([25, 28], [25, 28]), ([29, 25], [29]), ([30, 30], [30]), ([30, 31], [30, 31]), ([32, 31, 0, 1, 2, 3, 4, 5, 6, 7, 8, 9, 10, 11, 12, 13, 14, 15, 16, 17, 18, 19, 20, 21, 22, 23, 24, 25, 26, 27, 28, 29, 30, 31, 32], [32])])
def rampartlaw04_TcpAll.B7 : List Nat := [0, 1, 0, 7, 15, 31, 63, 63, 255, 511, 1023, 2047, 2047, 8191, 16383, 32767, 65535, 65535, 262143, 524287, 1048575, 2097151, 2097151, 8388607, 16777215, 33554431, 67108863, 67108863, 268435455, 536870911, 1073741823, 2147483647, 4294967295, 8589934591]
theorem rampartlaw04_TcpAll.tab7 : rtab .any (opsOf Try.f7 7) = rampartlaw04_TcpAll.T7 := by kernel_rfl
theorem rampartlaw04_TcpAll.bits7 : waitsOk rampartlaw04_TcpAll.T7.2 rampartlaw04_TcpAll.B7 = true := by kernel_rfl
set_option maxHeartbeats 8000000 in
set_option maxRecDepth 100000 in
theorem rampartlaw04_TcpAll.calls (k : Nat) (a0 : Int) (a1 : Int) (a2_0 : Int) (a2_1 : Int) (a2_2 : Int) (a2_3 : Int) (a2_4 : Int) (a2_5 : Int) (a2_6 : ByteArray) (a3 : ByteArray) (a4 : ByteArray) (r : Bool) (w : World) (h : rampartlaw04_TcpAll.f k a0 a1 a2_0 a2_1 a2_2 a2_3 a2_4 a2_5 a2_6 a3 a4 = some r) (HR0 : r = true) :
  Calls Try.prog 7 #[.int .u32 a0, .int .u32 a1, .agg #[.int .i64 a2_0, .int .i64 a2_1, .int .u32 a2_2, .int .u32 a2_3, .int .i64 a2_4, .int .i64 a2_5, .string a2_6], .string a3, .string a4] w fun e w' => e = .returned (.bool r) ∧ Below w.heap.size w w' := by
 have HR := Aside0.mk HR0
 clear HR0
 have hu42 := Try.underlying42
 have HB := Aside0.mk (Below.refl w.heap.size w)
 have H : (if (a2_6.size : Int) > 100 then (rampartlaw04_TcpAll.j0 k a0 a1 a3 a4 true a2_0 a2_1 a2_2 a2_3 a2_4 a2_5 a2_6) else (if (a3.size : Int) > 2500 then (rampartlaw04_TcpAll.j0 k a0 a1 a3 a4 true a2_0 a2_1 a2_2 a2_3 a2_4 a2_5 a2_6) else (rampartlaw04_TcpAll.j0 k a0 a1 a3 a4 (decide ((a4.size : Int) > 2500)) a2_0 a2_1 a2_2 a2_3 a2_4 a2_5 a2_6))) = some r := h
 clear h
 have HC6 := Aside0.mk H
 clear H
 go_enter Try.func7, Try.ntmps7
 go_upto_region 1 with (first | ((with_reducible refine gate_dst (N := 7) rfl ?_); (try (refine gate_guard (by rfl) ?_; dsimp only)); refine box_event ?hg (N := 7) ?hd (cs := #[.int .i64 a2_0, .int .i64 a2_1, .int .u32 a2_2, .int .u32 a2_3, .int .i64 a2_4, .int .i64 a2_5, .string a2_6]) (t := 42) ?hr ?_; (case hd => rfl); (case hg => rfl); (case hr => first | (go_simp; done) | (go_simp; rfl)); intro gb195 hg w7 hbox hb; have n0_ := Aside0.mk (below_step (by repeat (first | (with_reducible first | exact HB.out | apply below_alloc | apply pw_below_drewN | apply below_drew1) | exact HB.out)) hb); have n1_ := Aside0.mk (hbox); have n2_ := Aside0.mk ((by rw [hg]; exact (below_size (by repeat (first | (with_reducible first | exact HB.out | apply below_alloc | apply pw_below_drewN | apply below_drew1) | exact HB.out))) : w.heap.size ≤ gb195)); have n3_ := Aside0.mk ((by rw [hg]; exact (below_size (by repeat (first | (with_reducible first | exact HB.out | apply below_alloc | apply pw_below_drewN | apply below_drew1) | exact HB.out))) : w.heap.size ≤ gb195)); clear HB; have HB := n0_; have BK195 := n1_; have GW195 := n2_; have GE195 := n3_; clear n0_ n1_ n2_ n3_; clear hb hbox hg))
 (try simp only [Act.put, List.setIfInBounds_toArray, List.set_cons_zero, List.set_cons_succ])
 go_cut [34] (fun v34 wc => ∃ (kq : Nat) (x34_5 : Bool), v34 = .bool x34_5 ∧ Aside0 (rampartlaw04_TcpAll.j0 kq a0 a1 a3 a4 x34_5 a2_0 a2_1 a2_2 a2_3 a2_4 a2_5 a2_6 = some r) ∧ Aside0 (kq ≤ k) ∧ Aside0 (wc.heap[gb195]? = some (.cells #[.int .i64 a2_0, .int .i64 a2_1, .int .u32 a2_2, .int .u32 a2_3, .int .i64 a2_4, .int .i64 a2_5, .string a2_6] 42 (0, 0))) ∧ Aside0 (Below w.heap.size w wc))
 case first =>
  have H := HC6.out
  clear HC6
  by_cases c8 : (a2_6.size : Int) > 100
  ·
   rw [if_pos c8] at H
   have c8b0 : decide (100 < (a2_6.size : Int)) = true := decide_eq_true c8
   have c8b1 : decide (100 < a2_6.size) = true := decide_eq_true (by omega)
   clear c8
   (first | rw [c8b0] | (simp only [i64_w, i32_w]; rw [c8b0]) | skip)
   have H' := Aside0.mk H
   clear H
   have hcz9_0 : w7.cell? ⟨gb195, 0, none⟩ = some (.int .i64 a2_0) := (blk_cell BK195.out 0).trans rfl
   have hcz9_1 : w7.cell? ⟨gb195, 1, none⟩ = some (.int .i64 a2_1) := (blk_cell BK195.out 1).trans rfl
   have hcz9_2 : w7.cell? ⟨gb195, 2, none⟩ = some (.int .u32 a2_2) := (blk_cell BK195.out 2).trans rfl
   have hcz9_3 : w7.cell? ⟨gb195, 3, none⟩ = some (.int .u32 a2_3) := (blk_cell BK195.out 3).trans rfl
   have hcz9_4 : w7.cell? ⟨gb195, 4, none⟩ = some (.int .i64 a2_4) := (blk_cell BK195.out 4).trans rfl
   have hcz9_5 : w7.cell? ⟨gb195, 5, none⟩ = some (.int .i64 a2_5) := (blk_cell BK195.out 5).trans rfl
   have hcz9_6 : w7.cell? ⟨gb195, 6, none⟩ = some (.string a2_6) := (blk_cell BK195.out 6).trans rfl
   have hfz9_0 := blk_frozen BK195.out 0
   have hfz9_1 := blk_frozen BK195.out 1
   have hfz9_2 := blk_frozen BK195.out 2
   have hfz9_3 := blk_frozen BK195.out 3
   have hfz9_4 := blk_frozen BK195.out 4
   have hfz9_5 := blk_frozen BK195.out 5
   have hfz9_6 := blk_frozen BK195.out 6
   go_wp2
   go_meet
   case rel => exact ⟨_, (true), (by first | rfl | (simp; done) | (simp [*]; done)), H', ⟨by first | omega | exact Nat.le_refl _⟩, ⟨by (with_reducible repeat (first | refine blk_drewN ?_ _ | refine blk_drew ?_ | refine blk_alloc ?_ _)); exact BK195.out⟩, ⟨by repeat (first | (with_reducible first | exact HB.out | apply below_alloc | apply pw_below_drewN | apply below_drew1 | refine below_set ?_ GE195.out) | exact HB.out)⟩⟩
  ·
   rw [if_neg c8] at H
   have c8b0 : decide (100 < (a2_6.size : Int)) = false := decide_eq_false c8
   have c8b1 : decide (100 < a2_6.size) = false := decide_eq_false (by omega)
   clear c8
   (first | rw [c8b0] | (simp only [i64_w, i32_w]; rw [c8b0]) | skip)
   by_cases c10 : (a3.size : Int) > 2500
   ·
    rw [if_pos c10] at H
    have c10b0 : decide (2500 < (a3.size : Int)) = true := decide_eq_true c10
    have c10b1 : decide (2500 < a3.size) = true := decide_eq_true (by omega)
    clear c10
    have H' := Aside0.mk H
    clear H
    have hcz11_0 : w7.cell? ⟨gb195, 0, none⟩ = some (.int .i64 a2_0) := (blk_cell BK195.out 0).trans rfl
    have hcz11_1 : w7.cell? ⟨gb195, 1, none⟩ = some (.int .i64 a2_1) := (blk_cell BK195.out 1).trans rfl
    have hcz11_2 : w7.cell? ⟨gb195, 2, none⟩ = some (.int .u32 a2_2) := (blk_cell BK195.out 2).trans rfl
    have hcz11_3 : w7.cell? ⟨gb195, 3, none⟩ = some (.int .u32 a2_3) := (blk_cell BK195.out 3).trans rfl
    have hcz11_4 : w7.cell? ⟨gb195, 4, none⟩ = some (.int .i64 a2_4) := (blk_cell BK195.out 4).trans rfl
    have hcz11_5 : w7.cell? ⟨gb195, 5, none⟩ = some (.int .i64 a2_5) := (blk_cell BK195.out 5).trans rfl
    have hcz11_6 : w7.cell? ⟨gb195, 6, none⟩ = some (.string a2_6) := (blk_cell BK195.out 6).trans rfl
    have hfz11_0 := blk_frozen BK195.out 0
    have hfz11_1 := blk_frozen BK195.out 1
    have hfz11_2 := blk_frozen BK195.out 2
    have hfz11_3 := blk_frozen BK195.out 3
    have hfz11_4 := blk_frozen BK195.out 4
    have hfz11_5 := blk_frozen BK195.out 5
    have hfz11_6 := blk_frozen BK195.out 6
    go_wp2
    go_meet
    case rel => exact ⟨_, (true), (by first | rfl | (simp; done) | (simp [*]; done)), H', ⟨by first | omega | exact Nat.le_refl _⟩, ⟨by (with_reducible repeat (first | refine blk_drewN ?_ _ | refine blk_drew ?_ | refine blk_alloc ?_ _)); exact BK195.out⟩, ⟨by repeat (first | (with_reducible first | exact HB.out | apply below_alloc | apply pw_below_drewN | apply below_drew1 | refine below_set ?_ GE195.out) | exact HB.out)⟩⟩
   ·
    rw [if_neg c10] at H
    have c10b0 : decide (2500 < (a3.size : Int)) = false := decide_eq_false c10
    have c10b1 : decide (2500 < a3.size) = false := decide_eq_false (by omega)
    clear c10
    have H' := Aside0.mk H
    clear H
    have hcz12_0 : w7.cell? ⟨gb195, 0, none⟩ = some (.int .i64 a2_0) := (blk_cell BK195.out 0).trans rfl
    have hcz12_1 : w7.cell? ⟨gb195, 1, none⟩ = some (.int .i64 a2_1) := (blk_cell BK195.out 1).trans rfl
    have hcz12_2 : w7.cell? ⟨gb195, 2, none⟩ = some (.int .u32 a2_2) := (blk_cell BK195.out 2).trans rfl
    have hcz12_3 : w7.cell? ⟨gb195, 3, none⟩ = some (.int .u32 a2_3) := (blk_cell BK195.out 3).trans rfl
    have hcz12_4 : w7.cell? ⟨gb195, 4, none⟩ = some (.int .i64 a2_4) := (blk_cell BK195.out 4).trans rfl
    have hcz12_5 : w7.cell? ⟨gb195, 5, none⟩ = some (.int .i64 a2_5) := (blk_cell BK195.out 5).trans rfl
    have hcz12_6 : w7.cell? ⟨gb195, 6, none⟩ = some (.string a2_6) := (blk_cell BK195.out 6).trans rfl
    have hfz12_0 := blk_frozen BK195.out 0
    have hfz12_1 := blk_frozen BK195.out 1
    have hfz12_2 := blk_frozen BK195.out 2
    have hfz12_3 := blk_frozen BK195.out 3
    have hfz12_4 := blk_frozen BK195.out 4
    have hfz12_5 := blk_frozen BK195.out 5
    have hfz12_6 := blk_frozen BK195.out 6
    go_wp2
    go_meet
    case rel => exact ⟨_, (decide ((a4.size : Int) > 2500)), (by first | rfl | (simp; done) | (simp [*]; done)), H', ⟨by first | omega | exact Nat.le_refl _⟩, ⟨by (with_reducible repeat (first | refine blk_drewN ?_ _ | refine blk_drew ?_ | refine blk_alloc ?_ _)); exact BK195.out⟩, ⟨by repeat (first | (with_reducible first | exact HB.out | apply below_alloc | apply pw_below_drewN | apply below_drew1 | refine below_set ?_ GE195.out) | exact HB.out)⟩⟩
 case rest =>
  clear HC6
  try clear c1
  try clear p2
  try clear c7
  try clear c8
  try clear c8b0
  try clear c8b1
  try clear c10
  try clear c10b0
  try clear c10b1
  try clear hcz11_0
  try clear hcz11_1
  try clear hcz11_2
  try clear hcz11_3
  try clear hcz11_4
  try clear hcz11_5
  try clear hcz11_6
  try clear hcz12_0
  try clear hcz12_1
  try clear hcz12_2
  try clear hcz12_3
  try clear hcz12_4
  try clear hcz12_5
  try clear hcz12_6
  try clear hcz9_0
  try clear hcz9_1
  try clear hcz9_2
  try clear hcz9_3
  try clear hcz9_4
  try clear hcz9_5
  try clear hcz9_6
  try clear hfz11_0
  try clear hfz11_1
  try clear hfz11_2
  try clear hfz11_3
  try clear hfz11_4
  try clear hfz11_5
  try clear hfz11_6
  try clear hfz12_0
  try clear hfz12_1
  try clear hfz12_2
  try clear hfz12_3
  try clear hfz12_4
  try clear hfz12_5
  try clear hfz12_6
  try clear hfz9_0
  try clear hfz9_1
  try clear hfz9_2
  try clear hfz9_3
  try clear hfz9_4
  try clear hfz9_5
  try clear hfz9_6
  obtain ⟨kq, x34_5, rfl, HA, HJ5, BK195, HB⟩ := hcut
  cases kq with
  | zero => exact absurd HA.out (by simp [rampartlaw04_TcpAll.j0])
  | succ kj5 =>
   have H := HA.out
   clear HA
   simp only [rampartlaw04_TcpAll.j0] at H
   by_cases c13 : x34_5 = true
   ·
    subst c13
    have H1 : ((rampartlaw04_awake.f kj5).bind fun t196 => (some t196)) = some r := by rw [if_pos rfl] at H; exact H
    clear H
    have H := H1
    clear H1
    replace H := Option.bind_eq_some_iff.mp H
    obtain ⟨t196, A140, H⟩ := H
    replace H : (some t196) = some r := H
    have A14 := Aside0.mk A140
    clear A140
    obtain rfl := Option.some.inj H
    go_wp2_with (first | ((with_reducible refine gate_callee (f := 24) rfl ?_); refine goesL_ (some 35) rfl rfl Try.func24 (by kernel_rfl) rfl #[] rfl (by (try simp only [List.map_toArray, List.map_cons, List.map_nil]); first | done | rfl | (simp only [List.length_drop, List.length_take]; rfl)) ?_; (with_reducible refine (rampartlaw04_awake.calls kj5  t196 _ A14.out).mono ?_); rintro e w15 ⟨rfl, hb⟩; refine ⟨_, rfl, ?_⟩; have n0_ := Aside0.mk (blk_below (g := gb195) (o := .cells #[.int .i64 a2_0, .int .i64 a2_1, .int .u32 a2_2, .int .u32 a2_3, .int .i64 a2_4, .int .i64 a2_5, .string a2_6] 42 (0, 0)) (by (with_reducible repeat (first | refine blk_drewN ?_ _ | refine blk_drew ?_ | refine blk_alloc ?_ _)); exact BK195.out) hb); have n1_ := Aside0.mk (below_step (by repeat (first | (with_reducible first | exact HB.out | apply below_alloc | apply pw_below_drewN | apply below_drew1 | refine below_set ?_ GE195.out) | exact HB.out)) hb); clear BK195; clear HB; have BK195 := n0_; have HB := n1_; clear n0_ n1_; (try clear hb); (try clear hb2); (try clear hk); (try clear hi)))
    go_ret
    exact ⟨by first | rfl | (simp [errW_none, errW_some] <;> rfl) | (simp [*, errW_none, errW_some] <;> rfl), by repeat (first | (with_reducible first | exact HB.out | apply below_alloc | apply pw_below_drewN | apply below_drew1 | refine below_set ?_ GE195.out) | exact HB.out)⟩
   ·
    replace c13 := Bool.eq_false_iff.mpr c13
    subst c13
    have H1 : ((tcp_Put.f kj5 a0 a1 a2_0 a2_1 a2_2 a2_3 a2_4 a2_5 a2_6 a3).bind fun bt197 => ((rampartref04_Put.f kj5 a0 a1 a2_0 a2_1 a2_2 a2_3 a2_4 a2_5 a2_6 a3).bind fun bt199 => ((tcp_Get.f kj5 a0 a1 a4).bind fun bt201 => ((rampartref04_Get.f kj5 a0 a1 a4).bind fun bt211 => ((tcp_Check.f a2_0 a2_1 a2_2 a2_3 a2_4 a2_5 a2_6).bind fun t221 => ((rampartref04_Check.f a2_0 a2_1 a2_2 a2_3 a2_4 a2_5 a2_6).bind fun t222 => (if (t221 == t222) = true then (if bt197.1.toList = bt199.1.toList then (if bt197.2 = bt199.2 then ((rampartref04_Same.f bt201.1 bt201.2.1 bt201.2.2.1 bt201.2.2.2.1 bt201.2.2.2.2.1 bt201.2.2.2.2.2.1 bt201.2.2.2.2.2.2.1 bt211.1 bt211.2.1 bt211.2.2.1 bt211.2.2.2.1 bt211.2.2.2.2.1 bt211.2.2.2.2.2.1 bt211.2.2.2.2.2.2.1).bind fun t223 => (if t223 = true then (if bt201.2.2.2.2.2.2.2.1.toList = bt211.2.2.2.2.2.2.2.1.toList then (if bt201.2.2.2.2.2.2.2.2 = bt211.2.2.2.2.2.2.2.2 then ((rampartlaw04_awake.f kj5).bind fun t224 => (some t224)) else (some false)) else (some false)) else (some false))) else (some false)) else (some false)) else (some false)))))))) = some r := by rw [if_neg (show ¬ (false = true) by decide)] at H; exact H
    clear H
    have H := H1
    clear H1
    replace H := Option.bind_eq_some_iff.mp H
    obtain ⟨⟨t197, t198⟩, A160, H⟩ := H
    replace H : ((rampartref04_Put.f kj5 a0 a1 a2_0 a2_1 a2_2 a2_3 a2_4 a2_5 a2_6 a3).bind fun bt199 => ((tcp_Get.f kj5 a0 a1 a4).bind fun bt201 => ((rampartref04_Get.f kj5 a0 a1 a4).bind fun bt211 => ((tcp_Check.f a2_0 a2_1 a2_2 a2_3 a2_4 a2_5 a2_6).bind fun t221 => ((rampartref04_Check.f a2_0 a2_1 a2_2 a2_3 a2_4 a2_5 a2_6).bind fun t222 => (if (t221 == t222) = true then (if t197.toList = bt199.1.toList then (if t198 = bt199.2 then ((rampartref04_Same.f bt201.1 bt201.2.1 bt201.2.2.1 bt201.2.2.2.1 bt201.2.2.2.2.1 bt201.2.2.2.2.2.1 bt201.2.2.2.2.2.2.1 bt211.1 bt211.2.1 bt211.2.2.1 bt211.2.2.2.1 bt211.2.2.2.2.1 bt211.2.2.2.2.2.1 bt211.2.2.2.2.2.2.1).bind fun t223 => (if t223 = true then (if bt201.2.2.2.2.2.2.2.1.toList = bt211.2.2.2.2.2.2.2.1.toList then (if bt201.2.2.2.2.2.2.2.2 = bt211.2.2.2.2.2.2.2.2 then ((rampartlaw04_awake.f kj5).bind fun t224 => (some t224)) else (some false)) else (some false)) else (some false))) else (some false)) else (some false)) else (some false))))))) = some r := H
    have A16 := Aside0.mk A160
    clear A160
    replace H := Option.bind_eq_some_iff.mp H
    obtain ⟨⟨t199, t200⟩, A170, H⟩ := H
    replace H : ((tcp_Get.f kj5 a0 a1 a4).bind fun bt201 => ((rampartref04_Get.f kj5 a0 a1 a4).bind fun bt211 => ((tcp_Check.f a2_0 a2_1 a2_2 a2_3 a2_4 a2_5 a2_6).bind fun t221 => ((rampartref04_Check.f a2_0 a2_1 a2_2 a2_3 a2_4 a2_5 a2_6).bind fun t222 => (if (t221 == t222) = true then (if t197.toList = t199.toList then (if t198 = t200 then ((rampartref04_Same.f bt201.1 bt201.2.1 bt201.2.2.1 bt201.2.2.2.1 bt201.2.2.2.2.1 bt201.2.2.2.2.2.1 bt201.2.2.2.2.2.2.1 bt211.1 bt211.2.1 bt211.2.2.1 bt211.2.2.2.1 bt211.2.2.2.2.1 bt211.2.2.2.2.2.1 bt211.2.2.2.2.2.2.1).bind fun t223 => (if t223 = true then (if bt201.2.2.2.2.2.2.2.1.toList = bt211.2.2.2.2.2.2.2.1.toList then (if bt201.2.2.2.2.2.2.2.2 = bt211.2.2.2.2.2.2.2.2 then ((rampartlaw04_awake.f kj5).bind fun t224 => (some t224)) else (some false)) else (some false)) else (some false))) else (some false)) else (some false)) else (some false)))))) = some r := H
    have A17 := Aside0.mk A170
    clear A170
    replace H := Option.bind_eq_some_iff.mp H
    obtain ⟨⟨t201, t202, t203, t204, t205, t206, t207, t208, t209⟩, A180, H⟩ := H
    replace H : ((rampartref04_Get.f kj5 a0 a1 a4).bind fun bt211 => ((tcp_Check.f a2_0 a2_1 a2_2 a2_3 a2_4 a2_5 a2_6).bind fun t221 => ((rampartref04_Check.f a2_0 a2_1 a2_2 a2_3 a2_4 a2_5 a2_6).bind fun t222 => (if (t221 == t222) = true then (if t197.toList = t199.toList then (if t198 = t200 then ((rampartref04_Same.f t201 t202 t203 t204 t205 t206 t207 bt211.1 bt211.2.1 bt211.2.2.1 bt211.2.2.2.1 bt211.2.2.2.2.1 bt211.2.2.2.2.2.1 bt211.2.2.2.2.2.2.1).bind fun t223 => (if t223 = true then (if t208.toList = bt211.2.2.2.2.2.2.2.1.toList then (if t209 = bt211.2.2.2.2.2.2.2.2 then ((rampartlaw04_awake.f kj5).bind fun t224 => (some t224)) else (some false)) else (some false)) else (some false))) else (some false)) else (some false)) else (some false))))) = some r := H
    have A18 := Aside0.mk A180
    clear A180
    replace H := Option.bind_eq_some_iff.mp H
    obtain ⟨⟨t211, t212, t213, t214, t215, t216, t217, t218, t219⟩, A190, H⟩ := H
    replace H : ((tcp_Check.f a2_0 a2_1 a2_2 a2_3 a2_4 a2_5 a2_6).bind fun t221 => ((rampartref04_Check.f a2_0 a2_1 a2_2 a2_3 a2_4 a2_5 a2_6).bind fun t222 => (if (t221 == t222) = true then (if t197.toList = t199.toList then (if t198 = t200 then ((rampartref04_Same.f t201 t202 t203 t204 t205 t206 t207 t211 t212 t213 t214 t215 t216 t217).bind fun t223 => (if t223 = true then (if t208.toList = t218.toList then (if t209 = t219 then ((rampartlaw04_awake.f kj5).bind fun t224 => (some t224)) else (some false)) else (some false)) else (some false))) else (some false)) else (some false)) else (some false)))) = some r := H
    have A19 := Aside0.mk A190
    clear A190
    replace H := Option.bind_eq_some_iff.mp H
    obtain ⟨t221, A200, H⟩ := H
    replace H : ((rampartref04_Check.f a2_0 a2_1 a2_2 a2_3 a2_4 a2_5 a2_6).bind fun t222 => (if (t221 == t222) = true then (if t197.toList = t199.toList then (if t198 = t200 then ((rampartref04_Same.f t201 t202 t203 t204 t205 t206 t207 t211 t212 t213 t214 t215 t216 t217).bind fun t223 => (if t223 = true then (if t208.toList = t218.toList then (if t209 = t219 then ((rampartlaw04_awake.f kj5).bind fun t224 => (some t224)) else (some false)) else (some false)) else (some false))) else (some false)) else (some false)) else (some false))) = some r := H
    have A20 := Aside0.mk A200
    clear A200
    replace H := Option.bind_eq_some_iff.mp H
    obtain ⟨t222, A210, H⟩ := H
    replace H : (if (t221 == t222) = true then (if t197.toList = t199.toList then (if t198 = t200 then ((rampartref04_Same.f t201 t202 t203 t204 t205 t206 t207 t211 t212 t213 t214 t215 t216 t217).bind fun t223 => (if t223 = true then (if t208.toList = t218.toList then (if t209 = t219 then ((rampartlaw04_awake.f kj5).bind fun t224 => (some t224)) else (some false)) else (some false)) else (some false))) else (some false)) else (some false)) else (some false)) = some r := H
    have A21 := Aside0.mk A210
    clear A210
    by_cases c22 : (t221 == t222) = true
    ·
     rw [if_pos c22] at H
     have c22b0 : (t221 == t222) = true := c22
     (try (have c22b1 : decide (t221 = t222) = true := by simpa using c22))
     (try (have c22b2 : (t221 == t222) = true := by simpa using c22))
     clear c22
     by_cases c23 : t197.toList = t199.toList
     ·
      rw [if_pos c23] at H
      have c23b0 : (t197.toList == t199.toList) = true := beq_iff_eq.mpr c23
      have c23b1 : (t197.toList != t199.toList) = false := bne_eq_false_iff_eq.mpr c23
      clear c23
      by_cases c24 : t198 = t200
      ·
       rw [if_pos c24] at H
       have c24b0 : (t198 == t200) = true := beq_iff_eq.mpr c24
       have c24b1 : (t198 != t200) = false := bne_eq_false_iff_eq.mpr c24
       clear c24
       replace H := Option.bind_eq_some_iff.mp H
       obtain ⟨t223, A250, H⟩ := H
       replace H : (if t223 = true then (if t208.toList = t218.toList then (if t209 = t219 then ((rampartlaw04_awake.f kj5).bind fun t224 => (some t224)) else (some false)) else (some false)) else (some false)) = some r := H
       have A25 := Aside0.mk A250
       clear A250
       by_cases c26 : t223 = true
       ·
        subst c26
        have H1 : (if t208.toList = t218.toList then (if t209 = t219 then ((rampartlaw04_awake.f kj5).bind fun t224 => (some t224)) else (some false)) else (some false)) = some r := by rw [if_pos rfl] at H; exact H
        clear H
        have H := H1
        clear H1
        by_cases c27 : t208.toList = t218.toList
        ·
         rw [if_pos c27] at H
         have c27b0 : (t208.toList == t218.toList) = true := beq_iff_eq.mpr c27
         have c27b1 : (t208.toList != t218.toList) = false := bne_eq_false_iff_eq.mpr c27
         clear c27
         by_cases c28 : t209 = t219
         ·
          rw [if_pos c28] at H
          have c28b0 : (t209 == t219) = true := beq_iff_eq.mpr c28
          have c28b1 : (t209 != t219) = false := bne_eq_false_iff_eq.mpr c28
          clear c28
          replace H := Option.bind_eq_some_iff.mp H
          obtain ⟨t224, A290, H⟩ := H
          replace H : (some t224) = some r := H
          have A29 := Aside0.mk A290
          clear A290
          obtain rfl := Option.some.inj H
          have hcz30_0 : wc.cell? ⟨gb195, 0, none⟩ = some (.int .i64 a2_0) := (blk_cell BK195.out 0).trans rfl
          have hcz30_1 : wc.cell? ⟨gb195, 1, none⟩ = some (.int .i64 a2_1) := (blk_cell BK195.out 1).trans rfl
          have hcz30_2 : wc.cell? ⟨gb195, 2, none⟩ = some (.int .u32 a2_2) := (blk_cell BK195.out 2).trans rfl
          have hcz30_3 : wc.cell? ⟨gb195, 3, none⟩ = some (.int .u32 a2_3) := (blk_cell BK195.out 3).trans rfl
          have hcz30_4 : wc.cell? ⟨gb195, 4, none⟩ = some (.int .i64 a2_4) := (blk_cell BK195.out 4).trans rfl
          have hcz30_5 : wc.cell? ⟨gb195, 5, none⟩ = some (.int .i64 a2_5) := (blk_cell BK195.out 5).trans rfl
          have hcz30_6 : wc.cell? ⟨gb195, 6, none⟩ = some (.string a2_6) := (blk_cell BK195.out 6).trans rfl
          have hfz30_0 := blk_frozen BK195.out 0
          have hfz30_1 := blk_frozen BK195.out 1
          have hfz30_2 := blk_frozen BK195.out 2
          have hfz30_3 := blk_frozen BK195.out 3
          have hfz30_4 := blk_frozen BK195.out 4
          have hfz30_5 := blk_frozen BK195.out 5
          have hfz30_6 := blk_frozen BK195.out 6
          try go_wp2_with (first | ((with_reducible refine gate_callee (f := 25) rfl ?_); refine goesL_ (some 41) rfl rfl Try.func25 (by kernel_rfl) rfl #[.int .u32 a0, .int .u32 a1, .agg #[.int .i64 a2_0, .int .i64 a2_1, .int .u32 a2_2, .int .u32 a2_3, .int .i64 a2_4, .int .i64 a2_5, .string a2_6], .string a3] rfl (by (try simp only [List.map_toArray, List.map_cons, List.map_nil]); first | done | rfl | (simp only [List.length_drop, List.length_take]; rfl)) ?_; (with_reducible refine (tcp_Put.calls kj5 a0 a1 a2_0 a2_1 a2_2 a2_3 a2_4 a2_5 a2_6 a3 t197 t198 _ A16.out).mono ?_); rintro e w31 ⟨rfl, hb⟩; refine ⟨_, rfl, ?_⟩; have n0_ := Aside0.mk (blk_below (g := gb195) (o := .cells #[.int .i64 a2_0, .int .i64 a2_1, .int .u32 a2_2, .int .u32 a2_3, .int .i64 a2_4, .int .i64 a2_5, .string a2_6] 42 (0, 0)) (by (with_reducible repeat (first | refine blk_drewN ?_ _ | refine blk_drew ?_ | refine blk_alloc ?_ _)); exact BK195.out) hb); have n1_ := Aside0.mk (below_step (by repeat (first | (with_reducible first | exact HB.out | apply below_alloc | apply pw_below_drewN | apply below_drew1 | refine below_set ?_ GE195.out) | exact HB.out)) hb); clear BK195; clear HB; have BK195 := n0_; have HB := n1_; clear n0_ n1_; (try clear hb); (try clear hb2); (try clear hk); (try clear hi); have hcz32_0 : w31.cell? ⟨gb195, 0, none⟩ = some (.int .i64 a2_0) := (blk_cell BK195.out 0).trans rfl; have hcz32_1 : w31.cell? ⟨gb195, 1, none⟩ = some (.int .i64 a2_1) := (blk_cell BK195.out 1).trans rfl; have hcz32_2 : w31.cell? ⟨gb195, 2, none⟩ = some (.int .u32 a2_2) := (blk_cell BK195.out 2).trans rfl; have hcz32_3 : w31.cell? ⟨gb195, 3, none⟩ = some (.int .u32 a2_3) := (blk_cell BK195.out 3).trans rfl; have hcz32_4 : w31.cell? ⟨gb195, 4, none⟩ = some (.int .i64 a2_4) := (blk_cell BK195.out 4).trans rfl; have hcz32_5 : w31.cell? ⟨gb195, 5, none⟩ = some (.int .i64 a2_5) := (blk_cell BK195.out 5).trans rfl; have hcz32_6 : w31.cell? ⟨gb195, 6, none⟩ = some (.string a2_6) := (blk_cell BK195.out 6).trans rfl; have hfz32_0 := blk_frozen BK195.out 0; have hfz32_1 := blk_frozen BK195.out 1; have hfz32_2 := blk_frozen BK195.out 2; have hfz32_3 := blk_frozen BK195.out 3; have hfz32_4 := blk_frozen BK195.out 4; have hfz32_5 := blk_frozen BK195.out 5; have hfz32_6 := blk_frozen BK195.out 6) | ((with_reducible refine gate_callee (f := 26) rfl ?_); refine goesL_ (some 49) rfl rfl Try.func26 (by kernel_rfl) rfl #[.int .u32 a0, .int .u32 a1, .agg #[.int .i64 a2_0, .int .i64 a2_1, .int .u32 a2_2, .int .u32 a2_3, .int .i64 a2_4, .int .i64 a2_5, .string a2_6], .string a3] rfl (by (try simp only [List.map_toArray, List.map_cons, List.map_nil]); first | done | rfl | (simp only [List.length_drop, List.length_take]; rfl)) ?_; (with_reducible refine (rampartref04_Put.calls kj5 a0 a1 a2_0 a2_1 a2_2 a2_3 a2_4 a2_5 a2_6 a3 t199 t200 _ A17.out).mono ?_); rintro e w33 ⟨rfl, hb⟩; refine ⟨_, rfl, ?_⟩; have n0_ := Aside0.mk (blk_below (g := gb195) (o := .cells #[.int .i64 a2_0, .int .i64 a2_1, .int .u32 a2_2, .int .u32 a2_3, .int .i64 a2_4, .int .i64 a2_5, .string a2_6] 42 (0, 0)) (by (with_reducible repeat (first | refine blk_drewN ?_ _ | refine blk_drew ?_ | refine blk_alloc ?_ _)); exact BK195.out) hb); have n1_ := Aside0.mk (below_step (by repeat (first | (with_reducible first | exact HB.out | apply below_alloc | apply pw_below_drewN | apply below_drew1 | refine below_set ?_ GE195.out) | exact HB.out)) hb); clear BK195; clear HB; have BK195 := n0_; have HB := n1_; clear n0_ n1_; (try clear hb); (try clear hb2); (try clear hk); (try clear hi)) | ((with_reducible refine gate_callee (f := 27) rfl ?_); refine goesL_ (some 56) rfl rfl Try.func27 (by kernel_rfl) rfl #[.int .u32 a0, .int .u32 a1, .string a4] rfl (by (try simp only [List.map_toArray, List.map_cons, List.map_nil]); first | done | rfl | (simp only [List.length_drop, List.length_take]; rfl)) ?_; (with_reducible refine (tcp_Get.calls kj5 a0 a1 a4 t201 t202 t203 t204 t205 t206 t207 t208 t209 _ A18.out).mono ?_); rintro e w34 ⟨rfl, hb⟩; refine ⟨_, rfl, ?_⟩; have n0_ := Aside0.mk (blk_below (g := gb195) (o := .cells #[.int .i64 a2_0, .int .i64 a2_1, .int .u32 a2_2, .int .u32 a2_3, .int .i64 a2_4, .int .i64 a2_5, .string a2_6] 42 (0, 0)) (by (with_reducible repeat (first | refine blk_drewN ?_ _ | refine blk_drew ?_ | refine blk_alloc ?_ _)); exact BK195.out) hb); have n1_ := Aside0.mk (below_step (by repeat (first | (with_reducible first | exact HB.out | apply below_alloc | apply pw_below_drewN | apply below_drew1 | refine below_set ?_ GE195.out) | exact HB.out)) hb); clear BK195; clear HB; have BK195 := n0_; have HB := n1_; clear n0_ n1_; (try clear hb); (try clear hb2); (try clear hk); (try clear hi)) | ((with_reducible refine gate_dst (N := 15) rfl ?_); (try (refine gate_guard (by rfl) ?_; dsimp only)); refine box_event ?hg (N := 15) ?hd (cs := #[.int .i64 0, .int .i64 0, .int .u32 0, .int .u32 0, .int .i64 0, .int .i64 0, .string (⟨#[]⟩ : ByteArray)]) (t := 42) ?hr ?_; (case hd => rfl); (case hg => rfl); (case hr => first | (go_simp; done) | (go_simp; rfl)); intro gb210 hg w35 hbox hb; have n0_ := Aside0.mk (blk_below (g := gb195) (o := .cells #[.int .i64 a2_0, .int .i64 a2_1, .int .u32 a2_2, .int .u32 a2_3, .int .i64 a2_4, .int .i64 a2_5, .string a2_6] 42 (0, 0)) (by (with_reducible repeat (first | refine blk_drewN ?_ _ | refine blk_drew ?_ | refine blk_alloc ?_ _)); exact BK195.out) hb); have n1_ := Aside0.mk (below_step (by repeat (first | (with_reducible first | exact HB.out | apply below_alloc | apply pw_below_drewN | apply below_drew1 | refine below_set ?_ GE195.out) | exact HB.out)) hb); have n2_ := Aside0.mk (hbox); have n3_ := Aside0.mk ((by rw [hg]; exact (below_size (by repeat (first | (with_reducible first | exact HB.out | apply below_alloc | apply pw_below_drewN | apply below_drew1 | refine below_set ?_ GE195.out) | exact HB.out))) : w.heap.size ≤ gb210)); have n4_ := Aside0.mk ((by rw [hg]; exact (below_size (by repeat (first | (with_reducible first | exact HB.out | apply below_alloc | apply pw_below_drewN | apply below_drew1 | refine below_set ?_ GE195.out) | exact HB.out))) : w.heap.size ≤ gb210)); have n5_ := Aside0.mk ((by rw [hg]; exact Nat.ne_of_lt (blk_lt (g := gb195) (o := .cells #[.int .i64 a2_0, .int .i64 a2_1, .int .u32 a2_2, .int .u32 a2_3, .int .i64 a2_4, .int .i64 a2_5, .string a2_6] 42 (0, 0)) (by (with_reducible repeat (first | refine blk_drewN ?_ _ | refine blk_drew ?_ | refine blk_alloc ?_ _)); exact BK195.out)) : gb195 ≠ gb210)); have n6_ := Aside0.mk ((by rw [hg]; exact Nat.ne_of_gt (blk_lt (g := gb195) (o := .cells #[.int .i64 a2_0, .int .i64 a2_1, .int .u32 a2_2, .int .u32 a2_3, .int .i64 a2_4, .int .i64 a2_5, .string a2_6] 42 (0, 0)) (by (with_reducible repeat (first | refine blk_drewN ?_ _ | refine blk_drew ?_ | refine blk_alloc ?_ _)); exact BK195.out)) : gb210 ≠ gb195)); clear BK195; clear HB; have BK195 := n0_; have HB := n1_; have BK210 := n2_; have GW210 := n3_; have GE210 := n4_; have NB195_210 := n5_; have NB210_195 := n6_; clear n0_ n1_ n2_ n3_ n4_ n5_ n6_; clear hb hbox hg; have hnb36 := NB210_195.out; have hnc36 := NB195_210.out; have hcz37_0 : w35.cell? ⟨gb210, 0, none⟩ = some (.int .i64 0) := (blk_cell BK210.out 0).trans rfl; have hcz37_1 : w35.cell? ⟨gb210, 1, none⟩ = some (.int .i64 0) := (blk_cell BK210.out 1).trans rfl; have hcz37_2 : w35.cell? ⟨gb210, 2, none⟩ = some (.int .u32 0) := (blk_cell BK210.out 2).trans rfl; have hcz37_3 : w35.cell? ⟨gb210, 3, none⟩ = some (.int .u32 0) := (blk_cell BK210.out 3).trans rfl; have hcz37_4 : w35.cell? ⟨gb210, 4, none⟩ = some (.int .i64 0) := (blk_cell BK210.out 4).trans rfl; have hcz37_5 : w35.cell? ⟨gb210, 5, none⟩ = some (.int .i64 0) := (blk_cell BK210.out 5).trans rfl; have hcz37_6 : w35.cell? ⟨gb210, 6, none⟩ = some (.string (⟨#[]⟩ : ByteArray)) := (blk_cell BK210.out 6).trans rfl; have hfz37_0 := blk_frozen BK210.out 0; have hfz37_1 := blk_frozen BK210.out 1; have hfz37_2 := blk_frozen BK210.out 2; have hfz37_3 := blk_frozen BK210.out 3; have hfz37_4 := blk_frozen BK210.out 4; have hfz37_5 := blk_frozen BK210.out 5; have hfz37_6 := blk_frozen BK210.out 6) | ((with_reducible refine gate_callee (f := 28) rfl ?_); refine goesL_ (some 64) rfl rfl Try.func28 (by kernel_rfl) rfl #[.int .u32 a0, .int .u32 a1, .string a4] rfl (by (try simp only [List.map_toArray, List.map_cons, List.map_nil]); first | done | rfl | (simp only [List.length_drop, List.length_take]; rfl)) ?_; (with_reducible refine (rampartref04_Get.calls kj5 a0 a1 a4 t211 t212 t213 t214 t215 t216 t217 t218 t219 _ A19.out).mono ?_); rintro e w38 ⟨rfl, hb⟩; refine ⟨_, rfl, ?_⟩; have n0_ := Aside0.mk (blk_below (g := gb195) (o := .cells #[.int .i64 a2_0, .int .i64 a2_1, .int .u32 a2_2, .int .u32 a2_3, .int .i64 a2_4, .int .i64 a2_5, .string a2_6] 42 (0, 0)) (by (with_reducible repeat (first | refine blk_drewN ?_ _ | refine blk_drew ?_ | refine blk_alloc ?_ _)); refine blk_far ?_ NB195_210.out _; (with_reducible repeat (first | refine blk_drewN ?_ _ | refine blk_drew ?_ | refine blk_alloc ?_ _)); refine blk_far ?_ NB195_210.out _; (with_reducible repeat (first | refine blk_drewN ?_ _ | refine blk_drew ?_ | refine blk_alloc ?_ _)); refine blk_far ?_ NB195_210.out _; (with_reducible repeat (first | refine blk_drewN ?_ _ | refine blk_drew ?_ | refine blk_alloc ?_ _)); refine blk_far ?_ NB195_210.out _; (with_reducible repeat (first | refine blk_drewN ?_ _ | refine blk_drew ?_ | refine blk_alloc ?_ _)); refine blk_far ?_ NB195_210.out _; (with_reducible repeat (first | refine blk_drewN ?_ _ | refine blk_drew ?_ | refine blk_alloc ?_ _)); refine blk_far ?_ NB195_210.out _; (with_reducible repeat (first | refine blk_drewN ?_ _ | refine blk_drew ?_ | refine blk_alloc ?_ _)); refine blk_far ?_ NB195_210.out _; (with_reducible repeat (first | refine blk_drewN ?_ _ | refine blk_drew ?_ | refine blk_alloc ?_ _)); exact BK195.out) hb); have n1_ := Aside0.mk (blk_below (g := gb210) (o := .cells #[.int .i64 t201, .int .i64 t202, .int .u32 t203, .int .u32 t204, .int .i64 t205, .int .i64 t206, .string t207] 42 (0, 0)) (by (with_reducible repeat (first | refine blk_drewN ?_ _ | refine blk_drew ?_ | refine blk_alloc ?_ _)); refine blk_put (cs := #[.int .i64 t201, .int .i64 t202, .int .u32 t203, .int .u32 t204, .int .i64 t205, .int .i64 t206, .string (⟨#[]⟩ : ByteArray)]) ?_ 6 _ rfl; (with_reducible repeat (first | refine blk_drewN ?_ _ | refine blk_drew ?_ | refine blk_alloc ?_ _)); refine blk_put (cs := #[.int .i64 t201, .int .i64 t202, .int .u32 t203, .int .u32 t204, .int .i64 t205, .int .i64 0, .string (⟨#[]⟩ : ByteArray)]) ?_ 5 _ rfl; (with_reducible repeat (first | refine blk_drewN ?_ _ | refine blk_drew ?_ | refine blk_alloc ?_ _)); refine blk_put (cs := #[.int .i64 t201, .int .i64 t202, .int .u32 t203, .int .u32 t204, .int .i64 0, .int .i64 0, .string (⟨#[]⟩ : ByteArray)]) ?_ 4 _ rfl; (with_reducible repeat (first | refine blk_drewN ?_ _ | refine blk_drew ?_ | refine blk_alloc ?_ _)); refine blk_put (cs := #[.int .i64 t201, .int .i64 t202, .int .u32 t203, .int .u32 0, .int .i64 0, .int .i64 0, .string (⟨#[]⟩ : ByteArray)]) ?_ 3 _ rfl; (with_reducible repeat (first | refine blk_drewN ?_ _ | refine blk_drew ?_ | refine blk_alloc ?_ _)); refine blk_put (cs := #[.int .i64 t201, .int .i64 t202, .int .u32 0, .int .u32 0, .int .i64 0, .int .i64 0, .string (⟨#[]⟩ : ByteArray)]) ?_ 2 _ rfl; (with_reducible repeat (first | refine blk_drewN ?_ _ | refine blk_drew ?_ | refine blk_alloc ?_ _)); refine blk_put (cs := #[.int .i64 t201, .int .i64 0, .int .u32 0, .int .u32 0, .int .i64 0, .int .i64 0, .string (⟨#[]⟩ : ByteArray)]) ?_ 1 _ rfl; (with_reducible repeat (first | refine blk_drewN ?_ _ | refine blk_drew ?_ | refine blk_alloc ?_ _)); refine blk_put (cs := #[.int .i64 0, .int .i64 0, .int .u32 0, .int .u32 0, .int .i64 0, .int .i64 0, .string (⟨#[]⟩ : ByteArray)]) ?_ 0 _ rfl; (with_reducible repeat (first | refine blk_drewN ?_ _ | refine blk_drew ?_ | refine blk_alloc ?_ _)); exact BK210.out) hb); have n2_ := Aside0.mk (below_step (by repeat (first | (with_reducible first | exact HB.out | apply below_alloc | apply pw_below_drewN | apply below_drew1 | refine below_set ?_ GE195.out | refine below_set ?_ GE210.out) | exact HB.out)) hb); clear BK195; clear BK210; clear HB; have BK195 := n0_; have BK210 := n1_; have HB := n2_; clear n0_ n1_ n2_; (try clear hb); (try clear hb2); (try clear hk); (try clear hi)) | ((with_reducible refine gate_dst (N := 18) rfl ?_); (try (refine gate_guard (by rfl) ?_; dsimp only)); refine box_event ?hg (N := 18) ?hd (cs := #[.int .i64 0, .int .i64 0, .int .u32 0, .int .u32 0, .int .i64 0, .int .i64 0, .string (⟨#[]⟩ : ByteArray)]) (t := 42) ?hr ?_; (case hd => rfl); (case hg => rfl); (case hr => first | (go_simp; done) | (go_simp; rfl)); intro gb220 hg w39 hbox hb; have n0_ := Aside0.mk (blk_below (g := gb195) (o := .cells #[.int .i64 a2_0, .int .i64 a2_1, .int .u32 a2_2, .int .u32 a2_3, .int .i64 a2_4, .int .i64 a2_5, .string a2_6] 42 (0, 0)) (by (with_reducible repeat (first | refine blk_drewN ?_ _ | refine blk_drew ?_ | refine blk_alloc ?_ _)); exact BK195.out) hb); have n1_ := Aside0.mk (blk_below (g := gb210) (o := .cells #[.int .i64 t201, .int .i64 t202, .int .u32 t203, .int .u32 t204, .int .i64 t205, .int .i64 t206, .string t207] 42 (0, 0)) (by (with_reducible repeat (first | refine blk_drewN ?_ _ | refine blk_drew ?_ | refine blk_alloc ?_ _)); exact BK210.out) hb); have n2_ := Aside0.mk (below_step (by repeat (first | (with_reducible first | exact HB.out | apply below_alloc | apply pw_below_drewN | apply below_drew1 | refine below_set ?_ GE195.out | refine below_set ?_ GE210.out) | exact HB.out)) hb); have n3_ := Aside0.mk (hbox); have n4_ := Aside0.mk ((by rw [hg]; exact (below_size (by repeat (first | (with_reducible first | exact HB.out | apply below_alloc | apply pw_below_drewN | apply below_drew1 | refine below_set ?_ GE195.out | refine below_set ?_ GE210.out) | exact HB.out))) : w.heap.size ≤ gb220)); have n5_ := Aside0.mk ((by rw [hg]; exact (below_size (by repeat (first | (with_reducible first | exact HB.out | apply below_alloc | apply pw_below_drewN | apply below_drew1 | refine below_set ?_ GE195.out | refine below_set ?_ GE210.out) | exact HB.out))) : w.heap.size ≤ gb220)); have n6_ := Aside0.mk ((by rw [hg]; exact Nat.ne_of_lt (blk_lt (g := gb195) (o := .cells #[.int .i64 a2_0, .int .i64 a2_1, .int .u32 a2_2, .int .u32 a2_3, .int .i64 a2_4, .int .i64 a2_5, .string a2_6] 42 (0, 0)) (by (with_reducible repeat (first | refine blk_drewN ?_ _ | refine blk_drew ?_ | refine blk_alloc ?_ _)); exact BK195.out)) : gb195 ≠ gb220)); have n7_ := Aside0.mk ((by rw [hg]; exact Nat.ne_of_gt (blk_lt (g := gb195) (o := .cells #[.int .i64 a2_0, .int .i64 a2_1, .int .u32 a2_2, .int .u32 a2_3, .int .i64 a2_4, .int .i64 a2_5, .string a2_6] 42 (0, 0)) (by (with_reducible repeat (first | refine blk_drewN ?_ _ | refine blk_drew ?_ | refine blk_alloc ?_ _)); exact BK195.out)) : gb220 ≠ gb195)); have n8_ := Aside0.mk ((by rw [hg]; exact Nat.ne_of_lt (blk_lt (g := gb210) (o := .cells #[.int .i64 t201, .int .i64 t202, .int .u32 t203, .int .u32 t204, .int .i64 t205, .int .i64 t206, .string t207] 42 (0, 0)) (by (with_reducible repeat (first | refine blk_drewN ?_ _ | refine blk_drew ?_ | refine blk_alloc ?_ _)); exact BK210.out)) : gb210 ≠ gb220)); have n9_ := Aside0.mk ((by rw [hg]; exact Nat.ne_of_gt (blk_lt (g := gb210) (o := .cells #[.int .i64 t201, .int .i64 t202, .int .u32 t203, .int .u32 t204, .int .i64 t205, .int .i64 t206, .string t207] 42 (0, 0)) (by (with_reducible repeat (first | refine blk_drewN ?_ _ | refine blk_drew ?_ | refine blk_alloc ?_ _)); exact BK210.out)) : gb220 ≠ gb210)); clear BK195; clear BK210; clear HB; have BK195 := n0_; have BK210 := n1_; have HB := n2_; have BK220 := n3_; have GW220 := n4_; have GE220 := n5_; have NB195_220 := n6_; have NB220_195 := n7_; have NB210_220 := n8_; have NB220_210 := n9_; clear n0_ n1_ n2_ n3_ n4_ n5_ n6_ n7_ n8_ n9_; clear hb hbox hg; have hnb40 := NB220_195.out; have hnc40 := NB195_220.out; have hnb41 := NB220_210.out; have hnc41 := NB210_220.out; have hcz42_0 : w39.cell? ⟨gb220, 0, none⟩ = some (.int .i64 0) := (blk_cell BK220.out 0).trans rfl; have hcz42_1 : w39.cell? ⟨gb220, 1, none⟩ = some (.int .i64 0) := (blk_cell BK220.out 1).trans rfl; have hcz42_2 : w39.cell? ⟨gb220, 2, none⟩ = some (.int .u32 0) := (blk_cell BK220.out 2).trans rfl; have hcz42_3 : w39.cell? ⟨gb220, 3, none⟩ = some (.int .u32 0) := (blk_cell BK220.out 3).trans rfl; have hcz42_4 : w39.cell? ⟨gb220, 4, none⟩ = some (.int .i64 0) := (blk_cell BK220.out 4).trans rfl; have hcz42_5 : w39.cell? ⟨gb220, 5, none⟩ = some (.int .i64 0) := (blk_cell BK220.out 5).trans rfl; have hcz42_6 : w39.cell? ⟨gb220, 6, none⟩ = some (.string (⟨#[]⟩ : ByteArray)) := (blk_cell BK220.out 6).trans rfl; have hfz42_0 := blk_frozen BK220.out 0; have hfz42_1 := blk_frozen BK220.out 1; have hfz42_2 := blk_frozen BK220.out 2; have hfz42_3 := blk_frozen BK220.out 3; have hfz42_4 := blk_frozen BK220.out 4; have hfz42_5 := blk_frozen BK220.out 5; have hfz42_6 := blk_frozen BK220.out 6))
          have n0_ : Aside0 ((((((((w39.setCell ⟨gb220, 0, none⟩ (.int .i64 t211)).setCell ⟨gb220, 1, none⟩ (.int .i64 t212)).setCell ⟨gb220, 2, none⟩ (.int .u32 t213)).setCell ⟨gb220, 3, none⟩ (.int .u32 t214)).setCell ⟨gb220, 4, none⟩ (.int .i64 t215)).setCell ⟨gb220, 5, none⟩ (.int .i64 t216)).setCell ⟨gb220, 6, none⟩ (.string t217)).heap[gb195]? = some (.cells #[.int .i64 a2_0, .int .i64 a2_1, .int .u32 a2_2, .int .u32 a2_3, .int .i64 a2_4, .int .i64 a2_5, .string a2_6] 42 (0, 0))) := ⟨by (with_reducible repeat (first | refine blk_drewN ?_ _ | refine blk_drew ?_ | refine blk_alloc ?_ _)); refine blk_far ?_ NB195_220.out _; (with_reducible repeat (first | refine blk_drewN ?_ _ | refine blk_drew ?_ | refine blk_alloc ?_ _)); refine blk_far ?_ NB195_220.out _; (with_reducible repeat (first | refine blk_drewN ?_ _ | refine blk_drew ?_ | refine blk_alloc ?_ _)); refine blk_far ?_ NB195_220.out _; (with_reducible repeat (first | refine blk_drewN ?_ _ | refine blk_drew ?_ | refine blk_alloc ?_ _)); refine blk_far ?_ NB195_220.out _; (with_reducible repeat (first | refine blk_drewN ?_ _ | refine blk_drew ?_ | refine blk_alloc ?_ _)); refine blk_far ?_ NB195_220.out _; (with_reducible repeat (first | refine blk_drewN ?_ _ | refine blk_drew ?_ | refine blk_alloc ?_ _)); refine blk_far ?_ NB195_220.out _; (with_reducible repeat (first | refine blk_drewN ?_ _ | refine blk_drew ?_ | refine blk_alloc ?_ _)); refine blk_far ?_ NB195_220.out _; (with_reducible repeat (first | refine blk_drewN ?_ _ | refine blk_drew ?_ | refine blk_alloc ?_ _)); exact BK195.out⟩
          have n1_ : Aside0 ((((((((w39.setCell ⟨gb220, 0, none⟩ (.int .i64 t211)).setCell ⟨gb220, 1, none⟩ (.int .i64 t212)).setCell ⟨gb220, 2, none⟩ (.int .u32 t213)).setCell ⟨gb220, 3, none⟩ (.int .u32 t214)).setCell ⟨gb220, 4, none⟩ (.int .i64 t215)).setCell ⟨gb220, 5, none⟩ (.int .i64 t216)).setCell ⟨gb220, 6, none⟩ (.string t217)).heap[gb210]? = some (.cells #[.int .i64 t201, .int .i64 t202, .int .u32 t203, .int .u32 t204, .int .i64 t205, .int .i64 t206, .string t207] 42 (0, 0))) := ⟨by (with_reducible repeat (first | refine blk_drewN ?_ _ | refine blk_drew ?_ | refine blk_alloc ?_ _)); refine blk_far ?_ NB210_220.out _; (with_reducible repeat (first | refine blk_drewN ?_ _ | refine blk_drew ?_ | refine blk_alloc ?_ _)); refine blk_far ?_ NB210_220.out _; (with_reducible repeat (first | refine blk_drewN ?_ _ | refine blk_drew ?_ | refine blk_alloc ?_ _)); refine blk_far ?_ NB210_220.out _; (with_reducible repeat (first | refine blk_drewN ?_ _ | refine blk_drew ?_ | refine blk_alloc ?_ _)); refine blk_far ?_ NB210_220.out _; (with_reducible repeat (first | refine blk_drewN ?_ _ | refine blk_drew ?_ | refine blk_alloc ?_ _)); refine blk_far ?_ NB210_220.out _; (with_reducible repeat (first | refine blk_drewN ?_ _ | refine blk_drew ?_ | refine blk_alloc ?_ _)); refine blk_far ?_ NB210_220.out _; (with_reducible repeat (first | refine blk_drewN ?_ _ | refine blk_drew ?_ | refine blk_alloc ?_ _)); refine blk_far ?_ NB210_220.out _; (with_reducible repeat (first | refine blk_drewN ?_ _ | refine blk_drew ?_ | refine blk_alloc ?_ _)); exact BK210.out⟩
          have n2_ : Aside0 ((((((((w39.setCell ⟨gb220, 0, none⟩ (.int .i64 t211)).setCell ⟨gb220, 1, none⟩ (.int .i64 t212)).setCell ⟨gb220, 2, none⟩ (.int .u32 t213)).setCell ⟨gb220, 3, none⟩ (.int .u32 t214)).setCell ⟨gb220, 4, none⟩ (.int .i64 t215)).setCell ⟨gb220, 5, none⟩ (.int .i64 t216)).setCell ⟨gb220, 6, none⟩ (.string t217)).heap[gb220]? = some (.cells #[.int .i64 t211, .int .i64 t212, .int .u32 t213, .int .u32 t214, .int .i64 t215, .int .i64 t216, .string t217] 42 (0, 0))) := ⟨by (with_reducible repeat (first | refine blk_drewN ?_ _ | refine blk_drew ?_ | refine blk_alloc ?_ _)); refine blk_put (cs := #[.int .i64 t211, .int .i64 t212, .int .u32 t213, .int .u32 t214, .int .i64 t215, .int .i64 t216, .string (⟨#[]⟩ : ByteArray)]) ?_ 6 _ rfl; (with_reducible repeat (first | refine blk_drewN ?_ _ | refine blk_drew ?_ | refine blk_alloc ?_ _)); refine blk_put (cs := #[.int .i64 t211, .int .i64 t212, .int .u32 t213, .int .u32 t214, .int .i64 t215, .int .i64 0, .string (⟨#[]⟩ : ByteArray)]) ?_ 5 _ rfl; (with_reducible repeat (first | refine blk_drewN ?_ _ | refine blk_drew ?_ | refine blk_alloc ?_ _)); refine blk_put (cs := #[.int .i64 t211, .int .i64 t212, .int .u32 t213, .int .u32 t214, .int .i64 0, .int .i64 0, .string (⟨#[]⟩ : ByteArray)]) ?_ 4 _ rfl; (with_reducible repeat (first | refine blk_drewN ?_ _ | refine blk_drew ?_ | refine blk_alloc ?_ _)); refine blk_put (cs := #[.int .i64 t211, .int .i64 t212, .int .u32 t213, .int .u32 0, .int .i64 0, .int .i64 0, .string (⟨#[]⟩ : ByteArray)]) ?_ 3 _ rfl; (with_reducible repeat (first | refine blk_drewN ?_ _ | refine blk_drew ?_ | refine blk_alloc ?_ _)); refine blk_put (cs := #[.int .i64 t211, .int .i64 t212, .int .u32 0, .int .u32 0, .int .i64 0, .int .i64 0, .string (⟨#[]⟩ : ByteArray)]) ?_ 2 _ rfl; (with_reducible repeat (first | refine blk_drewN ?_ _ | refine blk_drew ?_ | refine blk_alloc ?_ _)); refine blk_put (cs := #[.int .i64 t211, .int .i64 0, .int .u32 0, .int .u32 0, .int .i64 0, .int .i64 0, .string (⟨#[]⟩ : ByteArray)]) ?_ 1 _ rfl; (with_reducible repeat (first | refine blk_drewN ?_ _ | refine blk_drew ?_ | refine blk_alloc ?_ _)); refine blk_put (cs := #[.int .i64 0, .int .i64 0, .int .u32 0, .int .u32 0, .int .i64 0, .int .i64 0, .string (⟨#[]⟩ : ByteArray)]) ?_ 0 _ rfl; (with_reducible repeat (first | refine blk_drewN ?_ _ | refine blk_drew ?_ | refine blk_alloc ?_ _)); exact BK220.out⟩
          have n3_ : Aside0 (Below w.heap.size w (((((((w39.setCell ⟨gb220, 0, none⟩ (.int .i64 t211)).setCell ⟨gb220, 1, none⟩ (.int .i64 t212)).setCell ⟨gb220, 2, none⟩ (.int .u32 t213)).setCell ⟨gb220, 3, none⟩ (.int .u32 t214)).setCell ⟨gb220, 4, none⟩ (.int .i64 t215)).setCell ⟨gb220, 5, none⟩ (.int .i64 t216)).setCell ⟨gb220, 6, none⟩ (.string t217))) := ⟨by repeat (first | (with_reducible first | exact HB.out | apply below_alloc | apply pw_below_drewN | apply below_drew1 | refine below_set ?_ GE195.out | refine below_set ?_ GE210.out | refine below_set ?_ GE220.out) | exact HB.out)⟩
          (try clear BK195)
          (try clear BK210)
          (try clear BK220)
          (try clear HB)
          generalize (((((((w39.setCell ⟨gb220, 0, none⟩ (.int .i64 t211)).setCell ⟨gb220, 1, none⟩ (.int .i64 t212)).setCell ⟨gb220, 2, none⟩ (.int .u32 t213)).setCell ⟨gb220, 3, none⟩ (.int .u32 t214)).setCell ⟨gb220, 4, none⟩ (.int .i64 t215)).setCell ⟨gb220, 5, none⟩ (.int .i64 t216)).setCell ⟨gb220, 6, none⟩ (.string t217)) = w43 at n0_ n1_ n2_ n3_ ⊢
          have BK195 := n0_
          have BK210 := n1_
          have BK220 := n2_
          have HB := n3_
          clear n0_ n1_ n2_ n3_
          have n0_ := Aside0.mk (blk_drew BK195.out)
          have n1_ := Aside0.mk (blk_drew BK210.out)
          have n2_ := Aside0.mk (blk_drew BK220.out)
          have n3_ := Aside0.mk (below_drew1 HB.out)
          clear BK195
          clear BK210
          clear BK220
          clear HB
          have BK195 := n0_
          have BK210 := n1_
          have BK220 := n2_
          have HB := n3_
          clear n0_ n1_ n2_ n3_
          refine start_ (n := 34) (S := fun w' => w'.cell? ⟨gb195, 0, none⟩ = some (.int .i64 a2_0) ∧ w'.cell? ⟨gb195, 1, none⟩ = some (.int .i64 a2_1) ∧ w'.cell? ⟨gb195, 2, none⟩ = some (.int .u32 a2_2) ∧ w'.cell? ⟨gb195, 3, none⟩ = some (.int .u32 a2_3) ∧ w'.cell? ⟨gb195, 4, none⟩ = some (.int .i64 a2_4) ∧ w'.cell? ⟨gb195, 5, none⟩ = some (.int .i64 a2_5) ∧ w'.cell? ⟨gb195, 6, none⟩ = some (.string a2_6) ∧ w'.cell? ⟨gb210, 0, none⟩ = some (.int .i64 t201) ∧ w'.cell? ⟨gb210, 1, none⟩ = some (.int .i64 t202) ∧ w'.cell? ⟨gb210, 2, none⟩ = some (.int .u32 t203) ∧ w'.cell? ⟨gb210, 3, none⟩ = some (.int .u32 t204) ∧ w'.cell? ⟨gb210, 4, none⟩ = some (.int .i64 t205) ∧ w'.cell? ⟨gb210, 5, none⟩ = some (.int .i64 t206) ∧ w'.cell? ⟨gb210, 6, none⟩ = some (.string t207) ∧ w'.cell? ⟨gb220, 0, none⟩ = some (.int .i64 t211) ∧ w'.cell? ⟨gb220, 1, none⟩ = some (.int .i64 t212) ∧ w'.cell? ⟨gb220, 2, none⟩ = some (.int .u32 t213) ∧ w'.cell? ⟨gb220, 3, none⟩ = some (.int .u32 t214) ∧ w'.cell? ⟨gb220, 4, none⟩ = some (.int .i64 t215) ∧ w'.cell? ⟨gb220, 5, none⟩ = some (.int .i64 t216) ∧ w'.cell? ⟨gb220, 6, none⟩ = some (.string t217)) (ds := []) #[false, false, false, false, false, false, false, false, false, false, false, false, false, false, false, false, false, false, false, false, false, false, false, false, false, false, false, false, false, false, false, false, false, false] (by kernel_rfl) rfl rfl ⟨(blk_cell BK195.out 0).trans rfl, (blk_cell BK195.out 1).trans rfl, (blk_cell BK195.out 2).trans rfl, (blk_cell BK195.out 3).trans rfl, (blk_cell BK195.out 4).trans rfl, (blk_cell BK195.out 5).trans rfl, (blk_cell BK195.out 6).trans rfl, (blk_cell BK210.out 0).trans rfl, (blk_cell BK210.out 1).trans rfl, (blk_cell BK210.out 2).trans rfl, (blk_cell BK210.out 3).trans rfl, (blk_cell BK210.out 4).trans rfl, (blk_cell BK210.out 5).trans rfl, (blk_cell BK210.out 6).trans rfl, (blk_cell BK220.out 0).trans rfl, (blk_cell BK220.out 1).trans rfl, (blk_cell BK220.out 2).trans rfl, (blk_cell BK220.out 3).trans rfl, (blk_cell BK220.out 4).trans rfl, (blk_cell BK220.out 5).trans rfl, (blk_cell BK220.out 6).trans rfl⟩ (fun hHeld => ?_); refine with_tabW rampartlaw04_TcpAll.tab7 rampartlaw04_TcpAll.bits7 (fun HT_ HW_ => ?_)
          generalize w43.drew = w44 at BK195 BK210 BK220 HB hHeld ⊢
          refine take_ (i := 0) (N := some 68) (v := ?_) (a' := ?_) #[true, false, false, false, false, false, false, false, false, false, false, false, false, false, false, false, false, false, false, false, false, false, false, false, false, false, false, false, false, false, false, false, false, false] rfl rfl (take_ofW HT_.out HW_.out (by kernel_rfl)) (fun _ _ _ h => h) (Or.inl ⟨by rfl, ?_⟩) hHeld ?_ ?_
          rotate_left
          ·
           rintro w' ⟨s0, s1, s2, s3, s4, s5, s6, s7, s8, s9, s10, s11, s12, s13, s14, s15, s16, s17, s18, s19, s20⟩
           go_simp
           with_reducible rfl
          rotate_left
          ·
           simp only [Act.put, List.setIfInBounds_toArray, List.set_cons_zero, List.set_cons_succ, i64_w, i32_w]
           rfl
          refine take_ (i := 2) (N := some 70) (v := ?_) (a' := ?_) #[true, false, true, false, false, false, false, false, false, false, false, false, false, false, false, false, false, false, false, false, false, false, false, false, false, false, false, false, false, false, false, false, false, false] rfl rfl (take_ofW HT_.out HW_.out (by kernel_rfl)) (fun _ _ _ h => h) (Or.inl ⟨by rfl, ?_⟩) hHeld ?_ ?_
          rotate_left
          ·
           rintro w' ⟨s0, s1, s2, s3, s4, s5, s6, s7, s8, s9, s10, s11, s12, s13, s14, s15, s16, s17, s18, s19, s20⟩
           go_simp
           with_reducible rfl
          rotate_left
          ·
           simp only [Act.put, List.setIfInBounds_toArray, List.set_cons_zero, List.set_cons_succ, i64_w, i32_w]
           rfl
          refine one_ (i := 1) (N := some 69) #[true, true, true, false, false, false, false, false, false, false, false, false, false, false, false, false, false, false, false, false, false, false, false, false, false, false, false, false, false, false, false, false, false, false] rfl rfl (one_of HT_.out (by kernel_rfl)) (by decide) (fun K hK => ?_)
          refine goes_ Try.func29 (by kernel_rfl) rfl #[.agg #[.int .i64 a2_0, .int .i64 a2_1, .int .u32 a2_2, .int .u32 a2_3, .int .i64 a2_4, .int .i64 a2_5, .string a2_6]] (by rfl) rfl rfl (by (try simp only [List.map_toArray, List.map_cons, List.map_nil]); first | done | rfl | (simp only [List.length_drop, List.length_take]; rfl)) ?_
          with_reducible refine (tcp_Check.calls a2_0 a2_1 a2_2 a2_3 a2_4 a2_5 a2_6 t221 _ A20.out).mono ?_
          rintro e w45 ⟨rfl, hb⟩
          refine ⟨_, rfl, ?_⟩
          have n0_ := Aside0.mk (blk_below (g := gb195) (o := .cells #[.int .i64 a2_0, .int .i64 a2_1, .int .u32 a2_2, .int .u32 a2_3, .int .i64 a2_4, .int .i64 a2_5, .string a2_6] 42 (0, 0)) (by (with_reducible repeat (first | refine blk_drewN ?_ _ | refine blk_drew ?_ | refine blk_alloc ?_ _)); exact BK195.out) hb)
          have n1_ := Aside0.mk (blk_below (g := gb210) (o := .cells #[.int .i64 t201, .int .i64 t202, .int .u32 t203, .int .u32 t204, .int .i64 t205, .int .i64 t206, .string t207] 42 (0, 0)) (by (with_reducible repeat (first | refine blk_drewN ?_ _ | refine blk_drew ?_ | refine blk_alloc ?_ _)); exact BK210.out) hb)
          have n2_ := Aside0.mk (blk_below (g := gb220) (o := .cells #[.int .i64 t211, .int .i64 t212, .int .u32 t213, .int .u32 t214, .int .i64 t215, .int .i64 t216, .string t217] 42 (0, 0)) (by (with_reducible repeat (first | refine blk_drewN ?_ _ | refine blk_drew ?_ | refine blk_alloc ?_ _)); exact BK220.out) hb)
          have n3_ := Aside0.mk (below_step (by repeat (first | (with_reducible first | exact HB.out | apply below_alloc | apply pw_below_drewN | apply below_drew1 | refine below_set ?_ GE195.out | refine below_set ?_ GE210.out | refine below_set ?_ GE220.out) | exact HB.out)) hb)
          clear BK195
          clear BK210
          clear BK220
          clear HB
          have BK195 := n0_
          have BK210 := n1_
          have BK220 := n2_
          have HB := n3_
          clear n0_ n1_ n2_ n3_
          (try clear hb)
          (try clear hb2)
          (try clear hk)
          (try clear hi)
          refine hK.out _ _ ⟨(blk_cell BK195.out 0).trans rfl, (blk_cell BK195.out 1).trans rfl, (blk_cell BK195.out 2).trans rfl, (blk_cell BK195.out 3).trans rfl, (blk_cell BK195.out 4).trans rfl, (blk_cell BK195.out 5).trans rfl, (blk_cell BK195.out 6).trans rfl, (blk_cell BK210.out 0).trans rfl, (blk_cell BK210.out 1).trans rfl, (blk_cell BK210.out 2).trans rfl, (blk_cell BK210.out 3).trans rfl, (blk_cell BK210.out 4).trans rfl, (blk_cell BK210.out 5).trans rfl, (blk_cell BK210.out 6).trans rfl, (blk_cell BK220.out 0).trans rfl, (blk_cell BK220.out 1).trans rfl, (blk_cell BK220.out 2).trans rfl, (blk_cell BK220.out 3).trans rfl, (blk_cell BK220.out 4).trans rfl, (blk_cell BK220.out 5).trans rfl, (blk_cell BK220.out 6).trans rfl⟩ (fun hHeld => ?_)
          clear hK K
          refine norm_ (a' := ?_) ?_ ?_
          rotate_left
          ·
           show Act.put _ (some 69) _ = _
           simp only [Act.put, List.setIfInBounds_toArray, List.set_cons_zero, List.set_cons_succ, i64_w, i32_w]
           rfl
          refine one_ (i := 3) (N := some 71) #[true, true, true, true, false, false, false, false, false, false, false, false, false, false, false, false, false, false, false, false, false, false, false, false, false, false, false, false, false, false, false, false, false, false] rfl rfl (one_of HT_.out (by kernel_rfl)) (by decide) (fun K hK => ?_)
          refine goes_ Try.func30 (by kernel_rfl) rfl #[.agg #[.int .i64 a2_0, .int .i64 a2_1, .int .u32 a2_2, .int .u32 a2_3, .int .i64 a2_4, .int .i64 a2_5, .string a2_6]] (by rfl) rfl rfl (by (try simp only [List.map_toArray, List.map_cons, List.map_nil]); first | done | rfl | (simp only [List.length_drop, List.length_take]; rfl)) ?_
          with_reducible refine (rampartref04_Check.calls a2_0 a2_1 a2_2 a2_3 a2_4 a2_5 a2_6 t222 _ A21.out).mono ?_
          rintro e w46 ⟨rfl, hb⟩
          refine ⟨_, rfl, ?_⟩
          have n0_ := Aside0.mk (blk_below (g := gb195) (o := .cells #[.int .i64 a2_0, .int .i64 a2_1, .int .u32 a2_2, .int .u32 a2_3, .int .i64 a2_4, .int .i64 a2_5, .string a2_6] 42 (0, 0)) (by (with_reducible repeat (first | refine blk_drewN ?_ _ | refine blk_drew ?_ | refine blk_alloc ?_ _)); exact BK195.out) hb)
          have n1_ := Aside0.mk (blk_below (g := gb210) (o := .cells #[.int .i64 t201, .int .i64 t202, .int .u32 t203, .int .u32 t204, .int .i64 t205, .int .i64 t206, .string t207] 42 (0, 0)) (by (with_reducible repeat (first | refine blk_drewN ?_ _ | refine blk_drew ?_ | refine blk_alloc ?_ _)); exact BK210.out) hb)
          have n2_ := Aside0.mk (blk_below (g := gb220) (o := .cells #[.int .i64 t211, .int .i64 t212, .int .u32 t213, .int .u32 t214, .int .i64 t215, .int .i64 t216, .string t217] 42 (0, 0)) (by (with_reducible repeat (first | refine blk_drewN ?_ _ | refine blk_drew ?_ | refine blk_alloc ?_ _)); exact BK220.out) hb)
          have n3_ := Aside0.mk (below_step (by repeat (first | (with_reducible first | exact HB.out | apply below_alloc | apply pw_below_drewN | apply below_drew1 | refine below_set ?_ GE195.out | refine below_set ?_ GE210.out | refine below_set ?_ GE220.out) | exact HB.out)) hb)
          clear BK195
          clear BK210
          clear BK220
          clear HB
          have BK195 := n0_
          have BK210 := n1_
          have BK220 := n2_
          have HB := n3_
          clear n0_ n1_ n2_ n3_
          (try clear hb)
          (try clear hb2)
          (try clear hk)
          (try clear hi)
          refine hK.out _ _ ⟨(blk_cell BK195.out 0).trans rfl, (blk_cell BK195.out 1).trans rfl, (blk_cell BK195.out 2).trans rfl, (blk_cell BK195.out 3).trans rfl, (blk_cell BK195.out 4).trans rfl, (blk_cell BK195.out 5).trans rfl, (blk_cell BK195.out 6).trans rfl, (blk_cell BK210.out 0).trans rfl, (blk_cell BK210.out 1).trans rfl, (blk_cell BK210.out 2).trans rfl, (blk_cell BK210.out 3).trans rfl, (blk_cell BK210.out 4).trans rfl, (blk_cell BK210.out 5).trans rfl, (blk_cell BK210.out 6).trans rfl, (blk_cell BK220.out 0).trans rfl, (blk_cell BK220.out 1).trans rfl, (blk_cell BK220.out 2).trans rfl, (blk_cell BK220.out 3).trans rfl, (blk_cell BK220.out 4).trans rfl, (blk_cell BK220.out 5).trans rfl, (blk_cell BK220.out 6).trans rfl⟩ (fun hHeld => ?_)
          clear hK K
          refine norm_ (a' := ?_) ?_ ?_
          rotate_left
          ·
           show Act.put _ (some 71) _ = _
           simp only [Act.put, List.setIfInBounds_toArray, List.set_cons_zero, List.set_cons_succ, i64_w, i32_w]
           rfl
          refine pure_ (i := 4) (N := some 72) (v := ?_) (a' := ?_) #[true, true, true, true, true, false, false, false, false, false, false, false, false, false, false, false, false, false, false, false, false, false, false, false, false, false, false, false, false, false, false, false, false, false] rfl rfl (any_of HT_.out (by kernel_rfl)) (fun _ _ _ h => h) (Or.inl ⟨by rfl, ?_⟩) ?_ ?_
          rotate_left
          ·
           intro w'
           go_simp
           with_reducible rfl
          rotate_left
          ·
           simp only [Act.put, List.setIfInBounds_toArray, List.set_cons_zero, List.set_cons_succ, i64_w, i32_w]
           rfl
          refine pure_ (i := 5) (N := some 73) (v := ?_) (a' := ?_) #[true, true, true, true, true, true, false, false, false, false, false, false, false, false, false, false, false, false, false, false, false, false, false, false, false, false, false, false, false, false, false, false, false, false] rfl rfl (any_of HT_.out (by kernel_rfl)) (fun _ _ _ h => h) (Or.inl ⟨by rfl, ?_⟩) ?_ ?_
          rotate_left
          ·
           intro w'
           go_simp
           with_reducible rfl
          rotate_left
          ·
           simp only [Act.put, List.setIfInBounds_toArray, List.set_cons_zero, List.set_cons_succ, i64_w, i32_w]
           rfl
          refine pure_ (i := 6) (N := some 74) (v := ?_) (a' := ?_) #[true, true, true, true, true, true, true, false, false, false, false, false, false, false, false, false, false, false, false, false, false, false, false, false, false, false, false, false, false, false, false, false, false, false] rfl rfl (any_of HT_.out (by kernel_rfl)) (fun _ _ _ h => h) (Or.inl ⟨by rfl, ?_⟩) ?_ ?_
          rotate_left
          ·
           intro w'
           go_simp
           with_reducible rfl
          rotate_left
          ·
           simp only [Act.put, List.setIfInBounds_toArray, List.set_cons_zero, List.set_cons_succ, i64_w, i32_w]
           rfl
          refine pure_ (i := 7) (N := some 75) (v := ?_) (a' := ?_) #[true, true, true, true, true, true, true, true, false, false, false, false, false, false, false, false, false, false, false, false, false, false, false, false, false, false, false, false, false, false, false, false, false, false] rfl rfl (any_of HT_.out (by kernel_rfl)) (fun _ _ _ h => h) (Or.inl ⟨by rfl, ?_⟩) ?_ ?_
          rotate_left
          ·
           intro w'
           go_simp
           with_reducible rfl
          rotate_left
          ·
           simp only [Act.put, List.setIfInBounds_toArray, List.set_cons_zero, List.set_cons_succ, i64_w, i32_w]
           rfl
          refine pure_ (i := 8) (N := some 76) (v := ?_) (a' := ?_) #[true, true, true, true, true, true, true, true, true, false, false, false, false, false, false, false, false, false, false, false, false, false, false, false, false, false, false, false, false, false, false, false, false, false] rfl rfl (any_of HT_.out (by kernel_rfl)) (fun _ _ _ h => h) (Or.inl ⟨by rfl, ?_⟩) ?_ ?_
          rotate_left
          ·
           intro w'
           go_simp
           with_reducible rfl
          rotate_left
          ·
           simp only [Act.put, List.setIfInBounds_toArray, List.set_cons_zero, List.set_cons_succ, i64_w, i32_w]
           rfl
          refine pure_ (i := 9) (N := some 77) (v := ?_) (a' := ?_) #[true, true, true, true, true, true, true, true, true, true, false, false, false, false, false, false, false, false, false, false, false, false, false, false, false, false, false, false, false, false, false, false, false, false] rfl rfl (any_of HT_.out (by kernel_rfl)) (fun _ _ _ h => h) (Or.inl ⟨by rfl, ?_⟩) ?_ ?_
          rotate_left
          ·
           intro w'
           go_simp
           with_reducible rfl
          rotate_left
          ·
           simp only [Act.put, List.setIfInBounds_toArray, List.set_cons_zero, List.set_cons_succ, i64_w, i32_w]
           rfl
          refine pure_ (i := 10) (N := some 78) (v := ?_) (a' := ?_) #[true, true, true, true, true, true, true, true, true, true, true, false, false, false, false, false, false, false, false, false, false, false, false, false, false, false, false, false, false, false, false, false, false, false] rfl rfl (any_of HT_.out (by kernel_rfl)) (fun _ _ _ h => h) (Or.inl ⟨by rfl, ?_⟩) ?_ ?_
          rotate_left
          ·
           intro w'
           go_simp
           with_reducible rfl
          rotate_left
          ·
           simp only [Act.put, List.setIfInBounds_toArray, List.set_cons_zero, List.set_cons_succ, i64_w, i32_w]
           rfl
          refine pure_ (i := 11) (N := some 79) (v := ?_) (a' := ?_) #[true, true, true, true, true, true, true, true, true, true, true, true, false, false, false, false, false, false, false, false, false, false, false, false, false, false, false, false, false, false, false, false, false, false] rfl rfl (any_of HT_.out (by kernel_rfl)) (fun _ _ _ h => h) (Or.inl ⟨by rfl, ?_⟩) ?_ ?_
          rotate_left
          ·
           intro w'
           go_simp
           with_reducible rfl
          rotate_left
          ·
           simp only [Act.put, List.setIfInBounds_toArray, List.set_cons_zero, List.set_cons_succ, i64_w, i32_w]
           rfl
          refine pure_ (i := 12) (N := some 80) (v := ?_) (a' := ?_) #[true, true, true, true, true, true, true, true, true, true, true, true, true, false, false, false, false, false, false, false, false, false, false, false, false, false, false, false, false, false, false, false, false, false] rfl rfl (any_of HT_.out (by kernel_rfl)) (fun _ _ _ h => h) (Or.inl ⟨by rfl, ?_⟩) ?_ ?_
          rotate_left
          ·
           intro w'
           go_simp
           with_reducible rfl
          rotate_left
          ·
           simp only [Act.put, List.setIfInBounds_toArray, List.set_cons_zero, List.set_cons_succ, i64_w, i32_w]
           rfl
          refine pure_ (i := 13) (N := some 81) (v := ?_) (a' := ?_) #[true, true, true, true, true, true, true, true, true, true, true, true, true, true, false, false, false, false, false, false, false, false, false, false, false, false, false, false, false, false, false, false, false, false] rfl rfl (any_of HT_.out (by kernel_rfl)) (fun _ _ _ h => h) (Or.inl ⟨by rfl, ?_⟩) ?_ ?_
          rotate_left
          ·
           intro w'
           go_simp
           with_reducible rfl
          rotate_left
          ·
           simp only [Act.put, List.setIfInBounds_toArray, List.set_cons_zero, List.set_cons_succ, i64_w, i32_w]
           rfl
          refine pure_ (i := 14) (N := some 82) (v := ?_) (a' := ?_) #[true, true, true, true, true, true, true, true, true, true, true, true, true, true, true, false, false, false, false, false, false, false, false, false, false, false, false, false, false, false, false, false, false, false] rfl rfl (any_of HT_.out (by kernel_rfl)) (fun _ _ _ h => h) (Or.inl ⟨by rfl, ?_⟩) ?_ ?_
          rotate_left
          ·
           intro w'
           go_simp
           with_reducible rfl
          rotate_left
          ·
           simp only [Act.put, List.setIfInBounds_toArray, List.set_cons_zero, List.set_cons_succ, i64_w, i32_w]
           rfl
          refine pure_ (i := 15) (N := some 83) (v := ?_) (a' := ?_) #[true, true, true, true, true, true, true, true, true, true, true, true, true, true, true, true, false, false, false, false, false, false, false, false, false, false, false, false, false, false, false, false, false, false] rfl rfl (any_of HT_.out (by kernel_rfl)) (fun _ _ _ h => h) (Or.inl ⟨by rfl, ?_⟩) ?_ ?_
          rotate_left
          ·
           intro w'
           go_simp
           with_reducible rfl
          rotate_left
          ·
           simp only [Act.put, List.setIfInBounds_toArray, List.set_cons_zero, List.set_cons_succ, i64_w, i32_w]
           rfl
          refine take_ (i := 16) (N := some 84) (v := ?_) (a' := ?_) #[true, true, true, true, true, true, true, true, true, true, true, true, true, true, true, true, true, false, false, false, false, false, false, false, false, false, false, false, false, false, false, false, false, false] rfl rfl (take_ofW HT_.out HW_.out (by kernel_rfl)) (fun _ _ _ h => h) (Or.inl ⟨by rfl, ?_⟩) hHeld ?_ ?_
          rotate_left
          ·
           rintro w' ⟨s0, s1, s2, s3, s4, s5, s6, s7, s8, s9, s10, s11, s12, s13, s14, s15, s16, s17, s18, s19, s20⟩
           go_simp
           with_reducible rfl
          rotate_left
          ·
           simp only [Act.put, List.setIfInBounds_toArray, List.set_cons_zero, List.set_cons_succ, i64_w, i32_w]
           rfl
          refine take_ (i := 17) (N := some 85) (v := ?_) (a' := ?_) #[true, true, true, true, true, true, true, true, true, true, true, true, true, true, true, true, true, true, false, false, false, false, false, false, false, false, false, false, false, false, false, false, false, false] rfl rfl (take_ofW HT_.out HW_.out (by kernel_rfl)) (fun _ _ _ h => h) (Or.inl ⟨by rfl, ?_⟩) hHeld ?_ ?_
          rotate_left
          ·
           rintro w' ⟨s0, s1, s2, s3, s4, s5, s6, s7, s8, s9, s10, s11, s12, s13, s14, s15, s16, s17, s18, s19, s20⟩
           go_simp
           with_reducible rfl
          rotate_left
          ·
           simp only [Act.put, List.setIfInBounds_toArray, List.set_cons_zero, List.set_cons_succ, i64_w, i32_w]
           rfl
          refine one_ (i := 18) (N := some 86) #[true, true, true, true, true, true, true, true, true, true, true, true, true, true, true, true, true, true, true, false, false, false, false, false, false, false, false, false, false, false, false, false, false, false] rfl rfl (one_of HT_.out (by kernel_rfl)) (by decide) (fun K hK => ?_)
          refine goes_ Try.func31 (by kernel_rfl) rfl #[.agg #[.int .i64 t201, .int .i64 t202, .int .u32 t203, .int .u32 t204, .int .i64 t205, .int .i64 t206, .string t207], .agg #[.int .i64 t211, .int .i64 t212, .int .u32 t213, .int .u32 t214, .int .i64 t215, .int .i64 t216, .string t217]] (by rfl) rfl rfl (by (try simp only [List.map_toArray, List.map_cons, List.map_nil]); first | done | rfl | (simp only [List.length_drop, List.length_take]; rfl)) ?_
          with_reducible refine (rampartref04_Same.calls t201 t202 t203 t204 t205 t206 t207 t211 t212 t213 t214 t215 t216 t217 true _ A25.out).mono ?_
          rintro e w47 ⟨rfl, hb⟩
          refine ⟨_, rfl, ?_⟩
          have n0_ := Aside0.mk (blk_below (g := gb195) (o := .cells #[.int .i64 a2_0, .int .i64 a2_1, .int .u32 a2_2, .int .u32 a2_3, .int .i64 a2_4, .int .i64 a2_5, .string a2_6] 42 (0, 0)) (by (with_reducible repeat (first | refine blk_drewN ?_ _ | refine blk_drew ?_ | refine blk_alloc ?_ _)); exact BK195.out) hb)
          have n1_ := Aside0.mk (blk_below (g := gb210) (o := .cells #[.int .i64 t201, .int .i64 t202, .int .u32 t203, .int .u32 t204, .int .i64 t205, .int .i64 t206, .string t207] 42 (0, 0)) (by (with_reducible repeat (first | refine blk_drewN ?_ _ | refine blk_drew ?_ | refine blk_alloc ?_ _)); exact BK210.out) hb)
          have n2_ := Aside0.mk (blk_below (g := gb220) (o := .cells #[.int .i64 t211, .int .i64 t212, .int .u32 t213, .int .u32 t214, .int .i64 t215, .int .i64 t216, .string t217] 42 (0, 0)) (by (with_reducible repeat (first | refine blk_drewN ?_ _ | refine blk_drew ?_ | refine blk_alloc ?_ _)); exact BK220.out) hb)
          have n3_ := Aside0.mk (below_step (by repeat (first | (with_reducible first | exact HB.out | apply below_alloc | apply pw_below_drewN | apply below_drew1 | refine below_set ?_ GE195.out | refine below_set ?_ GE210.out | refine below_set ?_ GE220.out) | exact HB.out)) hb)
          clear BK195
          clear BK210
          clear BK220
          clear HB
          have BK195 := n0_
          have BK210 := n1_
          have BK220 := n2_
          have HB := n3_
          clear n0_ n1_ n2_ n3_
          (try clear hb)
          (try clear hb2)
          (try clear hk)
          (try clear hi)
          refine hK.out _ _ ⟨(blk_cell BK195.out 0).trans rfl, (blk_cell BK195.out 1).trans rfl, (blk_cell BK195.out 2).trans rfl, (blk_cell BK195.out 3).trans rfl, (blk_cell BK195.out 4).trans rfl, (blk_cell BK195.out 5).trans rfl, (blk_cell BK195.out 6).trans rfl, (blk_cell BK210.out 0).trans rfl, (blk_cell BK210.out 1).trans rfl, (blk_cell BK210.out 2).trans rfl, (blk_cell BK210.out 3).trans rfl, (blk_cell BK210.out 4).trans rfl, (blk_cell BK210.out 5).trans rfl, (blk_cell BK210.out 6).trans rfl, (blk_cell BK220.out 0).trans rfl, (blk_cell BK220.out 1).trans rfl, (blk_cell BK220.out 2).trans rfl, (blk_cell BK220.out 3).trans rfl, (blk_cell BK220.out 4).trans rfl, (blk_cell BK220.out 5).trans rfl, (blk_cell BK220.out 6).trans rfl⟩ (fun hHeld => ?_)
          clear hK K
          refine norm_ (a' := ?_) ?_ ?_
          rotate_left
          ·
           show Act.put _ (some 86) _ = _
           simp only [Act.put, List.setIfInBounds_toArray, List.set_cons_zero, List.set_cons_succ, i64_w, i32_w]
           rfl
          refine pure_ (i := 19) (N := some 87) (v := ?_) (a' := ?_) #[true, true, true, true, true, true, true, true, true, true, true, true, true, true, true, true, true, true, true, true, false, false, false, false, false, false, false, false, false, false, false, false, false, false] rfl rfl (any_of HT_.out (by kernel_rfl)) (fun _ _ _ h => h) (Or.inl ⟨by rfl, ?_⟩) ?_ ?_
          rotate_left
          ·
           intro w'
           go_simp
           with_reducible rfl
          rotate_left
          ·
           simp only [Act.put, List.setIfInBounds_toArray, List.set_cons_zero, List.set_cons_succ, i64_w, i32_w]
           rfl
          refine pure_ (i := 20) (N := some 88) (v := ?_) (a' := ?_) #[true, true, true, true, true, true, true, true, true, true, true, true, true, true, true, true, true, true, true, true, true, false, false, false, false, false, false, false, false, false, false, false, false, false] rfl rfl (any_of HT_.out (by kernel_rfl)) (fun _ _ _ h => h) (Or.inl ⟨by rfl, ?_⟩) ?_ ?_
          rotate_left
          ·
           intro w'
           go_simp
           with_reducible rfl
          rotate_left
          ·
           simp only [Act.put, List.setIfInBounds_toArray, List.set_cons_zero, List.set_cons_succ, i64_w, i32_w]
           rfl
          refine pure_ (i := 21) (N := some 89) (v := ?_) (a' := ?_) #[true, true, true, true, true, true, true, true, true, true, true, true, true, true, true, true, true, true, true, true, true, true, false, false, false, false, false, false, false, false, false, false, false, false] rfl rfl (any_of HT_.out (by kernel_rfl)) (fun _ _ _ h => h) (Or.inl ⟨by rfl, ?_⟩) ?_ ?_
          rotate_left
          ·
           intro w'
           go_simp
           with_reducible rfl
          rotate_left
          ·
           simp only [Act.put, List.setIfInBounds_toArray, List.set_cons_zero, List.set_cons_succ, i64_w, i32_w]
           rfl
          refine pure_ (i := 22) (N := some 90) (v := ?_) (a' := ?_) #[true, true, true, true, true, true, true, true, true, true, true, true, true, true, true, true, true, true, true, true, true, true, true, false, false, false, false, false, false, false, false, false, false, false] rfl rfl (any_of HT_.out (by kernel_rfl)) (fun _ _ _ h => h) (Or.inl ⟨by rfl, ?_⟩) ?_ ?_
          rotate_left
          ·
           intro w'
           go_simp
           with_reducible rfl
          rotate_left
          ·
           simp only [Act.put, List.setIfInBounds_toArray, List.set_cons_zero, List.set_cons_succ, i64_w, i32_w]
           rfl
          refine pure_ (i := 23) (N := some 91) (v := ?_) (a' := ?_) #[true, true, true, true, true, true, true, true, true, true, true, true, true, true, true, true, true, true, true, true, true, true, true, true, false, false, false, false, false, false, false, false, false, false] rfl rfl (any_of HT_.out (by kernel_rfl)) (fun _ _ _ h => h) (Or.inl ⟨by rfl, ?_⟩) ?_ ?_
          rotate_left
          ·
           intro w'
           go_simp
           with_reducible rfl
          rotate_left
          ·
           simp only [Act.put, List.setIfInBounds_toArray, List.set_cons_zero, List.set_cons_succ, i64_w, i32_w]
           rfl
          refine pure_ (i := 24) (N := some 92) (v := ?_) (a' := ?_) #[true, true, true, true, true, true, true, true, true, true, true, true, true, true, true, true, true, true, true, true, true, true, true, true, true, false, false, false, false, false, false, false, false, false] rfl rfl (any_of HT_.out (by kernel_rfl)) (fun _ _ _ h => h) (Or.inl ⟨by rfl, ?_⟩) ?_ ?_
          rotate_left
          ·
           intro w'
           go_simp
           with_reducible rfl
          rotate_left
          ·
           simp only [Act.put, List.setIfInBounds_toArray, List.set_cons_zero, List.set_cons_succ, i64_w, i32_w]
           rfl
          refine pure_ (i := 25) (N := some 93) (v := ?_) (a' := ?_) #[true, true, true, true, true, true, true, true, true, true, true, true, true, true, true, true, true, true, true, true, true, true, true, true, true, true, false, false, false, false, false, false, false, false] rfl rfl (any_of HT_.out (by kernel_rfl)) (fun _ _ _ h => h) (Or.inl ⟨by rfl, ?_⟩) ?_ ?_
          rotate_left
          ·
           intro w'
           go_simp
           with_reducible rfl
          rotate_left
          ·
           simp only [Act.put, List.setIfInBounds_toArray, List.set_cons_zero, List.set_cons_succ, i64_w, i32_w]
           rfl
          refine pure_ (i := 26) (N := some 94) (v := ?_) (a' := ?_) #[true, true, true, true, true, true, true, true, true, true, true, true, true, true, true, true, true, true, true, true, true, true, true, true, true, true, true, false, false, false, false, false, false, false] rfl rfl (any_of HT_.out (by kernel_rfl)) (fun _ _ _ h => h) (Or.inl ⟨by rfl, ?_⟩) ?_ ?_
          rotate_left
          ·
           intro w'
           go_simp
           with_reducible rfl
          rotate_left
          ·
           simp only [Act.put, List.setIfInBounds_toArray, List.set_cons_zero, List.set_cons_succ, i64_w, i32_w]
           rfl
          refine pure_ (i := 27) (N := some 95) (v := ?_) (a' := ?_) #[true, true, true, true, true, true, true, true, true, true, true, true, true, true, true, true, true, true, true, true, true, true, true, true, true, true, true, true, false, false, false, false, false, false] rfl rfl (any_of HT_.out (by kernel_rfl)) (fun _ _ _ h => h) (Or.inl ⟨by rfl, ?_⟩) ?_ ?_
          rotate_left
          ·
           intro w'
           go_simp
           with_reducible rfl
          rotate_left
          ·
           simp only [Act.put, List.setIfInBounds_toArray, List.set_cons_zero, List.set_cons_succ, i64_w, i32_w]
           rfl
          refine pure_ (i := 28) (N := some 96) (v := ?_) (a' := ?_) #[true, true, true, true, true, true, true, true, true, true, true, true, true, true, true, true, true, true, true, true, true, true, true, true, true, true, true, true, true, false, false, false, false, false] rfl rfl (any_of HT_.out (by kernel_rfl)) (fun _ _ _ h => h) (Or.inl ⟨by rfl, ?_⟩) ?_ ?_
          rotate_left
          ·
           intro w'
           go_simp
           with_reducible rfl
          rotate_left
          ·
           simp only [Act.put, List.setIfInBounds_toArray, List.set_cons_zero, List.set_cons_succ, i64_w, i32_w]
           rfl
          refine pure_ (i := 29) (N := some 97) (v := ?_) (a' := ?_) #[true, true, true, true, true, true, true, true, true, true, true, true, true, true, true, true, true, true, true, true, true, true, true, true, true, true, true, true, true, true, false, false, false, false] rfl rfl (any_of HT_.out (by kernel_rfl)) (fun _ _ _ h => h) (Or.inl ⟨by rfl, ?_⟩) ?_ ?_
          rotate_left
          ·
           intro w'
           go_simp
           with_reducible rfl
          rotate_left
          ·
           simp only [Act.put, List.setIfInBounds_toArray, List.set_cons_zero, List.set_cons_succ, i64_w, i32_w]
           rfl
          refine pure_ (i := 30) (N := some 98) (v := ?_) (a' := ?_) #[true, true, true, true, true, true, true, true, true, true, true, true, true, true, true, true, true, true, true, true, true, true, true, true, true, true, true, true, true, true, true, false, false, false] rfl rfl (any_of HT_.out (by kernel_rfl)) (fun _ _ _ h => h) (Or.inl ⟨by rfl, ?_⟩) ?_ ?_
          rotate_left
          ·
           intro w'
           go_simp
           with_reducible rfl
          rotate_left
          ·
           simp only [Act.put, List.setIfInBounds_toArray, List.set_cons_zero, List.set_cons_succ, i64_w, i32_w]
           rfl
          refine one_ (i := 31) (N := some 99) #[true, true, true, true, true, true, true, true, true, true, true, true, true, true, true, true, true, true, true, true, true, true, true, true, true, true, true, true, true, true, true, true, false, false] rfl rfl (one_of HT_.out (by kernel_rfl)) (by decide) (fun K hK => ?_)
          refine goes_ Try.func24 (by kernel_rfl) rfl #[] (by rfl) rfl rfl (by (try simp only [List.map_toArray, List.map_cons, List.map_nil]); first | done | rfl | (simp only [List.length_drop, List.length_take]; rfl)) ?_
          with_reducible refine (rampartlaw04_awake.calls kj5  t224 _ A29.out).mono ?_
          rintro e w48 ⟨rfl, hb⟩
          refine ⟨_, rfl, ?_⟩
          have n0_ := Aside0.mk (blk_below (g := gb195) (o := .cells #[.int .i64 a2_0, .int .i64 a2_1, .int .u32 a2_2, .int .u32 a2_3, .int .i64 a2_4, .int .i64 a2_5, .string a2_6] 42 (0, 0)) (by (with_reducible repeat (first | refine blk_drewN ?_ _ | refine blk_drew ?_ | refine blk_alloc ?_ _)); exact BK195.out) hb)
          have n1_ := Aside0.mk (blk_below (g := gb210) (o := .cells #[.int .i64 t201, .int .i64 t202, .int .u32 t203, .int .u32 t204, .int .i64 t205, .int .i64 t206, .string t207] 42 (0, 0)) (by (with_reducible repeat (first | refine blk_drewN ?_ _ | refine blk_drew ?_ | refine blk_alloc ?_ _)); exact BK210.out) hb)
          have n2_ := Aside0.mk (blk_below (g := gb220) (o := .cells #[.int .i64 t211, .int .i64 t212, .int .u32 t213, .int .u32 t214, .int .i64 t215, .int .i64 t216, .string t217] 42 (0, 0)) (by (with_reducible repeat (first | refine blk_drewN ?_ _ | refine blk_drew ?_ | refine blk_alloc ?_ _)); exact BK220.out) hb)
          have n3_ := Aside0.mk (below_step (by repeat (first | (with_reducible first | exact HB.out | apply below_alloc | apply pw_below_drewN | apply below_drew1 | refine below_set ?_ GE195.out | refine below_set ?_ GE210.out | refine below_set ?_ GE220.out) | exact HB.out)) hb)
          clear BK195
          clear BK210
          clear BK220
          clear HB
          have BK195 := n0_
          have BK210 := n1_
          have BK220 := n2_
          have HB := n3_
          clear n0_ n1_ n2_ n3_
          (try clear hb)
          (try clear hb2)
          (try clear hk)
          (try clear hi)
          refine hK.out _ _ ⟨(blk_cell BK195.out 0).trans rfl, (blk_cell BK195.out 1).trans rfl, (blk_cell BK195.out 2).trans rfl, (blk_cell BK195.out 3).trans rfl, (blk_cell BK195.out 4).trans rfl, (blk_cell BK195.out 5).trans rfl, (blk_cell BK195.out 6).trans rfl, (blk_cell BK210.out 0).trans rfl, (blk_cell BK210.out 1).trans rfl, (blk_cell BK210.out 2).trans rfl, (blk_cell BK210.out 3).trans rfl, (blk_cell BK210.out 4).trans rfl, (blk_cell BK210.out 5).trans rfl, (blk_cell BK210.out 6).trans rfl, (blk_cell BK220.out 0).trans rfl, (blk_cell BK220.out 1).trans rfl, (blk_cell BK220.out 2).trans rfl, (blk_cell BK220.out 3).trans rfl, (blk_cell BK220.out 4).trans rfl, (blk_cell BK220.out 5).trans rfl, (blk_cell BK220.out 6).trans rfl⟩ (fun hHeld => ?_)
          clear hK K
          refine norm_ (a' := ?_) ?_ ?_
          rotate_left
          ·
           show Act.put _ (some 99) _ = _
           simp only [Act.put, List.setIfInBounds_toArray, List.set_cons_zero, List.set_cons_succ, i64_w, i32_w]
           rfl
          refine pure_ (i := 32) (N := some 100) (v := ?_) (a' := ?_) #[true, true, true, true, true, true, true, true, true, true, true, true, true, true, true, true, true, true, true, true, true, true, true, true, true, true, true, true, true, true, true, true, true, false] rfl rfl (any_of HT_.out (by kernel_rfl)) (fun _ _ _ h => h) (Or.inl ⟨by rfl, ?_⟩) ?_ ?_
          rotate_left
          ·
           intro w'
           go_simp
           with_reducible rfl
          rotate_left
          ·
           simp only [Act.put, List.setIfInBounds_toArray, List.set_cons_zero, List.set_cons_succ, i64_w, i32_w]
           rfl
          refine pure_ (i := 33) (N := some 10) (v := ?_) (a' := ?_) #[true, true, true, true, true, true, true, true, true, true, true, true, true, true, true, true, true, true, true, true, true, true, true, true, true, true, true, true, true, true, true, true, true, true] rfl rfl (any_of HT_.out (by kernel_rfl)) (fun _ _ _ h => h) (Or.inl ⟨by rfl, ?_⟩) ?_ ?_
          rotate_left
          ·
           intro w'
           go_simp
           with_reducible rfl
          rotate_left
          ·
           simp only [Act.put, List.setIfInBounds_toArray, List.set_cons_zero, List.set_cons_succ, i64_w, i32_w]
           rfl
          refine done_ (done_of HT_.out (by kernel_rfl)) ?_
          try go_wp2
          go_ret
          exact ⟨by first | rfl | (simp [errW_none, errW_some] <;> rfl) | (simp [*, errW_none, errW_some] <;> rfl), by repeat (first | (with_reducible first | exact HB.out | apply below_alloc | apply pw_below_drewN | apply below_drew1 | refine below_set ?_ GE195.out | refine below_set ?_ GE210.out | refine below_set ?_ GE220.out) | exact HB.out)⟩
         ·
          rw [if_neg c28] at H
          have c28b0 : (t209 == t219) = false := beq_eq_false_iff_ne.mpr c28
          have c28b1 : (t209 != t219) = true := bne_iff_ne.mpr c28
          exact absurd ((Option.some.inj H).trans HR.out) (by decide)
        ·
         rw [if_neg c27] at H
         have c27b0 : (t208.toList == t218.toList) = false := beq_eq_false_iff_ne.mpr c27
         have c27b1 : (t208.toList != t218.toList) = true := bne_iff_ne.mpr c27
         exact absurd ((Option.some.inj H).trans HR.out) (by decide)
       ·
        replace c26 := Bool.eq_false_iff.mpr c26
        subst c26
        have H1 : (some false) = some r := by rw [if_neg (show ¬ (false = true) by decide)] at H; exact H
        clear H
        have H := H1
        clear H1
        exact absurd ((Option.some.inj H).trans HR.out) (by decide)
      ·
       rw [if_neg c24] at H
       have c24b0 : (t198 == t200) = false := beq_eq_false_iff_ne.mpr c24
       have c24b1 : (t198 != t200) = true := bne_iff_ne.mpr c24
       exact absurd ((Option.some.inj H).trans HR.out) (by decide)
     ·
      rw [if_neg c23] at H
      have c23b0 : (t197.toList == t199.toList) = false := beq_eq_false_iff_ne.mpr c23
      have c23b1 : (t197.toList != t199.toList) = true := bne_iff_ne.mpr c23
      exact absurd ((Option.some.inj H).trans HR.out) (by decide)
    ·
     rw [if_neg c22] at H
     have c22b0 : (t221 == t222) = false := by simpa using c22
     (try (have c22b1 : decide (t221 = t222) = false := by simpa using c22))
     (try (have c22b2 : (t221 == t222) = false := by simpa using c22))
     (try (have c22b3 : ¬ (t221 = t222) := by simpa using c22))
     clear c22
     exact absurd ((Option.some.inj H).trans HR.out) (by decide)

end Go.Proofs.Ytgolimfljndnmaa.HT
