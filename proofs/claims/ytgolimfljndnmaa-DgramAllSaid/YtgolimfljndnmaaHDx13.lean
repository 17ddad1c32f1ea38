/- What is proved: each Go function of this text answers as the plain Lean function beside it (a law: its given row, out of the plain statement). Conditions: those that stand in each theorem. Written by my drive.py, which calls the printer of the kit for what that covers. -/
import Derived.Test.YtgolimfljndnmaaHDx0
import Derived.Test.YtgolimfljndnmaaHDx9
import Derived.Test.YtgolimfljndnmaaHDx10
namespace Go.Proofs.Ytgolimfljndnmaa.HD
open Go.RowKit Go.Proofs.YtgolimfljndnmaaW.PrintWords Go.Proofs.YtgolimfljndnmaaW.PrintLast Go.Proofs.YtgolimfljndnmaaW.PrintMore
attribute [local go_sem] max2_int min2_int max_two min_two max_three min_three max_four min_four   -- for this text's walks alone
set_option linter.unusedVariables false
set_option linter.unusedSimpArgs false

/-! ### rampartref05_PutICMP: function 37 -/
def rampartref05_PutICMP.j0 : Nat → ByteArray → Bool → Int → Int → Int → Int → Int → Option (ByteArray × Int)
 | 0, _, _, _, _, _, _, _ => none
 | k + 1, x1, x8, x193000, x193001, x193002, x193003, x193004 => if x8 = true then (some ((⟨#[]⟩ : ByteArray), 1)) else (if (x1.size : Int) > 1992 then (some ((⟨#[]⟩ : ByteArray), 5)) else ((rampartref01_Big.f k x193002 1).bind fun t193 => ((rampartref01_Big.f k x193003 1).bind fun t194 => (if t193.size + t194.size ≤ 9223372036854775807 then ((rampartref01_Big.f k (wrap64 (x193004)) 4).bind fun t195 => (if t195.size + x1.size ≤ 9223372036854775807 then (if (t193 ++ t194).size + 2 ≤ 9223372036854775807 then (if ((t193 ++ t194) ++ (⟨#[0, 0]⟩ : ByteArray)).size + (t195 ++ x1).size ≤ 9223372036854775807 then ((rampartref01_Of.f k (((t193 ++ t194) ++ (⟨#[0, 0]⟩ : ByteArray)) ++ (t195 ++ x1))).bind fun t196 => ((rampartref01_Big.f k t196 2).bind fun t197 => (if (t193 ++ t194).size + t197.size ≤ 9223372036854775807 then (if ((t193 ++ t194) ++ t197).size + (t195 ++ x1).size ≤ 9223372036854775807 then (some (((t193 ++ t194) ++ t197) ++ (t195 ++ x1), 0)) else (none)) else (none)))) else (none)) else (none)) else (none))) else (none)))))
def rampartref05_PutICMP.f (k : Nat) (a0_0 : Int) (a0_1 : Int) (a0_2 : Int) (a0_3 : Int) (a0_4 : Int) (a1 : ByteArray) : Option (ByteArray × Int) := if a0_2 < 0 then (rampartref05_PutICMP.j0 k a1 true a0_0 a0_1 a0_2 a0_3 a0_4) else (if a0_2 > 255 then (rampartref05_PutICMP.j0 k a1 true a0_0 a0_1 a0_2 a0_3 a0_4) else (if a0_3 < 0 then (rampartref05_PutICMP.j0 k a1 true a0_0 a0_1 a0_2 a0_3 a0_4) else (rampartref05_PutICMP.j0 k a1 (decide (a0_3 > 255)) a0_0 a0_1 a0_2 a0_3 a0_4)))
theorem rampartref05_PutICMP.mono_l : ∀ k, (∀ y0 y1 y2 y3 y4 y5 y6, LeO (rampartref05_PutICMP.j0 k y0 y1 y2 y3 y4 y5 y6) (rampartref05_PutICMP.j0 (k + 1) y0 y1 y2 y3 y4 y5 y6))
 | 0 => fun _ _ _ _ _ _ _ r h => by simp [rampartref05_PutICMP.j0] at h
 | k + 1 => by
  have ih0 := rampartref05_PutICMP.mono_l k
  ·
   intro y0 y1 y2 y3 y4 y5 y6
   unfold rampartref05_PutICMP.j0
   repeat' first
   | (with_reducible exact ih0 _ _ _ _ _ _ _)
   | (with_reducible exact rampartref01_Big.mono _ _ _)
   | (with_reducible exact rampartref01_Of.mono _ _)
   | (with_reducible exact LeO.refl _)
   | (with_reducible exact LeO.none _)
   | (with_reducible refine LeO.ite ?_ ?_)
   | (with_reducible refine LeO.bind ?_ (fun _ => ?_))
   | exact ih0 _ _ _ _ _ _ _
   | exact rampartref01_Big.mono _ _ _
   | exact rampartref01_Of.mono _ _
   | exact LeO.none _
   | refine LeO.ite ?_ ?_
   | refine LeO.bind ?_ (fun _ => ?_)
theorem rampartref05_PutICMP.mono : ∀ a0 a1 a2 a3 a4 a5 k, LeO (rampartref05_PutICMP.f k a0 a1 a2 a3 a4 a5) (rampartref05_PutICMP.f (k + 1) a0 a1 a2 a3 a4 a5) := by
 intro a0 a1 a2 a3 a4 a5 k
 have ih0 := rampartref05_PutICMP.mono_l k
 unfold rampartref05_PutICMP.f
 repeat' first
   | (with_reducible exact ih0 _ _ _ _ _ _ _)
   | (with_reducible exact rampartref01_Big.mono _ _ _)
   | (with_reducible exact rampartref01_Of.mono _ _)
   | (with_reducible exact LeO.refl _)
   | (with_reducible exact LeO.none _)
   | (with_reducible refine LeO.ite ?_ ?_)
   | (with_reducible refine LeO.bind ?_ (fun _ => ?_))
   | exact ih0 _ _ _ _ _ _ _
   | exact rampartref01_Big.mono _ _ _
   | exact rampartref01_Of.mono _ _
   | exact LeO.none _
   | refine LeO.ite ?_ ?_
   | refine LeO.bind ?_ (fun _ => ?_)
def rampartref05_PutICMP.T5 : Bool × List (List Nat × List Nat) := (true, [([], []), ([0], [0]), ([1], [1]), ([], []), ([3], [3]), ([4, 2], [4]), ([2, 5], [2, 5]), ([6, 5, 0, 1, 2, 3, 4, 5, 6], [6])])
def rampartref05_PutICMP.B5 : List Nat := [0, 1, 3, 0, 8, 31, 63, 127]
theorem rampartref05_PutICMP.tab5 : rtab .any (opsOf Try.f37 5) = rampartref05_PutICMP.T5 := by kernel_rfl
theorem rampartref05_PutICMP.bits5 : waitsOk rampartref05_PutICMP.T5.2 rampartref05_PutICMP.B5 = true := by kernel_rfl
set_option maxHeartbeats 8000000 in
set_option maxRecDepth 100000 in
theorem rampartref05_PutICMP.calls (k : Nat) (a0_0 : Int) (a0_1 : Int) (a0_2 : Int) (a0_3 : Int) (a0_4 : Int) (a1 : ByteArray) (r1 : ByteArray) (r2 : Int) (w : World) (h : rampartref05_PutICMP.f k a0_0 a0_1 a0_2 a0_3 a0_4 a1 = some (r1, r2)) :
  Calls Try.prog 37 #[.agg #[.int .i64 a0_0, .int .i64 a0_1, .int .i64 a0_2, .int .i64 a0_3, .int .u32 a0_4], .string a1] w fun e w' => e = .returned (.tuple #[.string r1, .int .i64 r2]) ∧ Below w.heap.size w w' := by
 have hu53 := Try.underlying53
 have HB := Aside0.mk (Below.refl w.heap.size w)
 have H : (if a0_2 < 0 then (rampartref05_PutICMP.j0 k a1 true a0_0 a0_1 a0_2 a0_3 a0_4) else (if a0_2 > 255 then (rampartref05_PutICMP.j0 k a1 true a0_0 a0_1 a0_2 a0_3 a0_4) else (if a0_3 < 0 then (rampartref05_PutICMP.j0 k a1 true a0_0 a0_1 a0_2 a0_3 a0_4) else (rampartref05_PutICMP.j0 k a1 (decide (a0_3 > 255)) a0_0 a0_1 a0_2 a0_3 a0_4)))) = some (r1, r2) := h
 clear h
 have HC3 := Aside0.mk H
 clear H
 go_enter Try.func37, Try.ntmps37
 go_upto_region 1 with (first | ((with_reducible refine gate_dst (N := 2) rfl ?_); refine box_event ?hg (N := 2) ?hd (cs := #[.int .i64 a0_0, .int .i64 a0_1, .int .i64 a0_2, .int .i64 a0_3, .int .u32 a0_4]) (t := 53) ?hr ?_; (case hd => rfl); (case hg => rfl); (case hr => first | (go_simp; done) | (go_simp; rfl)); intro gb192 hg w4 hbox hb; have n0_ := Aside0.mk (below_step (by repeat (first | (with_reducible first | exact HB.out | apply below_alloc | apply pw_below_drewN | apply below_drew1) | exact HB.out)) hb); have n1_ := Aside0.mk (hbox); have n2_ := Aside0.mk ((by rw [hg]; exact (below_size (by repeat (first | (with_reducible first | exact HB.out | apply below_alloc | apply pw_below_drewN | apply below_drew1) | exact HB.out))) : w.heap.size ≤ gb192)); have n3_ := Aside0.mk ((by rw [hg]; exact (below_size (by repeat (first | (with_reducible first | exact HB.out | apply below_alloc | apply pw_below_drewN | apply below_drew1) | exact HB.out))) : w.heap.size ≤ gb192)); clear HB; have HB := n0_; have BK192 := n1_; have GW192 := n2_; have GE192 := n3_; clear n0_ n1_ n2_ n3_; clear hb hbox hg))
 (try simp only [Act.put, List.setIfInBounds_toArray, List.set_cons_zero, List.set_cons_succ])
 go_cut [8] (fun v8 wc => ∃ (kq : Nat) (x8_2 : Bool), v8 = .bool x8_2 ∧ Aside0 (rampartref05_PutICMP.j0 kq a1 x8_2 a0_0 a0_1 a0_2 a0_3 a0_4 = some (r1, r2)) ∧ Aside0 (kq ≤ k) ∧ Aside0 (wc.heap[gb192]? = some (.cells #[.int .i64 a0_0, .int .i64 a0_1, .int .i64 a0_2, .int .i64 a0_3, .int .u32 a0_4] 53 (0, 0))) ∧ Aside0 (Below w.heap.size w wc))
 case first =>
  have H := HC3.out
  clear HC3
  by_cases c5 : a0_2 < 0
  ·
   rw [if_pos c5] at H
   have c5b0 : decide (a0_2 < 0) = true := decide_eq_true c5
   clear c5
   (first | rw [c5b0] | (simp only [i64_w, i32_w]; rw [c5b0]) | skip)
   have H' := Aside0.mk H
   clear H
   have hcz6_0 : w4.cell? ⟨gb192, 0, none⟩ = some (.int .i64 a0_0) := (blk_cell BK192.out 0).trans rfl
   have hcz6_1 : w4.cell? ⟨gb192, 1, none⟩ = some (.int .i64 a0_1) := (blk_cell BK192.out 1).trans rfl
   have hcz6_2 : w4.cell? ⟨gb192, 2, none⟩ = some (.int .i64 a0_2) := (blk_cell BK192.out 2).trans rfl
   have hcz6_3 : w4.cell? ⟨gb192, 3, none⟩ = some (.int .i64 a0_3) := (blk_cell BK192.out 3).trans rfl
   have hcz6_4 : w4.cell? ⟨gb192, 4, none⟩ = some (.int .u32 a0_4) := (blk_cell BK192.out 4).trans rfl
   have hfz6_0 := blk_frozen BK192.out 0
   have hfz6_1 := blk_frozen BK192.out 1
   have hfz6_2 := blk_frozen BK192.out 2
   have hfz6_3 := blk_frozen BK192.out 3
   have hfz6_4 := blk_frozen BK192.out 4
   go_wp2
   go_meet
   case rel => exact ⟨_, (true), (by first | rfl | (simp; done) | (simp [*]; done)), H', ⟨by first | omega | exact Nat.le_refl _⟩, ⟨by (with_reducible repeat (first | refine blk_drewN ?_ _ | refine blk_drew ?_ | refine blk_alloc ?_ _)); exact BK192.out⟩, ⟨by repeat (first | (with_reducible first | exact HB.out | apply below_alloc | apply pw_below_drewN | apply below_drew1 | refine below_set ?_ GE192.out) | exact HB.out)⟩⟩
  ·
   rw [if_neg c5] at H
   have c5b0 : decide (a0_2 < 0) = false := decide_eq_false c5
   clear c5
   (first | rw [c5b0] | (simp only [i64_w, i32_w]; rw [c5b0]) | skip)
   by_cases c7 : a0_2 > 255
   ·
    rw [if_pos c7] at H
    have c7b0 : decide (255 < a0_2) = true := decide_eq_true c7
    clear c7
    have H' := Aside0.mk H
    clear H
    have hcz8_0 : w4.cell? ⟨gb192, 0, none⟩ = some (.int .i64 a0_0) := (blk_cell BK192.out 0).trans rfl
    have hcz8_1 : w4.cell? ⟨gb192, 1, none⟩ = some (.int .i64 a0_1) := (blk_cell BK192.out 1).trans rfl
    have hcz8_2 : w4.cell? ⟨gb192, 2, none⟩ = some (.int .i64 a0_2) := (blk_cell BK192.out 2).trans rfl
    have hcz8_3 : w4.cell? ⟨gb192, 3, none⟩ = some (.int .i64 a0_3) := (blk_cell BK192.out 3).trans rfl
    have hcz8_4 : w4.cell? ⟨gb192, 4, none⟩ = some (.int .u32 a0_4) := (blk_cell BK192.out 4).trans rfl
    have hfz8_0 := blk_frozen BK192.out 0
    have hfz8_1 := blk_frozen BK192.out 1
    have hfz8_2 := blk_frozen BK192.out 2
    have hfz8_3 := blk_frozen BK192.out 3
    have hfz8_4 := blk_frozen BK192.out 4
    go_wp2
    go_meet
    case rel => exact ⟨_, (true), (by first | rfl | (simp; done) | (simp [*]; done)), H', ⟨by first | omega | exact Nat.le_refl _⟩, ⟨by (with_reducible repeat (first | refine blk_drewN ?_ _ | refine blk_drew ?_ | refine blk_alloc ?_ _)); exact BK192.out⟩, ⟨by repeat (first | (with_reducible first | exact HB.out | apply below_alloc | apply pw_below_drewN | apply below_drew1 | refine below_set ?_ GE192.out) | exact HB.out)⟩⟩
   ·
    rw [if_neg c7] at H
    have c7b0 : decide (255 < a0_2) = false := decide_eq_false c7
    clear c7
    by_cases c9 : a0_3 < 0
    ·
     rw [if_pos c9] at H
     have c9b0 : decide (a0_3 < 0) = true := decide_eq_true c9
     clear c9
     have H' := Aside0.mk H
     clear H
     have hcz10_0 : w4.cell? ⟨gb192, 0, none⟩ = some (.int .i64 a0_0) := (blk_cell BK192.out 0).trans rfl
     have hcz10_1 : w4.cell? ⟨gb192, 1, none⟩ = some (.int .i64 a0_1) := (blk_cell BK192.out 1).trans rfl
     have hcz10_2 : w4.cell? ⟨gb192, 2, none⟩ = some (.int .i64 a0_2) := (blk_cell BK192.out 2).trans rfl
     have hcz10_3 : w4.cell? ⟨gb192, 3, none⟩ = some (.int .i64 a0_3) := (blk_cell BK192.out 3).trans rfl
     have hcz10_4 : w4.cell? ⟨gb192, 4, none⟩ = some (.int .u32 a0_4) := (blk_cell BK192.out 4).trans rfl
     have hfz10_0 := blk_frozen BK192.out 0
     have hfz10_1 := blk_frozen BK192.out 1
     have hfz10_2 := blk_frozen BK192.out 2
     have hfz10_3 := blk_frozen BK192.out 3
     have hfz10_4 := blk_frozen BK192.out 4
     go_wp2
     go_meet
     case rel => exact ⟨_, (true), (by first | rfl | (simp; done) | (simp [*]; done)), H', ⟨by first | omega | exact Nat.le_refl _⟩, ⟨by (with_reducible repeat (first | refine blk_drewN ?_ _ | refine blk_drew ?_ | refine blk_alloc ?_ _)); exact BK192.out⟩, ⟨by repeat (first | (with_reducible first | exact HB.out | apply below_alloc | apply pw_below_drewN | apply below_drew1 | refine below_set ?_ GE192.out) | exact HB.out)⟩⟩
    ·
     rw [if_neg c9] at H
     have c9b0 : decide (a0_3 < 0) = false := decide_eq_false c9
     clear c9
     have H' := Aside0.mk H
     clear H
     have hcz11_0 : w4.cell? ⟨gb192, 0, none⟩ = some (.int .i64 a0_0) := (blk_cell BK192.out 0).trans rfl
     have hcz11_1 : w4.cell? ⟨gb192, 1, none⟩ = some (.int .i64 a0_1) := (blk_cell BK192.out 1).trans rfl
     have hcz11_2 : w4.cell? ⟨gb192, 2, none⟩ = some (.int .i64 a0_2) := (blk_cell BK192.out 2).trans rfl
     have hcz11_3 : w4.cell? ⟨gb192, 3, none⟩ = some (.int .i64 a0_3) := (blk_cell BK192.out 3).trans rfl
     have hcz11_4 : w4.cell? ⟨gb192, 4, none⟩ = some (.int .u32 a0_4) := (blk_cell BK192.out 4).trans rfl
     have hfz11_0 := blk_frozen BK192.out 0
     have hfz11_1 := blk_frozen BK192.out 1
     have hfz11_2 := blk_frozen BK192.out 2
     have hfz11_3 := blk_frozen BK192.out 3
     have hfz11_4 := blk_frozen BK192.out 4
     go_wp2
     go_meet
     case rel => exact ⟨_, (decide (a0_3 > 255)), (by first | rfl | (simp; done) | (simp [*]; done)), H', ⟨by first | omega | exact Nat.le_refl _⟩, ⟨by (with_reducible repeat (first | refine blk_drewN ?_ _ | refine blk_drew ?_ | refine blk_alloc ?_ _)); exact BK192.out⟩, ⟨by repeat (first | (with_reducible first | exact HB.out | apply below_alloc | apply pw_below_drewN | apply below_drew1 | refine below_set ?_ GE192.out) | exact HB.out)⟩⟩
 case rest =>
  clear HC3
  try clear p2
  try clear c3
  try clear c5
  try clear c5b0
  try clear c7
  try clear c7b0
  try clear c9
  try clear c9b0
  try clear hcz10_0
  try clear hcz10_1
  try clear hcz10_2
  try clear hcz10_3
  try clear hcz10_4
  try clear hcz11_0
  try clear hcz11_1
  try clear hcz11_2
  try clear hcz11_3
  try clear hcz11_4
  try clear hcz6_0
  try clear hcz6_1
  try clear hcz6_2
  try clear hcz6_3
  try clear hcz6_4
  try clear hcz8_0
  try clear hcz8_1
  try clear hcz8_2
  try clear hcz8_3
  try clear hcz8_4
  try clear hfz10_0
  try clear hfz10_1
  try clear hfz10_2
  try clear hfz10_3
  try clear hfz10_4
  try clear hfz11_0
  try clear hfz11_1
  try clear hfz11_2
  try clear hfz11_3
  try clear hfz11_4
  try clear hfz6_0
  try clear hfz6_1
  try clear hfz6_2
  try clear hfz6_3
  try clear hfz6_4
  try clear hfz8_0
  try clear hfz8_1
  try clear hfz8_2
  try clear hfz8_3
  try clear hfz8_4
  obtain ⟨kq, x8_2, rfl, HA, HJ2, BK192, HB⟩ := hcut
  cases kq with
  | zero => exact absurd HA.out (by simp [rampartref05_PutICMP.j0])
  | succ kj2 =>
   have H := HA.out
   clear HA
   simp only [rampartref05_PutICMP.j0] at H
   by_cases c12 : x8_2 = true
   ·
    subst c12
    have H1 : (some ((⟨#[]⟩ : ByteArray), 1)) = some (r1, r2) := by rw [if_pos rfl] at H; exact H
    clear H
    have H := H1
    clear H1
    simp only [Option.some.injEq, Prod.mk.injEq] at H
    obtain ⟨rfl, rfl⟩ := H
    go_wp2
    go_ret2
    exact ⟨by first | rfl | (simp [errW_none, errW_some] <;> rfl) | (simp [*, errW_none, errW_some] <;> rfl), by repeat (first | (with_reducible first | exact HB.out | apply below_alloc | apply pw_below_drewN | apply below_drew1 | refine below_set ?_ GE192.out) | exact HB.out)⟩
   ·
    replace c12 := Bool.eq_false_iff.mpr c12
    subst c12
    have H1 : (if (a1.size : Int) > 1992 then (some ((⟨#[]⟩ : ByteArray), 5)) else ((rampartref01_Big.f kj2 a0_2 1).bind fun t193 => ((rampartref01_Big.f kj2 a0_3 1).bind fun t194 => (if t193.size + t194.size ≤ 9223372036854775807 then ((rampartref01_Big.f kj2 (wrap64 (a0_4)) 4).bind fun t195 => (if t195.size + a1.size ≤ 9223372036854775807 then (if (t193 ++ t194).size + 2 ≤ 9223372036854775807 then (if ((t193 ++ t194) ++ (⟨#[0, 0]⟩ : ByteArray)).size + (t195 ++ a1).size ≤ 9223372036854775807 then ((rampartref01_Of.f kj2 (((t193 ++ t194) ++ (⟨#[0, 0]⟩ : ByteArray)) ++ (t195 ++ a1))).bind fun t196 => ((rampartref01_Big.f kj2 t196 2).bind fun t197 => (if (t193 ++ t194).size + t197.size ≤ 9223372036854775807 then (if ((t193 ++ t194) ++ t197).size + (t195 ++ a1).size ≤ 9223372036854775807 then (some (((t193 ++ t194) ++ t197) ++ (t195 ++ a1), 0)) else (none)) else (none)))) else (none)) else (none)) else (none))) else (none))))) = some (r1, r2) := by rw [if_neg (show ¬ (false = true) by decide)] at H; exact H
    clear H
    have H := H1
    clear H1
    by_cases c13 : (a1.size : Int) > 1992
    ·
     rw [if_pos c13] at H
     have c13b0 : decide (1992 < (a1.size : Int)) = true := decide_eq_true c13
     have c13b1 : decide (1992 < a1.size) = true := decide_eq_true (by omega)
     clear c13
     simp only [Option.some.injEq, Prod.mk.injEq] at H
     obtain ⟨rfl, rfl⟩ := H
     go_wp2
     go_ret2
     exact ⟨by first | rfl | (simp [errW_none, errW_some] <;> rfl) | (simp [*, errW_none, errW_some] <;> rfl), by repeat (first | (with_reducible first | exact HB.out | apply below_alloc | apply pw_below_drewN | apply below_drew1 | refine below_set ?_ GE192.out) | exact HB.out)⟩
    ·
     rw [if_neg c13] at H
     have c13b0 : decide (1992 < (a1.size : Int)) = false := decide_eq_false c13
     have c13b1 : decide (1992 < a1.size) = false := decide_eq_false (by omega)
     clear c13
     replace H := Option.bind_eq_some_iff.mp H
     obtain ⟨t193, A140, H⟩ := H
     replace H : ((rampartref01_Big.f kj2 a0_3 1).bind fun t194 => (if t193.size + t194.size ≤ 9223372036854775807 then ((rampartref01_Big.f kj2 (wrap64 (a0_4)) 4).bind fun t195 => (if t195.size + a1.size ≤ 9223372036854775807 then (if (t193 ++ t194).size + 2 ≤ 9223372036854775807 then (if ((t193 ++ t194) ++ (⟨#[0, 0]⟩ : ByteArray)).size + (t195 ++ a1).size ≤ 9223372036854775807 then ((rampartref01_Of.f kj2 (((t193 ++ t194) ++ (⟨#[0, 0]⟩ : ByteArray)) ++ (t195 ++ a1))).bind fun t196 => ((rampartref01_Big.f kj2 t196 2).bind fun t197 => (if (t193 ++ t194).size + t197.size ≤ 9223372036854775807 then (if ((t193 ++ t194) ++ t197).size + (t195 ++ a1).size ≤ 9223372036854775807 then (some (((t193 ++ t194) ++ t197) ++ (t195 ++ a1), 0)) else (none)) else (none)))) else (none)) else (none)) else (none))) else (none))) = some (r1, r2) := H
     have A14 := Aside0.mk A140
     clear A140
     replace H := Option.bind_eq_some_iff.mp H
     obtain ⟨t194, A150, H⟩ := H
     replace H : (if t193.size + t194.size ≤ 9223372036854775807 then ((rampartref01_Big.f kj2 (wrap64 (a0_4)) 4).bind fun t195 => (if t195.size + a1.size ≤ 9223372036854775807 then (if (t193 ++ t194).size + 2 ≤ 9223372036854775807 then (if ((t193 ++ t194) ++ (⟨#[0, 0]⟩ : ByteArray)).size + (t195 ++ a1).size ≤ 9223372036854775807 then ((rampartref01_Of.f kj2 (((t193 ++ t194) ++ (⟨#[0, 0]⟩ : ByteArray)) ++ (t195 ++ a1))).bind fun t196 => ((rampartref01_Big.f kj2 t196 2).bind fun t197 => (if (t193 ++ t194).size + t197.size ≤ 9223372036854775807 then (if ((t193 ++ t194) ++ t197).size + (t195 ++ a1).size ≤ 9223372036854775807 then (some (((t193 ++ t194) ++ t197) ++ (t195 ++ a1), 0)) else (none)) else (none)))) else (none)) else (none)) else (none))) else (none)) = some (r1, r2) := H
     have A15 := Aside0.mk A150
     clear A150
     by_cases c16 : t193.size + t194.size ≤ 9223372036854775807
     ·
      rw [if_pos c16] at H
      have c16b0 := eq_true c16
      have c16b1 : decide (t193.size + t194.size ≤ 9223372036854775807) = true := decide_eq_true c16
      try have c16b2 : (9223372036854775807 < t193.size + t194.size) = False := eq_false (Nat.not_lt.2 c16)
      replace H := Option.bind_eq_some_iff.mp H
      obtain ⟨t195, A170, H⟩ := H
      replace H : (if t195.size + a1.size ≤ 9223372036854775807 then (if (t193 ++ t194).size + 2 ≤ 9223372036854775807 then (if ((t193 ++ t194) ++ (⟨#[0, 0]⟩ : ByteArray)).size + (t195 ++ a1).size ≤ 9223372036854775807 then ((rampartref01_Of.f kj2 (((t193 ++ t194) ++ (⟨#[0, 0]⟩ : ByteArray)) ++ (t195 ++ a1))).bind fun t196 => ((rampartref01_Big.f kj2 t196 2).bind fun t197 => (if (t193 ++ t194).size + t197.size ≤ 9223372036854775807 then (if ((t193 ++ t194) ++ t197).size + (t195 ++ a1).size ≤ 9223372036854775807 then (some (((t193 ++ t194) ++ t197) ++ (t195 ++ a1), 0)) else (none)) else (none)))) else (none)) else (none)) else (none)) = some (r1, r2) := H
      have A17 := Aside0.mk A170
      clear A170
      by_cases c18 : t195.size + a1.size ≤ 9223372036854775807
      ·
       rw [if_pos c18] at H
       have c18b0 := eq_true c18
       have c18b1 : decide (t195.size + a1.size ≤ 9223372036854775807) = true := decide_eq_true c18
       try have c18b2 : (9223372036854775807 < t195.size + a1.size) = False := eq_false (Nat.not_lt.2 c18)
       by_cases c19 : (t193 ++ t194).size + 2 ≤ 9223372036854775807
       ·
        rw [if_pos c19] at H
        have c19b0 := eq_true c19
        have c19b1 : decide ((t193 ++ t194).size + 2 ≤ 9223372036854775807) = true := decide_eq_true c19
        try have c19b2 : (9223372036854775807 < (t193 ++ t194).size + 2) = False := eq_false (Nat.not_lt.2 c19)
        have c19b3 : (9223372036854775807 < t193.size + t194.size + 2) = False := eq_false (Nat.not_lt.2 (by have z_ := c19; simp only [ByteArray.size_append] at z_; exact z_))
        by_cases c20 : ((t193 ++ t194) ++ (⟨#[0, 0]⟩ : ByteArray)).size + (t195 ++ a1).size ≤ 9223372036854775807
        ·
         rw [if_pos c20] at H
         have c20b0 := eq_true c20
         have c20b1 : decide (((t193 ++ t194) ++ (⟨#[0, 0]⟩ : ByteArray)).size + (t195 ++ a1).size ≤ 9223372036854775807) = true := decide_eq_true c20
         try have c20b2 : (9223372036854775807 < ((t193 ++ t194) ++ (⟨#[0, 0]⟩ : ByteArray)).size + (t195 ++ a1).size) = False := eq_false (Nat.not_lt.2 c20)
         have c20b3 : (9223372036854775807 < t193.size + t194.size + 2 + (t195.size + a1.size)) = False := eq_false (Nat.not_lt.2 (by have z_ := c20; simp only [ByteArray.size_append] at z_; exact z_))
         replace H := Option.bind_eq_some_iff.mp H
         obtain ⟨t196, A210, H⟩ := H
         replace H : ((rampartref01_Big.f kj2 t196 2).bind fun t197 => (if (t193 ++ t194).size + t197.size ≤ 9223372036854775807 then (if ((t193 ++ t194) ++ t197).size + (t195 ++ a1).size ≤ 9223372036854775807 then (some (((t193 ++ t194) ++ t197) ++ (t195 ++ a1), 0)) else (none)) else (none))) = some (r1, r2) := H
         have A21 := Aside0.mk A210
         clear A210
         replace H := Option.bind_eq_some_iff.mp H
         obtain ⟨t197, A220, H⟩ := H
         replace H : (if (t193 ++ t194).size + t197.size ≤ 9223372036854775807 then (if ((t193 ++ t194) ++ t197).size + (t195 ++ a1).size ≤ 9223372036854775807 then (some (((t193 ++ t194) ++ t197) ++ (t195 ++ a1), 0)) else (none)) else (none)) = some (r1, r2) := H
         have A22 := Aside0.mk A220
         clear A220
         by_cases c23 : (t193 ++ t194).size + t197.size ≤ 9223372036854775807
         ·
          rw [if_pos c23] at H
          have c23b0 := eq_true c23
          have c23b1 : decide ((t193 ++ t194).size + t197.size ≤ 9223372036854775807) = true := decide_eq_true c23
          try have c23b2 : (9223372036854775807 < (t193 ++ t194).size + t197.size) = False := eq_false (Nat.not_lt.2 c23)
          have c23b3 : (9223372036854775807 < t193.size + t194.size + t197.size) = False := eq_false (Nat.not_lt.2 (by have z_ := c23; simp only [ByteArray.size_append] at z_; exact z_))
          by_cases c24 : ((t193 ++ t194) ++ t197).size + (t195 ++ a1).size ≤ 9223372036854775807
          ·
           rw [if_pos c24] at H
           have c24b0 := eq_true c24
           have c24b1 : decide (((t193 ++ t194) ++ t197).size + (t195 ++ a1).size ≤ 9223372036854775807) = true := decide_eq_true c24
           try have c24b2 : (9223372036854775807 < ((t193 ++ t194) ++ t197).size + (t195 ++ a1).size) = False := eq_false (Nat.not_lt.2 c24)
           have c24b3 : (9223372036854775807 < t193.size + t194.size + t197.size + (t195.size + a1.size)) = False := eq_false (Nat.not_lt.2 (by have z_ := c24; simp only [ByteArray.size_append] at z_; exact z_))
           simp only [Option.some.injEq, Prod.mk.injEq] at H
           obtain ⟨rfl, rfl⟩ := H
           try go_wp2
           have n0_ := Aside0.mk (blk_drew BK192.out)
           have n1_ := Aside0.mk (below_drew1 HB.out)
           clear BK192
           clear HB
           have BK192 := n0_
           have HB := n1_
           clear n0_ n1_
           refine start_ (n := 8) (S := fun w' => w'.cell? ⟨gb192, 0, none⟩ = some (.int .i64 a0_0) ∧ w'.cell? ⟨gb192, 1, none⟩ = some (.int .i64 a0_1) ∧ w'.cell? ⟨gb192, 2, none⟩ = some (.int .i64 a0_2) ∧ w'.cell? ⟨gb192, 3, none⟩ = some (.int .i64 a0_3) ∧ w'.cell? ⟨gb192, 4, none⟩ = some (.int .u32 a0_4)) (ds := []) #[false, false, false, false, false, false, false, false] (by kernel_rfl) rfl rfl ⟨(blk_cell BK192.out 0).trans rfl, (blk_cell BK192.out 1).trans rfl, (blk_cell BK192.out 2).trans rfl, (blk_cell BK192.out 3).trans rfl, (blk_cell BK192.out 4).trans rfl⟩ (fun hHeld => ?_); refine with_tabW rampartref05_PutICMP.tab5 rampartref05_PutICMP.bits5 (fun HT_ HW_ => ?_)
           generalize wc.drew = w25 at BK192 HB hHeld ⊢
           refine pure_ (i := 0) (N := some 31) (v := ?_) (a' := ?_) #[true, false, false, false, false, false, false, false] rfl rfl (any_of HT_.out (by kernel_rfl)) (fun _ _ _ h => h) (Or.inl ⟨by rfl, ?_⟩) ?_ ?_
           rotate_left
           ·
            intro w'
            go_simp
            with_reducible rfl
           rotate_left
           ·
            simp only [Act.put, List.setIfInBounds_toArray, List.set_cons_zero, List.set_cons_succ, i64_w, i32_w]
            rfl
           refine pure_ (i := 3) (N := some 34) (v := ?_) (a' := ?_) #[true, false, false, true, false, false, false, false] rfl rfl (any_of HT_.out (by kernel_rfl)) (fun _ _ _ h => h) (Or.inl ⟨by rfl, ?_⟩) ?_ ?_
           rotate_left
           ·
            intro w'
            go_simp
            with_reducible rfl
           rotate_left
           ·
            simp only [Act.put, List.setIfInBounds_toArray, List.set_cons_zero, List.set_cons_succ, i64_w, i32_w]
            rfl
           refine take_ (i := 1) (N := some 32) (v := ?_) (a' := ?_) #[true, true, false, true, false, false, false, false] rfl rfl (take_ofW HT_.out HW_.out (by kernel_rfl)) (fun _ _ _ h => h) (Or.inl ⟨by rfl, ?_⟩) hHeld ?_ ?_
           rotate_left
           ·
            rintro w' ⟨s0, s1, s2, s3, s4⟩
            go_simp
            with_reducible rfl
           rotate_left
           ·
            simp only [Act.put, List.setIfInBounds_toArray, List.set_cons_zero, List.set_cons_succ, i64_w, i32_w]
            rfl
           refine take_ (i := 4) (N := some 35) (v := ?_) (a' := ?_) #[true, true, false, true, true, false, false, false] rfl rfl (take_ofW HT_.out HW_.out (by kernel_rfl)) (fun _ _ _ h => h) (Or.inl ⟨by rfl, ?_⟩) hHeld ?_ ?_
           rotate_left
           ·
            rintro w' ⟨s0, s1, s2, s3, s4⟩
            go_simp
            with_reducible rfl
           rotate_left
           ·
            simp only [Act.put, List.setIfInBounds_toArray, List.set_cons_zero, List.set_cons_succ, i64_w, i32_w]
            rfl
           refine one_ (i := 2) (N := some 33) #[true, true, true, true, true, false, false, false] rfl rfl (one_of HT_.out (by kernel_rfl)) (by decide) (fun K hK => ?_)
           refine goes_ Try.func45 (by kernel_rfl) rfl #[.int .i64 a0_2, .int .i64 1] (by rfl) rfl rfl (by (try simp only [List.map_toArray, List.map_cons, List.map_nil]); first | done | rfl | (simp only [List.length_drop, List.length_take]; rfl)) ?_
           with_reducible refine (rampartref01_Big.calls kj2 a0_2 1 t193 _ A14.out).mono ?_
           rintro e w26 ⟨rfl, hb⟩
           refine ⟨_, rfl, ?_⟩
           have n0_ := Aside0.mk (blk_below (g := gb192) (o := .cells #[.int .i64 a0_0, .int .i64 a0_1, .int .i64 a0_2, .int .i64 a0_3, .int .u32 a0_4] 53 (0, 0)) (by (with_reducible repeat (first | refine blk_drewN ?_ _ | refine blk_drew ?_ | refine blk_alloc ?_ _)); exact BK192.out) hb)
           have n1_ := Aside0.mk (below_step (by repeat (first | (with_reducible first | exact HB.out | apply below_alloc | apply pw_below_drewN | apply below_drew1 | refine below_set ?_ GE192.out) | exact HB.out)) hb)
           clear BK192
           clear HB
           have BK192 := n0_
           have HB := n1_
           clear n0_ n1_
           (try clear hb)
           (try clear hb2)
           (try clear hk)
           (try clear hi)
           refine hK.out _ _ ⟨(blk_cell BK192.out 0).trans rfl, (blk_cell BK192.out 1).trans rfl, (blk_cell BK192.out 2).trans rfl, (blk_cell BK192.out 3).trans rfl, (blk_cell BK192.out 4).trans rfl⟩ (fun hHeld => ?_)
           clear hK K
           refine norm_ (a' := ?_) ?_ ?_
           rotate_left
           ·
            show Act.put _ (some 33) _ = _
            simp only [Act.put, List.setIfInBounds_toArray, List.set_cons_zero, List.set_cons_succ, i64_w, i32_w]
            rfl
           refine one_ (i := 5) (N := some 36) #[true, true, true, true, true, true, false, false] rfl rfl (one_of HT_.out (by kernel_rfl)) (by decide) (fun K hK => ?_)
           refine goes_ Try.func45 (by kernel_rfl) rfl #[.int .i64 a0_3, .int .i64 1] (by rfl) rfl rfl (by (try simp only [List.map_toArray, List.map_cons, List.map_nil]); first | done | rfl | (simp only [List.length_drop, List.length_take]; rfl)) ?_
           with_reducible refine (rampartref01_Big.calls kj2 a0_3 1 t194 _ A15.out).mono ?_
           rintro e w27 ⟨rfl, hb⟩
           refine ⟨_, rfl, ?_⟩
           have n0_ := Aside0.mk (blk_below (g := gb192) (o := .cells #[.int .i64 a0_0, .int .i64 a0_1, .int .i64 a0_2, .int .i64 a0_3, .int .u32 a0_4] 53 (0, 0)) (by (with_reducible repeat (first | refine blk_drewN ?_ _ | refine blk_drew ?_ | refine blk_alloc ?_ _)); exact BK192.out) hb)
           have n1_ := Aside0.mk (below_step (by repeat (first | (with_reducible first | exact HB.out | apply below_alloc | apply pw_below_drewN | apply below_drew1 | refine below_set ?_ GE192.out) | exact HB.out)) hb)
           clear BK192
           clear HB
           have BK192 := n0_
           have HB := n1_
           clear n0_ n1_
           (try clear hb)
           (try clear hb2)
           (try clear hk)
           (try clear hi)
           refine hK.out _ _ ⟨(blk_cell BK192.out 0).trans rfl, (blk_cell BK192.out 1).trans rfl, (blk_cell BK192.out 2).trans rfl, (blk_cell BK192.out 3).trans rfl, (blk_cell BK192.out 4).trans rfl⟩ (fun hHeld => ?_)
           clear hK K
           refine norm_ (a' := ?_) ?_ ?_
           rotate_left
           ·
            show Act.put _ (some 36) _ = _
            simp only [Act.put, List.setIfInBounds_toArray, List.set_cons_zero, List.set_cons_succ, i64_w, i32_w]
            rfl
           refine pure_ (i := 6) (N := some 37) (v := ?_) (a' := ?_) #[true, true, true, true, true, true, true, false] rfl rfl (any_of HT_.out (by kernel_rfl)) (fun _ _ _ h => h) (Or.inl ⟨by rfl, ?_⟩) ?_ ?_
           rotate_left
           ·
            intro w'
            go_simp
            with_reducible rfl
           rotate_left
           ·
            simp only [Act.put, List.setIfInBounds_toArray, List.set_cons_zero, List.set_cons_succ, i64_w, i32_w]
            rfl
           refine pure_ (i := 7) (N := some 6) (v := ?_) (a' := ?_) #[true, true, true, true, true, true, true, true] rfl rfl (any_of HT_.out (by kernel_rfl)) (fun _ _ _ h => h) (Or.inl ⟨by rfl, ?_⟩) ?_ ?_
           rotate_left
           ·
            intro w'
            go_simp
            with_reducible rfl
           rotate_left
           ·
            simp only [Act.put, List.setIfInBounds_toArray, List.set_cons_zero, List.set_cons_succ, i64_w, i32_w]
            rfl
           refine done_ (done_of HT_.out (by kernel_rfl)) ?_
           have hcz28_0 : w27.cell? ⟨gb192, 0, none⟩ = some (.int .i64 a0_0) := (blk_cell BK192.out 0).trans rfl
           have hcz28_1 : w27.cell? ⟨gb192, 1, none⟩ = some (.int .i64 a0_1) := (blk_cell BK192.out 1).trans rfl
           have hcz28_2 : w27.cell? ⟨gb192, 2, none⟩ = some (.int .i64 a0_2) := (blk_cell BK192.out 2).trans rfl
           have hcz28_3 : w27.cell? ⟨gb192, 3, none⟩ = some (.int .i64 a0_3) := (blk_cell BK192.out 3).trans rfl
           have hcz28_4 : w27.cell? ⟨gb192, 4, none⟩ = some (.int .u32 a0_4) := (blk_cell BK192.out 4).trans rfl
           have hfz28_0 := blk_frozen BK192.out 0
           have hfz28_1 := blk_frozen BK192.out 1
           have hfz28_2 := blk_frozen BK192.out 2
           have hfz28_3 := blk_frozen BK192.out 3
           have hfz28_4 := blk_frozen BK192.out 4
           try go_wp2_with (first | ((with_reducible refine gate_callee (f := 45) rfl ?_); refine goesL_ (some 41) rfl rfl Try.func45 (by kernel_rfl) rfl #[.int .i64 (wrap64 (a0_4)), .int .i64 4] rfl (by (try simp only [List.map_toArray, List.map_cons, List.map_nil]); first | done | rfl | (simp only [List.length_drop, List.length_take]; rfl)) ?_; (with_reducible refine (rampartref01_Big.calls kj2 (wrap64 (a0_4)) 4 t195 _ A17.out).mono ?_); rintro e w29 ⟨rfl, hb⟩; refine ⟨_, rfl, ?_⟩; have n0_ := Aside0.mk (blk_below (g := gb192) (o := .cells #[.int .i64 a0_0, .int .i64 a0_1, .int .i64 a0_2, .int .i64 a0_3, .int .u32 a0_4] 53 (0, 0)) (by (with_reducible repeat (first | refine blk_drewN ?_ _ | refine blk_drew ?_ | refine blk_alloc ?_ _)); exact BK192.out) hb); have n1_ := Aside0.mk (below_step (by repeat (first | (with_reducible first | exact HB.out | apply below_alloc | apply pw_below_drewN | apply below_drew1 | refine below_set ?_ GE192.out) | exact HB.out)) hb); clear BK192; clear HB; have BK192 := n0_; have HB := n1_; clear n0_ n1_; (try clear hb); (try clear hb2); (try clear hk); (try clear hi)) | ((with_reducible refine gate_callee (f := 46) rfl ?_); refine goesL_ (some 49) rfl rfl Try.func46 (by kernel_rfl) rfl #[.string (((t193 ++ t194) ++ (⟨#[0, 0]⟩ : ByteArray)) ++ (t195 ++ a1))] rfl (by (try simp only [List.map_toArray, List.map_cons, List.map_nil]); first | done | rfl | (simp only [List.length_drop, List.length_take]; rfl)) ?_; (with_reducible refine (rampartref01_Of.calls kj2 (((t193 ++ t194) ++ (⟨#[0, 0]⟩ : ByteArray)) ++ (t195 ++ a1)) t196 _ A21.out).mono ?_); rintro e w' ⟨rfl, ⟨nd, rfl⟩⟩; refine ⟨_, rfl, ?_⟩) | ((with_reducible refine gate_callee (f := 45) rfl ?_); refine goesL_ (some 50) rfl rfl Try.func45 (by kernel_rfl) rfl #[.int .i64 t196, .int .i64 2] rfl (by (try simp only [List.map_toArray, List.map_cons, List.map_nil]); first | done | rfl | (simp only [List.length_drop, List.length_take]; rfl)) ?_; (with_reducible refine (rampartref01_Big.calls kj2 t196 2 t197 _ A22.out).mono ?_); rintro e w30 ⟨rfl, hb⟩; refine ⟨_, rfl, ?_⟩; have n0_ := Aside0.mk (blk_below (g := gb192) (o := .cells #[.int .i64 a0_0, .int .i64 a0_1, .int .i64 a0_2, .int .i64 a0_3, .int .u32 a0_4] 53 (0, 0)) (by (with_reducible repeat (first | refine blk_drewN ?_ _ | refine blk_drew ?_ | refine blk_alloc ?_ _)); exact BK192.out) hb); have n1_ := Aside0.mk (below_step (by repeat (first | (with_reducible first | exact HB.out | apply below_alloc | apply pw_below_drewN | apply below_drew1 | refine below_set ?_ GE192.out) | exact HB.out)) hb); clear BK192; clear HB; have BK192 := n0_; have HB := n1_; clear n0_ n1_; (try clear hb); (try clear hb2); (try clear hk); (try clear hi)))
           go_ret2
           exact ⟨by first | rfl | (simp [errW_none, errW_some] <;> rfl) | (simp [*, errW_none, errW_some] <;> rfl), by repeat (first | (with_reducible first | exact HB.out | apply below_alloc | apply pw_below_drewN | apply below_drew1 | refine below_set ?_ GE192.out) | exact HB.out)⟩
          ·
           rw [if_neg c24] at H
           exact absurd H (by simp)
         ·
          rw [if_neg c23] at H
          exact absurd H (by simp)
        ·
         rw [if_neg c20] at H
         exact absurd H (by simp)
       ·
        rw [if_neg c19] at H
        exact absurd H (by simp)
      ·
       rw [if_neg c18] at H
       exact absurd H (by simp)
     ·
      rw [if_neg c16] at H
      exact absurd H (by simp)

end Go.Proofs.Ytgolimfljndnmaa.HD
