/- What is proved: each Go function of this text answers as the plain Lean function beside it (a law: its given row, out of the plain statement). Conditions: those that stand in each theorem. Written by my drive.py, which calls the printer of the kit for what that covers. -/
import Derived.Test.YtbbafhpnlmmjjaaHAx0
namespace Go.Proofs.Ytbbafhpnlmmjjaa.HA
open Go.RowKit Go.Proofs.YtbbafhpnlmmjjaaW.PrintWords Go.Proofs.YtbbafhpnlmmjjaaW.PrintLast Go.Proofs.YtbbafhpnlmmjjaaW.PrintMore
attribute [local go_sem] max2_int min2_int max_two min_two max_three min_three max_four min_four   -- for this text's walks alone
set_option linter.unusedVariables false
set_option linter.unusedSimpArgs false

/-! ### cidr_Check: function 30 -/
def cidr_Check.l0 : Nat → Bool → List (S48) → Int → Int → Option (Bool)
 | 0, _, _, _, _ => none
 | k + 1, x3, x11, x12, x13 => if x13 < x12 then (if 0 ≤ x13 then (if x13 < (x11.length : Int) then (if x3 = true then (if ((rd_T48 x11 x13).f1) ≥ 0 then (cidr_Check.l0 k (decide (((rd_T48 x11 x13).f1) ≤ 32)) x11 x12 (wrap64 (x13 + 1))) else (cidr_Check.l0 k false x11 x12 (wrap64 (x13 + 1)))) else (cidr_Check.l0 k false x11 x12 (wrap64 (x13 + 1)))) else (none)) else (none)) else (some x3)
def cidr_Check.f (k : Nat) (a0_0 : Bool) (l0_1 : List (S48)) : Option (Bool) := cidr_Check.l0 k (decide ((l0_1.length : Int) ≤ 4)) l0_1 (l0_1.length : Int) 0
theorem cidr_Check.mono_l : ∀ k, (∀ y0 y1 y2 y3, LeO (cidr_Check.l0 k y0 y1 y2 y3) (cidr_Check.l0 (k + 1) y0 y1 y2 y3))
 | 0 => fun _ _ _ _ r h => by simp [cidr_Check.l0] at h
 | k + 1 => by
  have ih0 := cidr_Check.mono_l k
  ·
   intro y0 y1 y2 y3
   unfold cidr_Check.l0
   repeat' first
   | (with_reducible exact ih0 _ _ _ _)
   | (with_reducible exact LeO.refl _)
   | (with_reducible exact LeO.none _)
   | (with_reducible refine LeO.ite ?_ ?_)
   | (with_reducible refine LeO.bind ?_ (fun _ => ?_))
   | exact ih0 _ _ _ _
   | exact LeO.none _
   | refine LeO.ite ?_ ?_
   | refine LeO.bind ?_ (fun _ => ?_)
theorem cidr_Check.mono : ∀ a0 a1 k, LeO (cidr_Check.f k a0 a1) (cidr_Check.f (k + 1) a0 a1) := by
 intro a0 a1 k
 have ih0 := cidr_Check.mono_l k
 unfold cidr_Check.f
 repeat' first
   | (with_reducible exact ih0 _ _ _ _)
   | (with_reducible exact LeO.refl _)
   | (with_reducible exact LeO.none _)
   | (with_reducible refine LeO.ite ?_ ?_)
   | (with_reducible refine LeO.bind ?_ (fun _ => ?_))
   | exact ih0 _ _ _ _
   | exact LeO.none _
   | refine LeO.ite ?_ ?_
   | refine LeO.bind ?_ (fun _ => ?_)
set_option maxHeartbeats 8000000 in
set_option maxRecDepth 100000 in
theorem cidr_Check.calls (k : Nat) (a0_0 : Bool) (A0_1 : Option Addr) (c0_1 : Nat) (l0_1 : List (S48)) (r : Bool) (w : World) (hr0_1 : Kd.C k48 w A0_1 l0_1.length l0_1) (hc0_1 : l0_1.length ≤ c0_1) (h : cidr_Check.f k a0_0 l0_1 = some r) :
  Calls Try.prog 30 #[.agg #[.bool a0_0, .slice A0_1 l0_1.length c0_1]] w fun e w' => e = .returned (.bool r) ∧ Below w.heap.size w w' := by
 have hu31 := Try.underlying31
 have hu48 := Try.underlying48
 have HR0_1 := Aside0.mk hr0_1
 have HC0_1 := Aside0.mk hc0_1
 clear hr0_1 hc0_1
 have HB := Aside0.mk (Below.refl w.heap.size w)
 have H : (cidr_Check.l0 k (decide ((l0_1.length : Int) ≤ 4)) l0_1 (l0_1.length : Int) 0) = some r := h
 clear h
 have H' := Aside0.mk H
 clear H
 go_enter Try.func30, Try.ntmps30
 go_wp2_with (first | ((with_reducible refine gate_dst (N := 1) rfl ?_); refine box_event ?hg (N := 1) ?hd (cs := #[.bool a0_0, .slice A0_1 l0_1.length c0_1]) (t := 31) ?hr ?_; (case hd => rfl); (case hg => rfl); (case hr => first | (go_simp; done) | (go_simp; rfl)); intro gb101 hg w2 hbox hb; have n0_ := Aside0.mk (below_step (by repeat (first | (with_reducible first | exact HB.out | apply below_alloc | apply pw_below_drewN | apply below_drew1) | exact HB.out)) hb); have n1_ := Aside0.mk (hbox); have n2_ := Aside0.mk ((by rw [hg]; exact (below_size (by repeat (first | (with_reducible first | exact HB.out | apply below_alloc | apply pw_below_drewN | apply below_drew1) | exact HB.out))) : w.heap.size ≤ gb101)); have n3_ := Aside0.mk ((by rw [hg]; exact (below_size (by repeat (first | (with_reducible first | exact HB.out | apply below_alloc | apply pw_below_drewN | apply below_drew1) | exact HB.out))) : w.heap.size ≤ gb101)); clear HB; have HB := n0_; have BK101 := n1_; have GW101 := n2_; have GE101 := n3_; clear n0_ n1_ n2_ n3_; clear hb hbox hg; have hcz3_0 : w2.cell? ⟨gb101, 0, none⟩ = some (.bool a0_0) := (blk_cell BK101.out 0).trans rfl; have hcz3_1 : w2.cell? ⟨gb101, 1, none⟩ = some (.slice A0_1 l0_1.length c0_1) := (blk_cell BK101.out 1).trans rfl; have hfz3_0 := blk_frozen BK101.out 0; have hfz3_1 := blk_frozen BK101.out 1))
 go_loopg [3, 13] k (fun kq v3 v13 w' => ∃ (x3_1 : Bool) (x13_1 : Int), v3 = .bool x3_1 ∧ v13 = .int .i64 x13_1 ∧ Aside0 (cidr_Check.l0 kq x3_1 l0_1 (l0_1.length : Int) x13_1 = some r) ∧ Aside0 (kq ≤ k) ∧ Aside0 (w'.heap[gb101]? = some (.cells #[.bool a0_0, (.slice A0_1 l0_1.length c0_1)] 31 (0, 0))) ∧ Aside0 (Below w.heap.size w w'))
 case atStart => exact ⟨(decide ((l0_1.length : Int) ≤ 4)), (0), (by first | rfl | (simp; done) | (simp [*]; done)), (by first | rfl | (simp; done) | (simp [*]; done)), H', ⟨Nat.le_refl _⟩, ⟨by (with_reducible repeat (first | refine blk_drewN ?_ _ | refine blk_drew ?_ | refine blk_alloc ?_ _)); exact BK101.out⟩, ⟨by repeat (first | (with_reducible first | exact HB.out | apply below_alloc | apply pw_below_drewN | apply below_drew1 | refine below_set ?_ GE101.out) | exact HB.out)⟩⟩
 case round =>
  clear H'
  try clear p2
  try clear c3
  try clear hcz3_0
  try clear hcz3_1
  try clear hfz3_0
  try clear hfz3_1
  obtain ⟨x3_1, x13_1, rfl, rfl, HA, HK1, BK101, HB⟩ := hrel
  cases gk with
  | zero => exact absurd HA.out (by simp [cidr_Check.l0])
  | succ k1 =>
   have H := HA.out
   clear HA
   simp only [cidr_Check.l0] at H
   by_cases c4 : x13_1 < (l0_1.length : Int)
   ·
    rw [if_pos c4] at H
    have c4b0 : decide (x13_1 < (l0_1.length : Int)) = true := decide_eq_true c4
    clear c4
    by_cases c5 : 0 ≤ x13_1
    ·
     rw [if_pos c5] at H
     have c5b0 : decide (0 ≤ x13_1) = true := decide_eq_true c5
     clear c5
     by_cases c6 : x13_1 < (l0_1.length : Int)
     ·
      rw [if_pos c6] at H
      have c6b0 : decide (x13_1 < (l0_1.length : Int)) = true := decide_eq_true c6
      clear c6
      by_cases c7 : x3_1 = true
      ·
       subst c7
       have H1 : (if ((rd_T48 l0_1 x13_1).f1) ≥ 0 then (cidr_Check.l0 k1 (decide (((rd_T48 l0_1 x13_1).f1) ≤ 32)) l0_1 (l0_1.length : Int) (wrap64 (x13_1 + 1))) else (cidr_Check.l0 k1 false l0_1 (l0_1.length : Int) (wrap64 (x13_1 + 1)))) = some r := by rw [if_pos rfl] at H; exact H
       clear H
       have H := H1
       clear H1
       by_cases c8 : ((rd_T48 l0_1 x13_1).f1) ≥ 0
       ·
        rw [if_pos c8] at H
        have c8b0 : decide (0 ≤ ((rd_T48 l0_1 x13_1).f1)) = true := decide_eq_true c8
        clear c8
        have H' := Aside0.mk H
        clear H
        have p102 : 0 ≤ (x13_1 : Int) := of_decide_eq_true (by first | (with_reducible assumption) | assumption)
        have q102 : x13_1 < (l0_1.length : Int) := of_decide_eq_true (by first | (with_reducible assumption) | assumption)
        obtain ⟨ad102, e102, hx102_0, hx102_1⟩ := at_T48 HR0_1.out x13_1 p102 q102
        cases e102
        replace hx102_0 := (HB.out.cell (World.block_lt_of_cell? w _ hx102_0)).trans hx102_0
        replace hx102_1 := (HB.out.cell (World.block_lt_of_cell? w _ hx102_1)).trans hx102_1
        replace p102 := eq_true p102
        replace q102 := eq_true q102
        go_wp2_with (first | ((with_reducible refine gate_dst (N := 5) rfl ?_); refine box_event ?hg (N := 5) ?hd (cs := #[.int .u32 0, .int .i64 0]) (t := 48) ?hr ?_; (case hd => rfl); (case hg => rfl); (case hr => first | (go_simp; done) | (go_simp; rfl)); intro gb103 hg w9 hbox hb; have n0_ := Aside0.mk (blk_below (g := gb101) (o := .cells #[.bool a0_0, .slice (some ad102) l0_1.length c0_1] 31 (0, 0)) (by (with_reducible repeat (first | refine blk_drewN ?_ _ | refine blk_drew ?_ | refine blk_alloc ?_ _)); exact BK101.out) hb); have n1_ := Aside0.mk (below_step (by repeat (first | (with_reducible first | exact HB.out | apply below_alloc | apply pw_below_drewN | apply below_drew1 | refine below_set ?_ GE101.out) | exact HB.out)) hb); have n2_ := Aside0.mk (hbox); have n3_ := Aside0.mk ((by rw [hg]; exact (below_size (by repeat (first | (with_reducible first | exact HB.out | apply below_alloc | apply pw_below_drewN | apply below_drew1 | refine below_set ?_ GE101.out) | exact HB.out))) : w.heap.size ≤ gb103)); have n4_ := Aside0.mk ((by rw [hg]; exact (below_size (by repeat (first | (with_reducible first | exact HB.out | apply below_alloc | apply pw_below_drewN | apply below_drew1 | refine below_set ?_ GE101.out) | exact HB.out))) : w.heap.size ≤ gb103)); have n5_ := Aside0.mk ((by rw [hg]; exact Nat.ne_of_lt (blk_lt (g := gb101) (o := .cells #[.bool a0_0, .slice (some ad102) l0_1.length c0_1] 31 (0, 0)) (by (with_reducible repeat (first | refine blk_drewN ?_ _ | refine blk_drew ?_ | refine blk_alloc ?_ _)); exact BK101.out)) : gb101 ≠ gb103)); have n6_ := Aside0.mk ((by rw [hg]; exact Nat.ne_of_gt (blk_lt (g := gb101) (o := .cells #[.bool a0_0, .slice (some ad102) l0_1.length c0_1] 31 (0, 0)) (by (with_reducible repeat (first | refine blk_drewN ?_ _ | refine blk_drew ?_ | refine blk_alloc ?_ _)); exact BK101.out)) : gb103 ≠ gb101)); clear BK101; clear HB; have BK101 := n0_; have HB := n1_; have BK103 := n2_; have GW103 := n3_; have GE103 := n4_; have NB101_103 := n5_; have NB103_101 := n6_; clear n0_ n1_ n2_ n3_ n4_ n5_ n6_; clear hb hbox hg; have hnb10 := NB103_101.out; have hnc10 := NB101_103.out; have hcz11_0 : w9.cell? ⟨gb103, 0, none⟩ = some (.int .u32 0) := (blk_cell BK103.out 0).trans rfl; have hcz11_1 : w9.cell? ⟨gb103, 1, none⟩ = some (.int .i64 0) := (blk_cell BK103.out 1).trans rfl; have hfz11_0 := blk_frozen BK103.out 0; have hfz11_1 := blk_frozen BK103.out 1))
        go_roundg k1
        case measure => have := HK1.out; omega
        case rel => exact ⟨(decide (((rd_T48 l0_1 x13_1).f1) ≤ 32)), (wrap64 (x13_1 + 1)), (by first | rfl | (simp; done) | (simp [*]; done)), (by first | rfl | (simp; done) | (simp [*]; done)), H', ⟨by have := HK1.out; omega⟩, ⟨by (with_reducible repeat (first | refine blk_drewN ?_ _ | refine blk_drew ?_ | refine blk_alloc ?_ _)); refine blk_far ?_ NB101_103.out _; (with_reducible repeat (first | refine blk_drewN ?_ _ | refine blk_drew ?_ | refine blk_alloc ?_ _)); refine blk_far ?_ NB101_103.out _; (with_reducible repeat (first | refine blk_drewN ?_ _ | refine blk_drew ?_ | refine blk_alloc ?_ _)); exact BK101.out⟩, ⟨by repeat (first | (with_reducible first | exact HB.out | apply below_alloc | apply pw_below_drewN | apply below_drew1 | refine below_set ?_ GE101.out | refine below_set ?_ GE103.out) | exact HB.out)⟩⟩
       ·
        rw [if_neg c8] at H
        have c8b0 : decide (0 ≤ ((rd_T48 l0_1 x13_1).f1)) = false := decide_eq_false c8
        clear c8
        have H' := Aside0.mk H
        clear H
        have p102 : 0 ≤ (x13_1 : Int) := of_decide_eq_true (by first | (with_reducible assumption) | assumption)
        have q102 : x13_1 < (l0_1.length : Int) := of_decide_eq_true (by first | (with_reducible assumption) | assumption)
        obtain ⟨ad102, e102, hx102_0, hx102_1⟩ := at_T48 HR0_1.out x13_1 p102 q102
        cases e102
        replace hx102_0 := (HB.out.cell (World.block_lt_of_cell? w _ hx102_0)).trans hx102_0
        replace hx102_1 := (HB.out.cell (World.block_lt_of_cell? w _ hx102_1)).trans hx102_1
        replace p102 := eq_true p102
        replace q102 := eq_true q102
        go_wp2_with (first | ((with_reducible refine gate_dst (N := 5) rfl ?_); refine box_event ?hg (N := 5) ?hd (cs := #[.int .u32 0, .int .i64 0]) (t := 48) ?hr ?_; (case hd => rfl); (case hg => rfl); (case hr => first | (go_simp; done) | (go_simp; rfl)); intro gb103 hg w12 hbox hb; have n0_ := Aside0.mk (blk_below (g := gb101) (o := .cells #[.bool a0_0, .slice (some ad102) l0_1.length c0_1] 31 (0, 0)) (by (with_reducible repeat (first | refine blk_drewN ?_ _ | refine blk_drew ?_ | refine blk_alloc ?_ _)); exact BK101.out) hb); have n1_ := Aside0.mk (below_step (by repeat (first | (with_reducible first | exact HB.out | apply below_alloc | apply pw_below_drewN | apply below_drew1 | refine below_set ?_ GE101.out) | exact HB.out)) hb); have n2_ := Aside0.mk (hbox); have n3_ := Aside0.mk ((by rw [hg]; exact (below_size (by repeat (first | (with_reducible first | exact HB.out | apply below_alloc | apply pw_below_drewN | apply below_drew1 | refine below_set ?_ GE101.out) | exact HB.out))) : w.heap.size ≤ gb103)); have n4_ := Aside0.mk ((by rw [hg]; exact (below_size (by repeat (first | (with_reducible first | exact HB.out | apply below_alloc | apply pw_below_drewN | apply below_drew1 | refine below_set ?_ GE101.out) | exact HB.out))) : w.heap.size ≤ gb103)); have n5_ := Aside0.mk ((by rw [hg]; exact Nat.ne_of_lt (blk_lt (g := gb101) (o := .cells #[.bool a0_0, .slice (some ad102) l0_1.length c0_1] 31 (0, 0)) (by (with_reducible repeat (first | refine blk_drewN ?_ _ | refine blk_drew ?_ | refine blk_alloc ?_ _)); exact BK101.out)) : gb101 ≠ gb103)); have n6_ := Aside0.mk ((by rw [hg]; exact Nat.ne_of_gt (blk_lt (g := gb101) (o := .cells #[.bool a0_0, .slice (some ad102) l0_1.length c0_1] 31 (0, 0)) (by (with_reducible repeat (first | refine blk_drewN ?_ _ | refine blk_drew ?_ | refine blk_alloc ?_ _)); exact BK101.out)) : gb103 ≠ gb101)); clear BK101; clear HB; have BK101 := n0_; have HB := n1_; have BK103 := n2_; have GW103 := n3_; have GE103 := n4_; have NB101_103 := n5_; have NB103_101 := n6_; clear n0_ n1_ n2_ n3_ n4_ n5_ n6_; clear hb hbox hg; have hnb13 := NB103_101.out; have hnc13 := NB101_103.out; have hcz14_0 : w12.cell? ⟨gb103, 0, none⟩ = some (.int .u32 0) := (blk_cell BK103.out 0).trans rfl; have hcz14_1 : w12.cell? ⟨gb103, 1, none⟩ = some (.int .i64 0) := (blk_cell BK103.out 1).trans rfl; have hfz14_0 := blk_frozen BK103.out 0; have hfz14_1 := blk_frozen BK103.out 1))
        go_roundg k1
        case measure => have := HK1.out; omega
        case rel => exact ⟨(false), (wrap64 (x13_1 + 1)), (by first | rfl | (simp; done) | (simp [*]; done)), (by first | rfl | (simp; done) | (simp [*]; done)), H', ⟨by have := HK1.out; omega⟩, ⟨by (with_reducible repeat (first | refine blk_drewN ?_ _ | refine blk_drew ?_ | refine blk_alloc ?_ _)); refine blk_far ?_ NB101_103.out _; (with_reducible repeat (first | refine blk_drewN ?_ _ | refine blk_drew ?_ | refine blk_alloc ?_ _)); refine blk_far ?_ NB101_103.out _; (with_reducible repeat (first | refine blk_drewN ?_ _ | refine blk_drew ?_ | refine blk_alloc ?_ _)); exact BK101.out⟩, ⟨by repeat (first | (with_reducible first | exact HB.out | apply below_alloc | apply pw_below_drewN | apply below_drew1 | refine below_set ?_ GE101.out | refine below_set ?_ GE103.out) | exact HB.out)⟩⟩
      ·
       replace c7 := Bool.eq_false_iff.mpr c7
       subst c7
       have H1 : (cidr_Check.l0 k1 false l0_1 (l0_1.length : Int) (wrap64 (x13_1 + 1))) = some r := by rw [if_neg (show ¬ (false = true) by decide)] at H; exact H
       clear H
       have H := H1
       clear H1
       have H' := Aside0.mk H
       clear H
       have p102 : 0 ≤ (x13_1 : Int) := of_decide_eq_true (by first | (with_reducible assumption) | assumption)
       have q102 : x13_1 < (l0_1.length : Int) := of_decide_eq_true (by first | (with_reducible assumption) | assumption)
       obtain ⟨ad102, e102, hx102_0, hx102_1⟩ := at_T48 HR0_1.out x13_1 p102 q102
       cases e102
       replace hx102_0 := (HB.out.cell (World.block_lt_of_cell? w _ hx102_0)).trans hx102_0
       replace hx102_1 := (HB.out.cell (World.block_lt_of_cell? w _ hx102_1)).trans hx102_1
       replace p102 := eq_true p102
       replace q102 := eq_true q102
       go_wp2_with (first | ((with_reducible refine gate_dst (N := 5) rfl ?_); refine box_event ?hg (N := 5) ?hd (cs := #[.int .u32 0, .int .i64 0]) (t := 48) ?hr ?_; (case hd => rfl); (case hg => rfl); (case hr => first | (go_simp; done) | (go_simp; rfl)); intro gb103 hg w15 hbox hb; have n0_ := Aside0.mk (blk_below (g := gb101) (o := .cells #[.bool a0_0, .slice (some ad102) l0_1.length c0_1] 31 (0, 0)) (by (with_reducible repeat (first | refine blk_drewN ?_ _ | refine blk_drew ?_ | refine blk_alloc ?_ _)); exact BK101.out) hb); have n1_ := Aside0.mk (below_step (by repeat (first | (with_reducible first | exact HB.out | apply below_alloc | apply pw_below_drewN | apply below_drew1 | refine below_set ?_ GE101.out) | exact HB.out)) hb); have n2_ := Aside0.mk (hbox); have n3_ := Aside0.mk ((by rw [hg]; exact (below_size (by repeat (first | (with_reducible first | exact HB.out | apply below_alloc | apply pw_below_drewN | apply below_drew1 | refine below_set ?_ GE101.out) | exact HB.out))) : w.heap.size ≤ gb103)); have n4_ := Aside0.mk ((by rw [hg]; exact (below_size (by repeat (first | (with_reducible first | exact HB.out | apply below_alloc | apply pw_below_drewN | apply below_drew1 | refine below_set ?_ GE101.out) | exact HB.out))) : w.heap.size ≤ gb103)); have n5_ := Aside0.mk ((by rw [hg]; exact Nat.ne_of_lt (blk_lt (g := gb101) (o := .cells #[.bool a0_0, .slice (some ad102) l0_1.length c0_1] 31 (0, 0)) (by (with_reducible repeat (first | refine blk_drewN ?_ _ | refine blk_drew ?_ | refine blk_alloc ?_ _)); exact BK101.out)) : gb101 ≠ gb103)); have n6_ := Aside0.mk ((by rw [hg]; exact Nat.ne_of_gt (blk_lt (g := gb101) (o := .cells #[.bool a0_0, .slice (some ad102) l0_1.length c0_1] 31 (0, 0)) (by (with_reducible repeat (first | refine blk_drewN ?_ _ | refine blk_drew ?_ | refine blk_alloc ?_ _)); exact BK101.out)) : gb103 ≠ gb101)); clear BK101; clear HB; have BK101 := n0_; have HB := n1_; have BK103 := n2_; have GW103 := n3_; have GE103 := n4_; have NB101_103 := n5_; have NB103_101 := n6_; clear n0_ n1_ n2_ n3_ n4_ n5_ n6_; clear hb hbox hg; have hnb16 := NB103_101.out; have hnc16 := NB101_103.out; have hcz17_0 : w15.cell? ⟨gb103, 0, none⟩ = some (.int .u32 0) := (blk_cell BK103.out 0).trans rfl; have hcz17_1 : w15.cell? ⟨gb103, 1, none⟩ = some (.int .i64 0) := (blk_cell BK103.out 1).trans rfl; have hfz17_0 := blk_frozen BK103.out 0; have hfz17_1 := blk_frozen BK103.out 1))
       go_roundg k1
       case measure => have := HK1.out; omega
       case rel => exact ⟨(false), (wrap64 (x13_1 + 1)), (by first | rfl | (simp; done) | (simp [*]; done)), (by first | rfl | (simp; done) | (simp [*]; done)), H', ⟨by have := HK1.out; omega⟩, ⟨by (with_reducible repeat (first | refine blk_drewN ?_ _ | refine blk_drew ?_ | refine blk_alloc ?_ _)); refine blk_far ?_ NB101_103.out _; (with_reducible repeat (first | refine blk_drewN ?_ _ | refine blk_drew ?_ | refine blk_alloc ?_ _)); refine blk_far ?_ NB101_103.out _; (with_reducible repeat (first | refine blk_drewN ?_ _ | refine blk_drew ?_ | refine blk_alloc ?_ _)); exact BK101.out⟩, ⟨by repeat (first | (with_reducible first | exact HB.out | apply below_alloc | apply pw_below_drewN | apply below_drew1 | refine below_set ?_ GE101.out | refine below_set ?_ GE103.out) | exact HB.out)⟩⟩
     ·
      rw [if_neg c6] at H
      exact absurd H (by simp)
    ·
     rw [if_neg c5] at H
     exact absurd H (by simp)
   ·
    rw [if_neg c4] at H
    have c4b0 : decide (x13_1 < (l0_1.length : Int)) = false := decide_eq_false c4
    clear c4
    obtain rfl := Option.some.inj H
    go_wp2
    go_ret
    exact ⟨by first | rfl | (simp [errW_none, errW_some] <;> rfl) | (simp [*, errW_none, errW_some] <;> rfl), by repeat (first | (with_reducible first | exact HB.out | apply below_alloc | apply pw_below_drewN | apply below_drew1 | refine below_set ?_ GE101.out) | exact HB.out)⟩

/-! ### cidr_masks: function 35 -/
def maskAt (n : Nat) : Int := 4294967296 - 2 ^ (32 - n)
def maskc (j : Nat) : Array Value := Array.ofFn (n := 33) fun i => Value.int .u32 (if i.val < j then maskAt i.val else 0)
theorem maskc_size (j : Nat) : (maskc j).size = 33 := by simp [maskc]
theorem maskc_get (j i : Nat) (h : i < 33) : (maskc j)[i]? = some (.int .u32 (if i < j then maskAt i else 0)) := by
 rw [Array.getElem?_eq_getElem (show i < (maskc j).size by rw [maskc_size]; exact h)]
 simp [maskc]
theorem maskc_set (j : Nat) (h : j < 33) {v : Int} (hv : v = maskAt j) : (maskc j).setIfInBounds j (.int .u32 v) = maskc (j + 1) := by
 subst hv
 apply Array.ext_getElem?
 intro i
 rw [Array.getElem?_setIfInBounds]
 by_cases hi : i < 33
 ·
  by_cases e : j = i
  ·
   subst e
   rw [if_pos rfl, if_pos (by rw [maskc_size]; exact h), maskc_get _ _ h, if_pos (by omega)]
  ·
   rw [if_neg e, maskc_get _ _ hi, maskc_get _ _ hi]
   by_cases h2 : i < j
   ·
    rw [if_pos h2, if_pos (by omega)]
   ·
    rw [if_neg h2, if_neg (by omega)]
 ·
  rw [if_neg (by omega), Array.getElem?_eq_none (by rw [maskc_size]; omega), Array.getElem?_eq_none (by rw [maskc_size]; omega)]
theorem mask_val (j : Nat) (h : j < 33) : IntKind.u64.wrap (4294967295 * 2 ^ (32 - j)) % 4294967296 = maskAt j := by
 have key : ∀ i : Fin 33, IntKind.u64.wrap (4294967295 * 2 ^ (32 - i.val)) % 4294967296 = maskAt i.val := by decide +kernel
 exact key ⟨j, h⟩
theorem heap_row {w : World} {g : Nat} {old cs : Array Value} {t : TypeId} (hg : w.heap[g]? = some (.cells old t (0, 0))) : (w.setRow g cs).heap[g]? = some (.cells cs t (0, 0)) := by
 simp [World.setRow, Array.getElem?_modify, hg]
theorem load_row_event {P : Program} {ops : Array Oper} {Q : Exit → Act → World → Prop} {rest : List Oper} {o : Oper} {a : Act} {W : World} (hgd : o.guard = none) {N : Tmp} (_hd : o.dst = some N) {t : TypeId} {p : Tmp} (ho : o.op = .load t (.tmp p)) {g : Nat} {cs : Array Value} {T : TypeId} {d : TypeDesc}
  (hp : a.eval (.tmp p) = .pointer (some ⟨g, 0, none⟩)) (hg : W.heap[g]? = some (.cells cs T (0, 0))) (hu : P.underlying t = some d) (hd : (match d with | .struct _ | .array _ _ => true | _ => false) = true) (hi : (P.info? t).map (·.size) = some cs.size)
  (h : wpList P ops Q rest (a.put o.dst (.agg cs)) W) : wpList P ops Q (o :: rest) a W :=
 Kd.event_run hgd (by
  have hl := run_loadVar_row (P := P) W g T t cs (0, 0) d hg hu hd hi
  simp [execOp, ho, hp, Instr.loadAt, Instr.sureAddr, asAddr, hl]) h
theorem store_row_event {P : Program} {ops : Array Oper} {Q : Exit → Act → World → Prop} {rest : List Oper} {o : Oper} {a : Act} {W : World} (hgd : o.guard = none) (hN : o.dst = none) {t : TypeId} {p v : Tmp} (ho : o.op = .store t (.tmp p) (.tmp v)) {g : Nat} {old cs : Array Value} {T : TypeId}
  (hp : a.eval (.tmp p) = .pointer (some ⟨g, 0, none⟩)) (hv : a.eval (.tmp v) = .agg cs) (hg : W.heap[g]? = some (.cells old T (0, 0))) (hi : (P.info? t).map (·.size) = some cs.size) (hz : old.size = cs.size) (h1 : cs.all (·.oneCell') = true)
  (h : wpList P ops Q rest a (W.setRow g cs)) : wpList P ops Q (o :: rest) a W :=
 store_event (w1 := W.setRow g cs) hgd ho hN (by
  have hl := run_storeVar_row (P := P) W g T t old cs hg hi hz h1
  simp [execOp, ho, hp, hv, Instr.storeAt, Instr.sureAddr, asAddr, hl]) (fun w' hw => by subst hw; exact h)
set_option maxHeartbeats 4000000 in
set_option maxRecDepth 100000 in
theorem cidr_masks.calls (w : World) : Calls Try.prog 35 #[] w fun e w' => e = .returned (.agg (maskc 33)) ∧ Below w.heap.size w w' := by
 have huA := Try.underlying74
 have HB := Aside0.mk (Below.refl w.heap.size w)
 go_enter Try.func35, Try.ntmps35
 go_wp2_with (first | ((with_reducible refine gate_dst (N := 0) rfl ?_); refine box_event ?hg (N := 0) ?hd (cs := #[.int .u32 0, .int .u32 0, .int .u32 0, .int .u32 0, .int .u32 0, .int .u32 0, .int .u32 0, .int .u32 0, .int .u32 0, .int .u32 0, .int .u32 0, .int .u32 0, .int .u32 0, .int .u32 0, .int .u32 0, .int .u32 0, .int .u32 0, .int .u32 0, .int .u32 0, .int .u32 0, .int .u32 0, .int .u32 0, .int .u32 0, .int .u32 0, .int .u32 0, .int .u32 0, .int .u32 0, .int .u32 0, .int .u32 0, .int .u32 0, .int .u32 0, .int .u32 0, .int .u32 0]) (t := 74) ?hr ?_; (case hd => rfl); (case hg => rfl); (case hr => first | (go_simp; done) | (go_simp; rfl)); intro g2 hg w2 hbox hb; have n0_ := Aside0.mk (below_step HB.out hb); have BK2 := Aside0.mk hbox; have GE2 : Aside0 (w.heap.size ≤ g2) := ⟨(by rw [hg]; exact below_size HB.out)⟩; clear HB; have HB := n0_; clear n0_ hb hbox hg) | ((with_reducible refine gate_dst (N := 1) rfl ?_); refine box_event ?hg (N := 1) ?hd (cs := #[.int .u32 0, .int .u32 0, .int .u32 0, .int .u32 0, .int .u32 0, .int .u32 0, .int .u32 0, .int .u32 0, .int .u32 0, .int .u32 0, .int .u32 0, .int .u32 0, .int .u32 0, .int .u32 0, .int .u32 0, .int .u32 0, .int .u32 0, .int .u32 0, .int .u32 0, .int .u32 0, .int .u32 0, .int .u32 0, .int .u32 0, .int .u32 0, .int .u32 0, .int .u32 0, .int .u32 0, .int .u32 0, .int .u32 0, .int .u32 0, .int .u32 0, .int .u32 0, .int .u32 0]) (t := 74) ?hr ?_; (case hd => rfl); (case hg => rfl); (case hr => first | (go_simp; done) | (go_simp; rfl)); intro g3 hg w3 hbox hb; have n0_ := Aside0.mk (below_step HB.out hb); have NE : Aside0 (g2 ≠ g3) := ⟨(by rw [hg]; exact Nat.ne_of_lt (blk_lt BK2.out))⟩; have n1_ := Aside0.mk (blk_below BK2.out hb); have BK3 := Aside0.mk hbox; have GE3 : Aside0 (w.heap.size ≤ g3) := ⟨(by rw [hg]; exact below_size HB.out)⟩; clear HB BK2; have HB := n0_; have BK2 := n1_; clear n0_ n1_ hb hbox hg))
 go_loopg [3] 34 (fun kq v3 w' => ∃ j : Nat, v3 = .int .i64 j ∧ Aside0 (kq + j = 34 ∧ j ≤ 33) ∧ Aside0 (w'.heap[g3]? = some (.cells (maskc j) 74 (0, 0))) ∧ Aside0 (w'.heap[g2]? = some (.cells (maskc 0) 74 (0, 0))) ∧ Aside0 (Below w.heap.size w w'))
 case atStart => exact ⟨0, rfl, ⟨rfl, by decide⟩, ⟨BK3.out⟩, ⟨BK2.out⟩, HB⟩
 case round =>
  clear BK2 BK3 HB
  obtain ⟨j, rfl, HK, BK3, BK2, HB⟩ := hrel
  cases gk with
  | zero => exact absurd HK.out (by omega)
  | succ k1 =>
   have hj33 := HK.out.2
   by_cases hj : j < 33
   ·
    have c0 : decide ((j : Int) < 33) = true := decide_eq_true (by omega)
    have c1 : ((j : Int) < 33) = True := eq_true (by omega)
    have c2 : (j < 33) = True := eq_true hj
    have c3 : (0 ≤ (32 : Int) - j) = True := eq_true (by omega)
    have hcz := (blk_cell BK3.out j).trans (maskc_get j j hj)
    have hfz := blk_frozen BK3.out j
    have hw : IntKind.i64.wrap (32 - (j : Int)) = 32 - (j : Int) := by rw [IntKind.wrap_i64]; omega
    clear hj33
    go_wp2
    go_roundg k1
    case measure => omega
    case rel => exact ⟨j + 1, (by first | rfl | simp | (simp; rfl)), ⟨by have := HK.out; omega⟩, ⟨blk_put BK3.out j _ (maskc_set j hj (mask_val j hj))⟩, ⟨blk_far BK2.out NE.out _⟩, ⟨below_set HB.out GE3.out⟩⟩
   ·
    have e : j = 33 := by omega
    subst e
    clear hj hj33
    go_wp2_with (first | ((with_reducible refine gate_dst (N := 13) rfl ?_); refine load_row_event ?hg (N := 13) ?hd (t := 74) (p := 1) ?ho (g := g3) (cs := maskc 33) (T := 74) ?hp ?hb Try.underlying74 rfl (by kernel_rfl) ?_; (case hg => rfl); (case hd => rfl); (case ho => rfl); (case hp => rfl); (case hb => exact BK3.out)) | ((with_reducible refine gate_store (t := 74) (p := 0) rfl ?_); refine store_row_event (t := 74) (p := 0) (v := 13) (g := g2) (cs := maskc 33) ?hg ?hN ?ho ?hp ?hv BK2.out (by kernel_rfl) (by rw [maskc_size, maskc_size]) (by kernel_rfl) ?_; (case hg => rfl); (case hN => rfl); (case ho => rfl); (case hp => rfl); (case hv => rfl)))
    refine bodyPost_ret (results_cell_row rfl _ _ g2 74 (maskc 33) (0, 0) _ rfl (heap_row BK2.out) Try.underlying74 rfl (by kernel_rfl)) rfl ?_
    exact ⟨rfl, below_setRow HB.out GE2.out _⟩

/-! ### cidr_has: function 31 -/
set_option maxRecDepth 100000 in
theorem index_mask (i : Int) (h0 : 0 ≤ i) (h1 : i < 33) (w : World) : (Instr.index 74 (.agg (maskc 33)) (.int .i64 i)).run Try.prog w = .ok (.int .u32 (maskAt i.toNat)) w := by
 have e : i = 0 ∨ i = 1 ∨ i = 2 ∨ i = 3 ∨ i = 4 ∨ i = 5 ∨ i = 6 ∨ i = 7 ∨ i = 8 ∨ i = 9 ∨ i = 10 ∨ i = 11 ∨ i = 12 ∨ i = 13 ∨ i = 14 ∨ i = 15 ∨ i = 16 ∨ i = 17 ∨ i = 18 ∨ i = 19 ∨ i = 20 ∨ i = 21 ∨ i = 22 ∨ i = 23 ∨ i = 24 ∨ i = 25 ∨ i = 26 ∨ i = 27 ∨ i = 28 ∨ i = 29 ∨ i = 30 ∨ i = 31 ∨ i = 32 := by omega
 rcases e with rfl | rfl | rfl | rfl | rfl | rfl | rfl | rfl | rfl | rfl | rfl | rfl | rfl | rfl | rfl | rfl | rfl | rfl | rfl | rfl | rfl | rfl | rfl | rfl | rfl | rfl | rfl | rfl | rfl | rfl | rfl | rfl | rfl
 ·
  exact (by kernel_rfl : (Instr.index 74 (.agg (maskc 33)) (.int .i64 0)).run Try.prog w = .ok (.int .u32 (maskAt 0)) w)
 ·
  exact (by kernel_rfl : (Instr.index 74 (.agg (maskc 33)) (.int .i64 1)).run Try.prog w = .ok (.int .u32 (maskAt 1)) w)
 ·
  exact (by kernel_rfl : (Instr.index 74 (.agg (maskc 33)) (.int .i64 2)).run Try.prog w = .ok (.int .u32 (maskAt 2)) w)
 ·
  exact (by kernel_rfl : (Instr.index 74 (.agg (maskc 33)) (.int .i64 3)).run Try.prog w = .ok (.int .u32 (maskAt 3)) w)
 ·
  exact (by kernel_rfl : (Instr.index 74 (.agg (maskc 33)) (.int .i64 4)).run Try.prog w = .ok (.int .u32 (maskAt 4)) w)
 ·
  exact (by kernel_rfl : (Instr.index 74 (.agg (maskc 33)) (.int .i64 5)).run Try.prog w = .ok (.int .u32 (maskAt 5)) w)
 ·
  exact (by kernel_rfl : (Instr.index 74 (.agg (maskc 33)) (.int .i64 6)).run Try.prog w = .ok (.int .u32 (maskAt 6)) w)
 ·
  exact (by kernel_rfl : (Instr.index 74 (.agg (maskc 33)) (.int .i64 7)).run Try.prog w = .ok (.int .u32 (maskAt 7)) w)
 ·
  exact (by kernel_rfl : (Instr.index 74 (.agg (maskc 33)) (.int .i64 8)).run Try.prog w = .ok (.int .u32 (maskAt 8)) w)
 ·
  exact (by kernel_rfl : (Instr.index 74 (.agg (maskc 33)) (.int .i64 9)).run Try.prog w = .ok (.int .u32 (maskAt 9)) w)
 ·
  exact (by kernel_rfl : (Instr.index 74 (.agg (maskc 33)) (.int .i64 10)).run Try.prog w = .ok (.int .u32 (maskAt 10)) w)
 ·
  exact (by kernel_rfl : (Instr.index 74 (.agg (maskc 33)) (.int .i64 11)).run Try.prog w = .ok (.int .u32 (maskAt 11)) w)
 ·
  exact (by kernel_rfl : (Instr.index 74 (.agg (maskc 33)) (.int .i64 12)).run Try.prog w = .ok (.int .u32 (maskAt 12)) w)
 ·
  exact (by kernel_rfl : (Instr.index 74 (.agg (maskc 33)) (.int .i64 13)).run Try.prog w = .ok (.int .u32 (maskAt 13)) w)
 ·
  exact (by kernel_rfl : (Instr.index 74 (.agg (maskc 33)) (.int .i64 14)).run Try.prog w = .ok (.int .u32 (maskAt 14)) w)
 ·
  exact (by kernel_rfl : (Instr.index 74 (.agg (maskc 33)) (.int .i64 15)).run Try.prog w = .ok (.int .u32 (maskAt 15)) w)
 ·
  exact (by kernel_rfl : (Instr.index 74 (.agg (maskc 33)) (.int .i64 16)).run Try.prog w = .ok (.int .u32 (maskAt 16)) w)
 ·
  exact (by kernel_rfl : (Instr.index 74 (.agg (maskc 33)) (.int .i64 17)).run Try.prog w = .ok (.int .u32 (maskAt 17)) w)
 ·
  exact (by kernel_rfl : (Instr.index 74 (.agg (maskc 33)) (.int .i64 18)).run Try.prog w = .ok (.int .u32 (maskAt 18)) w)
 ·
  exact (by kernel_rfl : (Instr.index 74 (.agg (maskc 33)) (.int .i64 19)).run Try.prog w = .ok (.int .u32 (maskAt 19)) w)
 ·
  exact (by kernel_rfl : (Instr.index 74 (.agg (maskc 33)) (.int .i64 20)).run Try.prog w = .ok (.int .u32 (maskAt 20)) w)
 ·
  exact (by kernel_rfl : (Instr.index 74 (.agg (maskc 33)) (.int .i64 21)).run Try.prog w = .ok (.int .u32 (maskAt 21)) w)
 ·
  exact (by kernel_rfl : (Instr.index 74 (.agg (maskc 33)) (.int .i64 22)).run Try.prog w = .ok (.int .u32 (maskAt 22)) w)
 ·
  exact (by kernel_rfl : (Instr.index 74 (.agg (maskc 33)) (.int .i64 23)).run Try.prog w = .ok (.int .u32 (maskAt 23)) w)
 ·
  exact (by kernel_rfl : (Instr.index 74 (.agg (maskc 33)) (.int .i64 24)).run Try.prog w = .ok (.int .u32 (maskAt 24)) w)
 ·
  exact (by kernel_rfl : (Instr.index 74 (.agg (maskc 33)) (.int .i64 25)).run Try.prog w = .ok (.int .u32 (maskAt 25)) w)
 ·
  exact (by kernel_rfl : (Instr.index 74 (.agg (maskc 33)) (.int .i64 26)).run Try.prog w = .ok (.int .u32 (maskAt 26)) w)
 ·
  exact (by kernel_rfl : (Instr.index 74 (.agg (maskc 33)) (.int .i64 27)).run Try.prog w = .ok (.int .u32 (maskAt 27)) w)
 ·
  exact (by kernel_rfl : (Instr.index 74 (.agg (maskc 33)) (.int .i64 28)).run Try.prog w = .ok (.int .u32 (maskAt 28)) w)
 ·
  exact (by kernel_rfl : (Instr.index 74 (.agg (maskc 33)) (.int .i64 29)).run Try.prog w = .ok (.int .u32 (maskAt 29)) w)
 ·
  exact (by kernel_rfl : (Instr.index 74 (.agg (maskc 33)) (.int .i64 30)).run Try.prog w = .ok (.int .u32 (maskAt 30)) w)
 ·
  exact (by kernel_rfl : (Instr.index 74 (.agg (maskc 33)) (.int .i64 31)).run Try.prog w = .ok (.int .u32 (maskAt 31)) w)
 ·
  exact (by kernel_rfl : (Instr.index 74 (.agg (maskc 33)) (.int .i64 32)).run Try.prog w = .ok (.int .u32 (maskAt 32)) w)
def cidr_has.f (a0_0 a0_1 a1 : Int) : Option Bool := if 0 ≤ a0_1 ∧ a0_1 < 33 then some (Go.bits .and .u32 a1 (maskAt a0_1.toNat) == Go.bits .and .u32 a0_0 (maskAt a0_1.toNat)) else none
set_option maxHeartbeats 4000000 in
set_option maxRecDepth 100000 in
theorem cidr_has.calls (a0_0 a0_1 a1 : Int) (r : Bool) (w : World) (h : cidr_has.f a0_0 a0_1 a1 = some r) :
  Calls Try.prog 31 #[.agg #[.int .u32 a0_0, .int .i64 a0_1], .int .u32 a1] w fun e w' => e = .returned (.bool r) ∧ Below w.heap.size w w' := by
 have hu48 := Try.underlying48
 have HB := Aside0.mk (Below.refl w.heap.size w)
 unfold cidr_has.f at h
 by_cases hok : 0 ≤ a0_1 ∧ a0_1 < 33
 case neg => rw [if_neg hok] at h; cases h
 rw [if_pos hok] at h
 obtain rfl := Option.some.inj h
 clear h
 have HOK := Aside0.mk hok
 clear hok
 go_enter Try.func31, Try.ntmps31
 go_wp2_with (first | ((with_reducible refine gate_dst (N := 2) rfl ?_); refine box_event ?hg (N := 2) ?hd (cs := #[.int .u32 a0_0, .int .i64 a0_1]) (t := 48) ?hr ?_; (case hd => rfl); (case hg => rfl); (case hr => first | (go_simp; done) | (go_simp; rfl)); intro g2 hg w2 hbox hb; have n0_ := Aside0.mk (below_step HB.out hb); have BK2 := Aside0.mk hbox; clear HB; have HB := n0_; clear n0_ hb hbox hg))
 have n0_ := Aside0.mk (blk_drew BK2.out)
 have n1_ := Aside0.mk (below_drew1 HB.out)
 clear BK2 HB
 have BK2 := n0_
 have HB := n1_
 clear n0_ n1_
 refine start_ (n := 5) (S := fun w' => w'.cell? ⟨g2, 0, none⟩ = some (.int .u32 a0_0) ∧ w'.cell? ⟨g2, 1, none⟩ = some (.int .i64 a0_1)) (ds := []) #[false, false, false, false, false] (by kernel_rfl) rfl rfl ⟨(blk_cell BK2.out 0).trans rfl, (blk_cell BK2.out 1).trans rfl⟩ (fun hHeld => ?_)
 generalize w2.drew = w3 at BK2 HB hHeld ⊢
 refine pure_ (i := 1) (N := some 7) (v := ?_) (a' := ?_) #[false, true, false, false, false] rfl rfl (by kernel_rfl) (fun _ _ _ h => h) (Or.inl ⟨by rfl, ?_⟩) ?_ ?_
 rotate_left
 ·
  intro w'
  go_simp
  with_reducible rfl
 rotate_left
 ·
  simp only [Act.put, List.setIfInBounds_toArray, List.set_cons_zero, List.set_cons_succ, i64_w, i32_w]
  rfl
 refine take_ (i := 2) (N := some 8) (v := ?_) (a' := ?_) #[false, true, true, false, false] rfl rfl (by kernel_rfl) (fun _ _ _ h => h) (Or.inl ⟨by rfl, ?_⟩) hHeld ?_ ?_
 rotate_left
 ·
  rintro w' ⟨s0, s1⟩
  go_simp
  with_reducible rfl
 rotate_left
 ·
  simp only [Act.put, List.setIfInBounds_toArray, List.set_cons_zero, List.set_cons_succ, i64_w, i32_w]
  rfl
 refine one_ (i := 0) (N := some 6) #[true, true, true, false, false] rfl rfl (by kernel_rfl) (by decide) (fun K hK => ?_)
 refine goes_ Try.func35 (by kernel_rfl) rfl #[] (by rfl) rfl rfl (by (try simp only [List.map_toArray, List.map_cons, List.map_nil]); first | done | rfl) ?_
 with_reducible refine (cidr_masks.calls _).mono ?_
 rintro e w4 ⟨rfl, hb⟩
 refine ⟨_, rfl, ?_⟩
 have n0_ := Aside0.mk (blk_below BK2.out hb)
 have n1_ := Aside0.mk (below_step HB.out hb)
 clear BK2 HB
 have BK2 := n0_
 have HB := n1_
 clear n0_ n1_ hb
 refine hK.out _ _ ⟨(blk_cell BK2.out 0).trans rfl, (blk_cell BK2.out 1).trans rfl⟩ (fun hHeld => ?_)
 clear hK K
 refine norm_ (a' := ?_) ?_ ?_
 rotate_left
 ·
  show Act.put _ (some 6) _ = _
  simp only [Act.put, List.setIfInBounds_toArray, List.set_cons_zero, List.set_cons_succ, i64_w, i32_w]
  rfl
 have hix := fun w' : World => index_mask a0_1 HOK.out.1 HOK.out.2 w'
 refine pure_ (i := 3) (N := some 9) (v := ?_) (a' := ?_) #[true, true, true, true, false] rfl rfl (by kernel_rfl) (fun _ _ _ h => h) (Or.inl ⟨by rfl, ?_⟩) ?_ ?_
 rotate_left
 ·
  intro w'
  go_simp
  with_reducible rfl
 rotate_left
 ·
  simp only [Act.put, List.setIfInBounds_toArray, List.set_cons_zero, List.set_cons_succ, i64_w, i32_w]
  rfl
 refine pure_ (i := 4) (N := some 5) (v := ?_) (a' := ?_) #[true, true, true, true, true] rfl rfl (by kernel_rfl) (fun _ _ _ h => h) (Or.inl ⟨by rfl, ?_⟩) ?_ ?_
 rotate_left
 ·
  intro w'
  go_simp
  with_reducible rfl
 rotate_left
 ·
  simp only [Act.put, List.setIfInBounds_toArray, List.set_cons_zero, List.set_cons_succ, i64_w, i32_w]
  rfl
 refine done_ (by kernel_rfl) ?_
 clear hix
 have hz0 := (blk_cell BK2.out 0).trans rfl
 have hz1 := (blk_cell BK2.out 1).trans rfl
 go_wp2
 go_ret
 exact ⟨by first | rfl | (simp; done) | (simp; rfl), HB.out⟩

end Go.Proofs.Ytbbafhpnlmmjjaa.HA
