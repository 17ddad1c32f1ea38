/- What is proved: each Go function of this text answers as the plain Lean function beside it (a law: its given row, out of the plain statement). Conditions: those that stand in each theorem. Written by my drive.py, which calls the printer of the kit for what that covers. -/
import Derived.Test.YtgolimfljndnmaaHVx0
import Derived.Test.YtgolimfljndnmaaHVx1
import Derived.Test.YtgolimfljndnmaaHVx2
namespace Go.Proofs.Ytgolimfljndnmaa.HV
open Go.RowKit Go.Proofs.YtgolimfljndnmaaW.PrintWords Go.Proofs.YtgolimfljndnmaaW.PrintLast Go.Proofs.YtgolimfljndnmaaW.PrintMore
attribute [local go_sem] max2_int min2_int max_two min_two max_three min_three max_four min_four   -- for this text's walks alone
set_option linter.unusedVariables false
set_option linter.unusedSimpArgs false

/-! ### ipv4_Put: function 16 -/
def ipv4_Put.f (k : Nat) (a0_0 : Int) (a0_1 : Int) (a0_2 : Bool) (a0_3 : Bool) (a0_4 : Int) (a0_5 : Int) (a0_6 : Int) (a0_7 : Int) (a0_8 : Int) (a0_9 : ByteArray) (a1 : ByteArray) : Option (ByteArray × Int) := (ipv4_Check.f a0_0 a0_1 a0_2 a0_3 a0_4 a0_5 a0_6 a0_7 a0_8 a0_9).bind fun t115 => (if t115 = true then (if (a1.size : Int) > 2000 then (some ((⟨#[]⟩ : ByteArray), 5)) else ((sum_Big.f k (Go.bits .or .i64 64 (wrap64 (Int.tdiv (wrap64 (20 + (a0_9.size : Int))) 4))) 1).bind fun t116 => ((sum_Big.f k a0_0 1).bind fun t117 => (if t116.size + t117.size ≤ 9223372036854775807 then ((sum_Big.f k (wrap64 ((wrap64 (20 + (a0_9.size : Int))) + (a1.size : Int))) 2).bind fun t118 => (if (t116 ++ t117).size + t118.size ≤ 9223372036854775807 then ((sum_Big.f k a0_1 2).bind fun t119 => (if ((t116 ++ t117) ++ t118).size + t119.size ≤ 9223372036854775807 then ((ipv4_cutting.f a0_0 a0_1 a0_2 a0_3 a0_4 a0_5 a0_6 a0_7 a0_8 a0_9).bind fun t120 => ((sum_Big.f k t120 2).bind fun t121 => (if (((t116 ++ t117) ++ t118) ++ t119).size + t121.size ≤ 9223372036854775807 then ((sum_Big.f k a0_5 1).bind fun t122 => (if ((((t116 ++ t117) ++ t118) ++ t119) ++ t121).size + t122.size ≤ 9223372036854775807 then ((sum_Big.f k a0_6 1).bind fun t123 => (if (((((t116 ++ t117) ++ t118) ++ t119) ++ t121) ++ t122).size + t123.size ≤ 9223372036854775807 then ((sum_Big.f k (wrap64 (a0_7)) 4).bind fun t124 => ((sum_Big.f k (wrap64 (a0_8)) 4).bind fun t125 => (if t124.size + t125.size ≤ 9223372036854775807 then (if (t124 ++ t125).size + a0_9.size ≤ 9223372036854775807 then ((sum_Of.f k (([(((((t116 ++ t117) ++ t118) ++ t119) ++ t121) ++ t122) ++ t123, (⟨#[0, 0]⟩ : ByteArray), (t124 ++ t125) ++ a0_9] : List ByteArray))).bind fun t129 => ((sum_Big.f k t129 2).bind fun t130 => (if ((((((t116 ++ t117) ++ t118) ++ t119) ++ t121) ++ t122) ++ t123).size + t130.size ≤ 9223372036854775807 then (if (((((((t116 ++ t117) ++ t118) ++ t119) ++ t121) ++ t122) ++ t123) ++ t130).size + ((t124 ++ t125) ++ a0_9).size ≤ 9223372036854775807 then (if ((((((((t116 ++ t117) ++ t118) ++ t119) ++ t121) ++ t122) ++ t123) ++ t130) ++ ((t124 ++ t125) ++ a0_9)).size + a1.size ≤ 9223372036854775807 then (some (((((((((t116 ++ t117) ++ t118) ++ t119) ++ t121) ++ t122) ++ t123) ++ t130) ++ ((t124 ++ t125) ++ a0_9)) ++ a1, 0)) else (none)) else (none)) else (none)))) else (none)) else (none)))) else (none))) else (none))) else (none)))) else (none))) else (none))) else (none))))) else (some ((⟨#[]⟩ : ByteArray), 1)))
theorem ipv4_Put.mono : ∀ a0 a1 a2 a3 a4 a5 a6 a7 a8 a9 a10 k, LeO (ipv4_Put.f k a0 a1 a2 a3 a4 a5 a6 a7 a8 a9 a10) (ipv4_Put.f (k + 1) a0 a1 a2 a3 a4 a5 a6 a7 a8 a9 a10) := by
 intro a0 a1 a2 a3 a4 a5 a6 a7 a8 a9 a10 k
 unfold ipv4_Put.f
 repeat' first
   | (with_reducible exact sum_Big.mono _ _ _)
   | (with_reducible exact sum_Of.mono _ _)
   | (with_reducible exact LeO.refl _)
   | (with_reducible exact LeO.none _)
   | (with_reducible refine LeO.ite ?_ ?_)
   | (with_reducible refine LeO.bind ?_ (fun _ => ?_))
   | exact sum_Big.mono _ _ _
   | exact sum_Of.mono _ _
   | exact LeO.none _
   | refine LeO.ite ?_ ?_
   | refine LeO.bind ?_ (fun _ => ?_)
def ipv4_Put.T6 : Bool × List (List Nat × List Nat) := (true, [([], []), ([0], [0]), ([1], [1]), ([2], [2]), ([], []), ([4], [4]), ([5, 3], [5]), ([3, 6], [3, 6]), ([], []), ([], []), ([9], [9]), ([8, 10], [8, 10]), ([11, 6], [11]), ([7, 12], [7, 12]), ([], []), ([14], [14]), ([15, 12], [15]), ([13, 16], [13, 16]), ([], []), ([18, 16], [18]), ([19, 19], [19]), ([17, 20], [17, 20]), ([], []), ([22], [22]), ([23, 20], [23]), ([21, 24], [21, 24]), ([], []), ([26], [26]), ([27, 24], [27]), ([25, 28], [25, 28]), ([29, 28, 0, 1, 2, 3, 4, 5, 6, 7, 8, 9, 10, 11, 12, 13, 14, 15, 16, 17, 18, 19, 20, 21, 22, 23, 24, 25, 26, 27, 28, 29], [29])])
def ipv4_Put.B6 : List Nat := [0, 1, 3, 7, 0, 16, 63, 127, 0, 0, 512, 1792, 3967, 8191, 0, 16384, 57215, 131071, 0, 384895, 909183, 2097151, 0, 4194304, 14540671, 33554431, 0, 67108864, 232644479, 536870911, 1073741823]
theorem ipv4_Put.tab6 : rtab .any (opsOf Try.f16 6) = ipv4_Put.T6 := by kernel_rfl
theorem ipv4_Put.bits6 : waitsOk ipv4_Put.T6.2 ipv4_Put.B6 = true := by kernel_rfl
def ipv4_Put.T7 : Bool × List (List Nat × List Nat) := (true, [([], []), ([0], [0]), ([1], [1]), ([2], [2]), ([], []), ([4], [4]), ([5], [5]), ([6, 3], [6]), ([3, 7], [3, 7]), ([], []), ([9], [9]), ([8, 10], [8, 10]), ([11, 7, 0, 1, 2, 3, 4, 5, 6, 7, 8, 9, 10, 11], [11])])
def ipv4_Put.B7 : List Nat := [0, 1, 3, 7, 0, 16, 48, 127, 255, 0, 512, 2047, 4095]
theorem ipv4_Put.tab7 : rtab .any (opsOf Try.f16 7) = ipv4_Put.T7 := by kernel_rfl
theorem ipv4_Put.bits7 : waitsOk ipv4_Put.T7.2 ipv4_Put.B7 = true := by kernel_rfl
set_option maxHeartbeats 8000000 in
set_option maxRecDepth 100000 in
theorem ipv4_Put.calls (k : Nat) (a0_0 : Int) (a0_1 : Int) (a0_2 : Bool) (a0_3 : Bool) (a0_4 : Int) (a0_5 : Int) (a0_6 : Int) (a0_7 : Int) (a0_8 : Int) (a0_9 : ByteArray) (a1 : ByteArray) (r1 : ByteArray) (r2 : Int) (w : World) (h : ipv4_Put.f k a0_0 a0_1 a0_2 a0_3 a0_4 a0_5 a0_6 a0_7 a0_8 a0_9 a1 = some (r1, r2)) :
  Calls Try.prog 16 #[.agg #[.int .i64 a0_0, .int .i64 a0_1, .bool a0_2, .bool a0_3, .int .i64 a0_4, .int .i64 a0_5, .int .i64 a0_6, .int .u32 a0_7, .int .u32 a0_8, .string a0_9], .string a1] w fun e w' => e = .returned (.tuple #[.string r1, .int .i64 r2]) ∧ Below w.heap.size w w' := by
 have hu24 := Try.underlying24
 have HB := Aside0.mk (Below.refl w.heap.size w)
 have H : ((ipv4_Check.f a0_0 a0_1 a0_2 a0_3 a0_4 a0_5 a0_6 a0_7 a0_8 a0_9).bind fun t115 => (if t115 = true then (if (a1.size : Int) > 2000 then (some ((⟨#[]⟩ : ByteArray), 5)) else ((sum_Big.f k (Go.bits .or .i64 64 (wrap64 (Int.tdiv (wrap64 (20 + (a0_9.size : Int))) 4))) 1).bind fun t116 => ((sum_Big.f k a0_0 1).bind fun t117 => (if t116.size + t117.size ≤ 9223372036854775807 then ((sum_Big.f k (wrap64 ((wrap64 (20 + (a0_9.size : Int))) + (a1.size : Int))) 2).bind fun t118 => (if (t116 ++ t117).size + t118.size ≤ 9223372036854775807 then ((sum_Big.f k a0_1 2).bind fun t119 => (if ((t116 ++ t117) ++ t118).size + t119.size ≤ 9223372036854775807 then ((ipv4_cutting.f a0_0 a0_1 a0_2 a0_3 a0_4 a0_5 a0_6 a0_7 a0_8 a0_9).bind fun t120 => ((sum_Big.f k t120 2).bind fun t121 => (if (((t116 ++ t117) ++ t118) ++ t119).size + t121.size ≤ 9223372036854775807 then ((sum_Big.f k a0_5 1).bind fun t122 => (if ((((t116 ++ t117) ++ t118) ++ t119) ++ t121).size + t122.size ≤ 9223372036854775807 then ((sum_Big.f k a0_6 1).bind fun t123 => (if (((((t116 ++ t117) ++ t118) ++ t119) ++ t121) ++ t122).size + t123.size ≤ 9223372036854775807 then ((sum_Big.f k (wrap64 (a0_7)) 4).bind fun t124 => ((sum_Big.f k (wrap64 (a0_8)) 4).bind fun t125 => (if t124.size + t125.size ≤ 9223372036854775807 then (if (t124 ++ t125).size + a0_9.size ≤ 9223372036854775807 then ((sum_Of.f k (([(((((t116 ++ t117) ++ t118) ++ t119) ++ t121) ++ t122) ++ t123, (⟨#[0, 0]⟩ : ByteArray), (t124 ++ t125) ++ a0_9] : List ByteArray))).bind fun t129 => ((sum_Big.f k t129 2).bind fun t130 => (if ((((((t116 ++ t117) ++ t118) ++ t119) ++ t121) ++ t122) ++ t123).size + t130.size ≤ 9223372036854775807 then (if (((((((t116 ++ t117) ++ t118) ++ t119) ++ t121) ++ t122) ++ t123) ++ t130).size + ((t124 ++ t125) ++ a0_9).size ≤ 9223372036854775807 then (if ((((((((t116 ++ t117) ++ t118) ++ t119) ++ t121) ++ t122) ++ t123) ++ t130) ++ ((t124 ++ t125) ++ a0_9)).size + a1.size ≤ 9223372036854775807 then (some (((((((((t116 ++ t117) ++ t118) ++ t119) ++ t121) ++ t122) ++ t123) ++ t130) ++ ((t124 ++ t125) ++ a0_9)) ++ a1, 0)) else (none)) else (none)) else (none)))) else (none)) else (none)))) else (none))) else (none))) else (none)))) else (none))) else (none))) else (none))))) else (some ((⟨#[]⟩ : ByteArray), 1)))) = some (r1, r2) := h
 clear h
 replace H := Option.bind_eq_some_iff.mp H
 obtain ⟨t115, A30, H⟩ := H
 replace H : (if t115 = true then (if (a1.size : Int) > 2000 then (some ((⟨#[]⟩ : ByteArray), 5)) else ((sum_Big.f k (Go.bits .or .i64 64 (wrap64 (Int.tdiv (wrap64 (20 + (a0_9.size : Int))) 4))) 1).bind fun t116 => ((sum_Big.f k a0_0 1).bind fun t117 => (if t116.size + t117.size ≤ 9223372036854775807 then ((sum_Big.f k (wrap64 ((wrap64 (20 + (a0_9.size : Int))) + (a1.size : Int))) 2).bind fun t118 => (if (t116 ++ t117).size + t118.size ≤ 9223372036854775807 then ((sum_Big.f k a0_1 2).bind fun t119 => (if ((t116 ++ t117) ++ t118).size + t119.size ≤ 9223372036854775807 then ((ipv4_cutting.f a0_0 a0_1 a0_2 a0_3 a0_4 a0_5 a0_6 a0_7 a0_8 a0_9).bind fun t120 => ((sum_Big.f k t120 2).bind fun t121 => (if (((t116 ++ t117) ++ t118) ++ t119).size + t121.size ≤ 9223372036854775807 then ((sum_Big.f k a0_5 1).bind fun t122 => (if ((((t116 ++ t117) ++ t118) ++ t119) ++ t121).size + t122.size ≤ 9223372036854775807 then ((sum_Big.f k a0_6 1).bind fun t123 => (if (((((t116 ++ t117) ++ t118) ++ t119) ++ t121) ++ t122).size + t123.size ≤ 9223372036854775807 then ((sum_Big.f k (wrap64 (a0_7)) 4).bind fun t124 => ((sum_Big.f k (wrap64 (a0_8)) 4).bind fun t125 => (if t124.size + t125.size ≤ 9223372036854775807 then (if (t124 ++ t125).size + a0_9.size ≤ 9223372036854775807 then ((sum_Of.f k (([(((((t116 ++ t117) ++ t118) ++ t119) ++ t121) ++ t122) ++ t123, (⟨#[0, 0]⟩ : ByteArray), (t124 ++ t125) ++ a0_9] : List ByteArray))).bind fun t129 => ((sum_Big.f k t129 2).bind fun t130 => (if ((((((t116 ++ t117) ++ t118) ++ t119) ++ t121) ++ t122) ++ t123).size + t130.size ≤ 9223372036854775807 then (if (((((((t116 ++ t117) ++ t118) ++ t119) ++ t121) ++ t122) ++ t123) ++ t130).size + ((t124 ++ t125) ++ a0_9).size ≤ 9223372036854775807 then (if ((((((((t116 ++ t117) ++ t118) ++ t119) ++ t121) ++ t122) ++ t123) ++ t130) ++ ((t124 ++ t125) ++ a0_9)).size + a1.size ≤ 9223372036854775807 then (some (((((((((t116 ++ t117) ++ t118) ++ t119) ++ t121) ++ t122) ++ t123) ++ t130) ++ ((t124 ++ t125) ++ a0_9)) ++ a1, 0)) else (none)) else (none)) else (none)))) else (none)) else (none)))) else (none))) else (none))) else (none)))) else (none))) else (none))) else (none))))) else (some ((⟨#[]⟩ : ByteArray), 1))) = some (r1, r2) := H
 have A3 := Aside0.mk A30
 clear A30
 by_cases c4 : t115 = true
 ·
  subst c4
  have H1 : (if (a1.size : Int) > 2000 then (some ((⟨#[]⟩ : ByteArray), 5)) else ((sum_Big.f k (Go.bits .or .i64 64 (wrap64 (Int.tdiv (wrap64 (20 + (a0_9.size : Int))) 4))) 1).bind fun t116 => ((sum_Big.f k a0_0 1).bind fun t117 => (if t116.size + t117.size ≤ 9223372036854775807 then ((sum_Big.f k (wrap64 ((wrap64 (20 + (a0_9.size : Int))) + (a1.size : Int))) 2).bind fun t118 => (if (t116 ++ t117).size + t118.size ≤ 9223372036854775807 then ((sum_Big.f k a0_1 2).bind fun t119 => (if ((t116 ++ t117) ++ t118).size + t119.size ≤ 9223372036854775807 then ((ipv4_cutting.f a0_0 a0_1 a0_2 a0_3 a0_4 a0_5 a0_6 a0_7 a0_8 a0_9).bind fun t120 => ((sum_Big.f k t120 2).bind fun t121 => (if (((t116 ++ t117) ++ t118) ++ t119).size + t121.size ≤ 9223372036854775807 then ((sum_Big.f k a0_5 1).bind fun t122 => (if ((((t116 ++ t117) ++ t118) ++ t119) ++ t121).size + t122.size ≤ 9223372036854775807 then ((sum_Big.f k a0_6 1).bind fun t123 => (if (((((t116 ++ t117) ++ t118) ++ t119) ++ t121) ++ t122).size + t123.size ≤ 9223372036854775807 then ((sum_Big.f k (wrap64 (a0_7)) 4).bind fun t124 => ((sum_Big.f k (wrap64 (a0_8)) 4).bind fun t125 => (if t124.size + t125.size ≤ 9223372036854775807 then (if (t124 ++ t125).size + a0_9.size ≤ 9223372036854775807 then ((sum_Of.f k (([(((((t116 ++ t117) ++ t118) ++ t119) ++ t121) ++ t122) ++ t123, (⟨#[0, 0]⟩ : ByteArray), (t124 ++ t125) ++ a0_9] : List ByteArray))).bind fun t129 => ((sum_Big.f k t129 2).bind fun t130 => (if ((((((t116 ++ t117) ++ t118) ++ t119) ++ t121) ++ t122) ++ t123).size + t130.size ≤ 9223372036854775807 then (if (((((((t116 ++ t117) ++ t118) ++ t119) ++ t121) ++ t122) ++ t123) ++ t130).size + ((t124 ++ t125) ++ a0_9).size ≤ 9223372036854775807 then (if ((((((((t116 ++ t117) ++ t118) ++ t119) ++ t121) ++ t122) ++ t123) ++ t130) ++ ((t124 ++ t125) ++ a0_9)).size + a1.size ≤ 9223372036854775807 then (some (((((((((t116 ++ t117) ++ t118) ++ t119) ++ t121) ++ t122) ++ t123) ++ t130) ++ ((t124 ++ t125) ++ a0_9)) ++ a1, 0)) else (none)) else (none)) else (none)))) else (none)) else (none)))) else (none))) else (none))) else (none)))) else (none))) else (none))) else (none))))) = some (r1, r2) := by rw [if_pos rfl] at H; exact H
  clear H
  have H := H1
  clear H1
  by_cases c5 : (a1.size : Int) > 2000
  ·
   rw [if_pos c5] at H
   have c5b0 : decide (2000 < (a1.size : Int)) = true := decide_eq_true c5
   have c5b1 : decide (2000 < a1.size) = true := decide_eq_true (by omega)
   clear c5
   simp only [Option.some.injEq, Prod.mk.injEq] at H
   obtain ⟨rfl, rfl⟩ := H
   go_enter Try.func16, Try.ntmps16
   go_wp2_with (first | ((with_reducible refine gate_dst (N := 2) rfl ?_); refine box_event ?hg (N := 2) ?hd (cs := #[.int .i64 a0_0, .int .i64 a0_1, .bool a0_2, .bool a0_3, .int .i64 a0_4, .int .i64 a0_5, .int .i64 a0_6, .int .u32 a0_7, .int .u32 a0_8, .string a0_9]) (t := 24) ?hr ?_; (case hd => rfl); (case hg => rfl); (case hr => first | (go_simp; done) | (go_simp; rfl)); intro gb114 hg w6 hbox hb; have n0_ := Aside0.mk (below_step (by repeat (first | (with_reducible first | exact HB.out | apply below_alloc | apply pw_below_drewN | apply below_drew1) | exact HB.out)) hb); have n1_ := Aside0.mk (hbox); have n2_ := Aside0.mk ((by rw [hg]; exact (below_size (by repeat (first | (with_reducible first | exact HB.out | apply below_alloc | apply pw_below_drewN | apply below_drew1) | exact HB.out))) : w.heap.size ≤ gb114)); have n3_ := Aside0.mk ((by rw [hg]; exact (below_size (by repeat (first | (with_reducible first | exact HB.out | apply below_alloc | apply pw_below_drewN | apply below_drew1) | exact HB.out))) : w.heap.size ≤ gb114)); clear HB; have HB := n0_; have BK114 := n1_; have GW114 := n2_; have GE114 := n3_; clear n0_ n1_ n2_ n3_; clear hb hbox hg; have hcz7_0 : w6.cell? ⟨gb114, 0, none⟩ = some (.int .i64 a0_0) := (blk_cell BK114.out 0).trans rfl; have hcz7_1 : w6.cell? ⟨gb114, 1, none⟩ = some (.int .i64 a0_1) := (blk_cell BK114.out 1).trans rfl; have hcz7_2 : w6.cell? ⟨gb114, 2, none⟩ = some (.bool a0_2) := (blk_cell BK114.out 2).trans rfl; have hcz7_3 : w6.cell? ⟨gb114, 3, none⟩ = some (.bool a0_3) := (blk_cell BK114.out 3).trans rfl; have hcz7_4 : w6.cell? ⟨gb114, 4, none⟩ = some (.int .i64 a0_4) := (blk_cell BK114.out 4).trans rfl; have hcz7_5 : w6.cell? ⟨gb114, 5, none⟩ = some (.int .i64 a0_5) := (blk_cell BK114.out 5).trans rfl; have hcz7_6 : w6.cell? ⟨gb114, 6, none⟩ = some (.int .i64 a0_6) := (blk_cell BK114.out 6).trans rfl; have hcz7_7 : w6.cell? ⟨gb114, 7, none⟩ = some (.int .u32 a0_7) := (blk_cell BK114.out 7).trans rfl; have hcz7_8 : w6.cell? ⟨gb114, 8, none⟩ = some (.int .u32 a0_8) := (blk_cell BK114.out 8).trans rfl; have hcz7_9 : w6.cell? ⟨gb114, 9, none⟩ = some (.string a0_9) := (blk_cell BK114.out 9).trans rfl; have hfz7_0 := blk_frozen BK114.out 0; have hfz7_1 := blk_frozen BK114.out 1; have hfz7_2 := blk_frozen BK114.out 2; have hfz7_3 := blk_frozen BK114.out 3; have hfz7_4 := blk_frozen BK114.out 4; have hfz7_5 := blk_frozen BK114.out 5; have hfz7_6 := blk_frozen BK114.out 6; have hfz7_7 := blk_frozen BK114.out 7; have hfz7_8 := blk_frozen BK114.out 8; have hfz7_9 := blk_frozen BK114.out 9) | ((with_reducible refine gate_callee (f := 20) rfl ?_); refine goesL_ (some 11) rfl rfl Try.func20 (by kernel_rfl) rfl #[.agg #[.int .i64 a0_0, .int .i64 a0_1, .bool a0_2, .bool a0_3, .int .i64 a0_4, .int .i64 a0_5, .int .i64 a0_6, .int .u32 a0_7, .int .u32 a0_8, .string a0_9]] rfl (by (try simp only [List.map_toArray, List.map_cons, List.map_nil]); first | done | rfl | (simp only [List.length_drop, List.length_take]; rfl)) ?_; (with_reducible refine (ipv4_Check.calls a0_0 a0_1 a0_2 a0_3 a0_4 a0_5 a0_6 a0_7 a0_8 a0_9 true _ A3.out).mono ?_); rintro e w8 ⟨rfl, hb⟩; refine ⟨_, rfl, ?_⟩; have n0_ := Aside0.mk (blk_below (g := gb114) (o := .cells #[.int .i64 a0_0, .int .i64 a0_1, .bool a0_2, .bool a0_3, .int .i64 a0_4, .int .i64 a0_5, .int .i64 a0_6, .int .u32 a0_7, .int .u32 a0_8, .string a0_9] 24 (0, 0)) (by (with_reducible repeat (first | refine blk_drewN ?_ _ | refine blk_drew ?_ | refine blk_alloc ?_ _)); exact BK114.out) hb); have n1_ := Aside0.mk (below_step (by repeat (first | (with_reducible first | exact HB.out | apply below_alloc | apply pw_below_drewN | apply below_drew1 | refine below_set ?_ GE114.out) | exact HB.out)) hb); clear BK114; clear HB; have BK114 := n0_; have HB := n1_; clear n0_ n1_; (try clear hb); (try clear hb2); (try clear hk); (try clear hi)))
   go_ret2
   exact ⟨by first | rfl | (simp [errW_none, errW_some] <;> rfl) | (simp [*, errW_none, errW_some] <;> rfl), by repeat (first | (with_reducible first | exact HB.out | apply below_alloc | apply pw_below_drewN | apply below_drew1 | refine below_set ?_ GE114.out) | exact HB.out)⟩
  ·
   rw [if_neg c5] at H
   have c5b0 : decide (2000 < (a1.size : Int)) = false := decide_eq_false c5
   have c5b1 : decide (2000 < a1.size) = false := decide_eq_false (by omega)
   clear c5
   replace H := Option.bind_eq_some_iff.mp H
   obtain ⟨t116, A90, H⟩ := H
   replace H : ((sum_Big.f k a0_0 1).bind fun t117 => (if t116.size + t117.size ≤ 9223372036854775807 then ((sum_Big.f k (wrap64 ((wrap64 (20 + (a0_9.size : Int))) + (a1.size : Int))) 2).bind fun t118 => (if (t116 ++ t117).size + t118.size ≤ 9223372036854775807 then ((sum_Big.f k a0_1 2).bind fun t119 => (if ((t116 ++ t117) ++ t118).size + t119.size ≤ 9223372036854775807 then ((ipv4_cutting.f a0_0 a0_1 a0_2 a0_3 a0_4 a0_5 a0_6 a0_7 a0_8 a0_9).bind fun t120 => ((sum_Big.f k t120 2).bind fun t121 => (if (((t116 ++ t117) ++ t118) ++ t119).size + t121.size ≤ 9223372036854775807 then ((sum_Big.f k a0_5 1).bind fun t122 => (if ((((t116 ++ t117) ++ t118) ++ t119) ++ t121).size + t122.size ≤ 9223372036854775807 then ((sum_Big.f k a0_6 1).bind fun t123 => (if (((((t116 ++ t117) ++ t118) ++ t119) ++ t121) ++ t122).size + t123.size ≤ 9223372036854775807 then ((sum_Big.f k (wrap64 (a0_7)) 4).bind fun t124 => ((sum_Big.f k (wrap64 (a0_8)) 4).bind fun t125 => (if t124.size + t125.size ≤ 9223372036854775807 then (if (t124 ++ t125).size + a0_9.size ≤ 9223372036854775807 then ((sum_Of.f k (([(((((t116 ++ t117) ++ t118) ++ t119) ++ t121) ++ t122) ++ t123, (⟨#[0, 0]⟩ : ByteArray), (t124 ++ t125) ++ a0_9] : List ByteArray))).bind fun t129 => ((sum_Big.f k t129 2).bind fun t130 => (if ((((((t116 ++ t117) ++ t118) ++ t119) ++ t121) ++ t122) ++ t123).size + t130.size ≤ 9223372036854775807 then (if (((((((t116 ++ t117) ++ t118) ++ t119) ++ t121) ++ t122) ++ t123) ++ t130).size + ((t124 ++ t125) ++ a0_9).size ≤ 9223372036854775807 then (if ((((((((t116 ++ t117) ++ t118) ++ t119) ++ t121) ++ t122) ++ t123) ++ t130) ++ ((t124 ++ t125) ++ a0_9)).size + a1.size ≤ 9223372036854775807 then (some (((((((((t116 ++ t117) ++ t118) ++ t119) ++ t121) ++ t122) ++ t123) ++ t130) ++ ((t124 ++ t125) ++ a0_9)) ++ a1, 0)) else (none)) else (none)) else (none)))) else (none)) else (none)))) else (none))) else (none))) else (none)))) else (none))) else (none))) else (none))) = some (r1, r2) := H
   have A9 := Aside0.mk A90
   clear A90
   replace H := Option.bind_eq_some_iff.mp H
   obtain ⟨t117, A100, H⟩ := H
   replace H : (if t116.size + t117.size ≤ 9223372036854775807 then ((sum_Big.f k (wrap64 ((wrap64 (20 + (a0_9.size : Int))) + (a1.size : Int))) 2).bind fun t118 => (if (t116 ++ t117).size + t118.size ≤ 9223372036854775807 then ((sum_Big.f k a0_1 2).bind fun t119 => (if ((t116 ++ t117) ++ t118).size + t119.size ≤ 9223372036854775807 then ((ipv4_cutting.f a0_0 a0_1 a0_2 a0_3 a0_4 a0_5 a0_6 a0_7 a0_8 a0_9).bind fun t120 => ((sum_Big.f k t120 2).bind fun t121 => (if (((t116 ++ t117) ++ t118) ++ t119).size + t121.size ≤ 9223372036854775807 then ((sum_Big.f k a0_5 1).bind fun t122 => (if ((((t116 ++ t117) ++ t118) ++ t119) ++ t121).size + t122.size ≤ 9223372036854775807 then ((sum_Big.f k a0_6 1).bind fun t123 => (if (((((t116 ++ t117) ++ t118) ++ t119) ++ t121) ++ t122).size + t123.size ≤ 9223372036854775807 then ((sum_Big.f k (wrap64 (a0_7)) 4).bind fun t124 => ((sum_Big.f k (wrap64 (a0_8)) 4).bind fun t125 => (if t124.size + t125.size ≤ 9223372036854775807 then (if (t124 ++ t125).size + a0_9.size ≤ 9223372036854775807 then ((sum_Of.f k (([(((((t116 ++ t117) ++ t118) ++ t119) ++ t121) ++ t122) ++ t123, (⟨#[0, 0]⟩ : ByteArray), (t124 ++ t125) ++ a0_9] : List ByteArray))).bind fun t129 => ((sum_Big.f k t129 2).bind fun t130 => (if ((((((t116 ++ t117) ++ t118) ++ t119) ++ t121) ++ t122) ++ t123).size + t130.size ≤ 9223372036854775807 then (if (((((((t116 ++ t117) ++ t118) ++ t119) ++ t121) ++ t122) ++ t123) ++ t130).size + ((t124 ++ t125) ++ a0_9).size ≤ 9223372036854775807 then (if ((((((((t116 ++ t117) ++ t118) ++ t119) ++ t121) ++ t122) ++ t123) ++ t130) ++ ((t124 ++ t125) ++ a0_9)).size + a1.size ≤ 9223372036854775807 then (some (((((((((t116 ++ t117) ++ t118) ++ t119) ++ t121) ++ t122) ++ t123) ++ t130) ++ ((t124 ++ t125) ++ a0_9)) ++ a1, 0)) else (none)) else (none)) else (none)))) else (none)) else (none)))) else (none))) else (none))) else (none)))) else (none))) else (none))) else (none)) = some (r1, r2) := H
   have A10 := Aside0.mk A100
   clear A100
   by_cases c11 : t116.size + t117.size ≤ 9223372036854775807
   ·
    rw [if_pos c11] at H
    have c11b0 := eq_true c11
    have c11b1 : decide (t116.size + t117.size ≤ 9223372036854775807) = true := decide_eq_true c11
    try have c11b2 : (9223372036854775807 < t116.size + t117.size) = False := eq_false (Nat.not_lt.2 c11)
    replace H := Option.bind_eq_some_iff.mp H
    obtain ⟨t118, A120, H⟩ := H
    replace H : (if (t116 ++ t117).size + t118.size ≤ 9223372036854775807 then ((sum_Big.f k a0_1 2).bind fun t119 => (if ((t116 ++ t117) ++ t118).size + t119.size ≤ 9223372036854775807 then ((ipv4_cutting.f a0_0 a0_1 a0_2 a0_3 a0_4 a0_5 a0_6 a0_7 a0_8 a0_9).bind fun t120 => ((sum_Big.f k t120 2).bind fun t121 => (if (((t116 ++ t117) ++ t118) ++ t119).size + t121.size ≤ 9223372036854775807 then ((sum_Big.f k a0_5 1).bind fun t122 => (if ((((t116 ++ t117) ++ t118) ++ t119) ++ t121).size + t122.size ≤ 9223372036854775807 then ((sum_Big.f k a0_6 1).bind fun t123 => (if (((((t116 ++ t117) ++ t118) ++ t119) ++ t121) ++ t122).size + t123.size ≤ 9223372036854775807 then ((sum_Big.f k (wrap64 (a0_7)) 4).bind fun t124 => ((sum_Big.f k (wrap64 (a0_8)) 4).bind fun t125 => (if t124.size + t125.size ≤ 9223372036854775807 then (if (t124 ++ t125).size + a0_9.size ≤ 9223372036854775807 then ((sum_Of.f k (([(((((t116 ++ t117) ++ t118) ++ t119) ++ t121) ++ t122) ++ t123, (⟨#[0, 0]⟩ : ByteArray), (t124 ++ t125) ++ a0_9] : List ByteArray))).bind fun t129 => ((sum_Big.f k t129 2).bind fun t130 => (if ((((((t116 ++ t117) ++ t118) ++ t119) ++ t121) ++ t122) ++ t123).size + t130.size ≤ 9223372036854775807 then (if (((((((t116 ++ t117) ++ t118) ++ t119) ++ t121) ++ t122) ++ t123) ++ t130).size + ((t124 ++ t125) ++ a0_9).size ≤ 9223372036854775807 then (if ((((((((t116 ++ t117) ++ t118) ++ t119) ++ t121) ++ t122) ++ t123) ++ t130) ++ ((t124 ++ t125) ++ a0_9)).size + a1.size ≤ 9223372036854775807 then (some (((((((((t116 ++ t117) ++ t118) ++ t119) ++ t121) ++ t122) ++ t123) ++ t130) ++ ((t124 ++ t125) ++ a0_9)) ++ a1, 0)) else (none)) else (none)) else (none)))) else (none)) else (none)))) else (none))) else (none))) else (none)))) else (none))) else (none)) = some (r1, r2) := H
    have A12 := Aside0.mk A120
    clear A120
    by_cases c13 : (t116 ++ t117).size + t118.size ≤ 9223372036854775807
    ·
     rw [if_pos c13] at H
     have c13b0 := eq_true c13
     have c13b1 : decide ((t116 ++ t117).size + t118.size ≤ 9223372036854775807) = true := decide_eq_true c13
     try have c13b2 : (9223372036854775807 < (t116 ++ t117).size + t118.size) = False := eq_false (Nat.not_lt.2 c13)
     have c13b3 : (9223372036854775807 < t116.size + t117.size + t118.size) = False := eq_false (Nat.not_lt.2 (by have z_ := c13; simp only [ByteArray.size_append] at z_; exact z_))
     replace H := Option.bind_eq_some_iff.mp H
     obtain ⟨t119, A140, H⟩ := H
     replace H : (if ((t116 ++ t117) ++ t118).size + t119.size ≤ 9223372036854775807 then ((ipv4_cutting.f a0_0 a0_1 a0_2 a0_3 a0_4 a0_5 a0_6 a0_7 a0_8 a0_9).bind fun t120 => ((sum_Big.f k t120 2).bind fun t121 => (if (((t116 ++ t117) ++ t118) ++ t119).size + t121.size ≤ 9223372036854775807 then ((sum_Big.f k a0_5 1).bind fun t122 => (if ((((t116 ++ t117) ++ t118) ++ t119) ++ t121).size + t122.size ≤ 9223372036854775807 then ((sum_Big.f k a0_6 1).bind fun t123 => (if (((((t116 ++ t117) ++ t118) ++ t119) ++ t121) ++ t122).size + t123.size ≤ 9223372036854775807 then ((sum_Big.f k (wrap64 (a0_7)) 4).bind fun t124 => ((sum_Big.f k (wrap64 (a0_8)) 4).bind fun t125 => (if t124.size + t125.size ≤ 9223372036854775807 then (if (t124 ++ t125).size + a0_9.size ≤ 9223372036854775807 then ((sum_Of.f k (([(((((t116 ++ t117) ++ t118) ++ t119) ++ t121) ++ t122) ++ t123, (⟨#[0, 0]⟩ : ByteArray), (t124 ++ t125) ++ a0_9] : List ByteArray))).bind fun t129 => ((sum_Big.f k t129 2).bind fun t130 => (if ((((((t116 ++ t117) ++ t118) ++ t119) ++ t121) ++ t122) ++ t123).size + t130.size ≤ 9223372036854775807 then (if (((((((t116 ++ t117) ++ t118) ++ t119) ++ t121) ++ t122) ++ t123) ++ t130).size + ((t124 ++ t125) ++ a0_9).size ≤ 9223372036854775807 then (if ((((((((t116 ++ t117) ++ t118) ++ t119) ++ t121) ++ t122) ++ t123) ++ t130) ++ ((t124 ++ t125) ++ a0_9)).size + a1.size ≤ 9223372036854775807 then (some (((((((((t116 ++ t117) ++ t118) ++ t119) ++ t121) ++ t122) ++ t123) ++ t130) ++ ((t124 ++ t125) ++ a0_9)) ++ a1, 0)) else (none)) else (none)) else (none)))) else (none)) else (none)))) else (none))) else (none))) else (none)))) else (none)) = some (r1, r2) := H
     have A14 := Aside0.mk A140
     clear A140
     by_cases c15 : ((t116 ++ t117) ++ t118).size + t119.size ≤ 9223372036854775807
     ·
      rw [if_pos c15] at H
      have c15b0 := eq_true c15
      have c15b1 : decide (((t116 ++ t117) ++ t118).size + t119.size ≤ 9223372036854775807) = true := decide_eq_true c15
      try have c15b2 : (9223372036854775807 < ((t116 ++ t117) ++ t118).size + t119.size) = False := eq_false (Nat.not_lt.2 c15)
      have c15b3 : (9223372036854775807 < t116.size + t117.size + t118.size + t119.size) = False := eq_false (Nat.not_lt.2 (by have z_ := c15; simp only [ByteArray.size_append] at z_; exact z_))
      replace H := Option.bind_eq_some_iff.mp H
      obtain ⟨t120, A160, H⟩ := H
      replace H : ((sum_Big.f k t120 2).bind fun t121 => (if (((t116 ++ t117) ++ t118) ++ t119).size + t121.size ≤ 9223372036854775807 then ((sum_Big.f k a0_5 1).bind fun t122 => (if ((((t116 ++ t117) ++ t118) ++ t119) ++ t121).size + t122.size ≤ 9223372036854775807 then ((sum_Big.f k a0_6 1).bind fun t123 => (if (((((t116 ++ t117) ++ t118) ++ t119) ++ t121) ++ t122).size + t123.size ≤ 9223372036854775807 then ((sum_Big.f k (wrap64 (a0_7)) 4).bind fun t124 => ((sum_Big.f k (wrap64 (a0_8)) 4).bind fun t125 => (if t124.size + t125.size ≤ 9223372036854775807 then (if (t124 ++ t125).size + a0_9.size ≤ 9223372036854775807 then ((sum_Of.f k (([(((((t116 ++ t117) ++ t118) ++ t119) ++ t121) ++ t122) ++ t123, (⟨#[0, 0]⟩ : ByteArray), (t124 ++ t125) ++ a0_9] : List ByteArray))).bind fun t129 => ((sum_Big.f k t129 2).bind fun t130 => (if ((((((t116 ++ t117) ++ t118) ++ t119) ++ t121) ++ t122) ++ t123).size + t130.size ≤ 9223372036854775807 then (if (((((((t116 ++ t117) ++ t118) ++ t119) ++ t121) ++ t122) ++ t123) ++ t130).size + ((t124 ++ t125) ++ a0_9).size ≤ 9223372036854775807 then (if ((((((((t116 ++ t117) ++ t118) ++ t119) ++ t121) ++ t122) ++ t123) ++ t130) ++ ((t124 ++ t125) ++ a0_9)).size + a1.size ≤ 9223372036854775807 then (some (((((((((t116 ++ t117) ++ t118) ++ t119) ++ t121) ++ t122) ++ t123) ++ t130) ++ ((t124 ++ t125) ++ a0_9)) ++ a1, 0)) else (none)) else (none)) else (none)))) else (none)) else (none)))) else (none))) else (none))) else (none))) = some (r1, r2) := H
      have A16 := Aside0.mk A160
      clear A160
      replace H := Option.bind_eq_some_iff.mp H
      obtain ⟨t121, A170, H⟩ := H
      replace H : (if (((t116 ++ t117) ++ t118) ++ t119).size + t121.size ≤ 9223372036854775807 then ((sum_Big.f k a0_5 1).bind fun t122 => (if ((((t116 ++ t117) ++ t118) ++ t119) ++ t121).size + t122.size ≤ 9223372036854775807 then ((sum_Big.f k a0_6 1).bind fun t123 => (if (((((t116 ++ t117) ++ t118) ++ t119) ++ t121) ++ t122).size + t123.size ≤ 9223372036854775807 then ((sum_Big.f k (wrap64 (a0_7)) 4).bind fun t124 => ((sum_Big.f k (wrap64 (a0_8)) 4).bind fun t125 => (if t124.size + t125.size ≤ 9223372036854775807 then (if (t124 ++ t125).size + a0_9.size ≤ 9223372036854775807 then ((sum_Of.f k (([(((((t116 ++ t117) ++ t118) ++ t119) ++ t121) ++ t122) ++ t123, (⟨#[0, 0]⟩ : ByteArray), (t124 ++ t125) ++ a0_9] : List ByteArray))).bind fun t129 => ((sum_Big.f k t129 2).bind fun t130 => (if ((((((t116 ++ t117) ++ t118) ++ t119) ++ t121) ++ t122) ++ t123).size + t130.size ≤ 9223372036854775807 then (if (((((((t116 ++ t117) ++ t118) ++ t119) ++ t121) ++ t122) ++ t123) ++ t130).size + ((t124 ++ t125) ++ a0_9).size ≤ 9223372036854775807 then (if ((((((((t116 ++ t117) ++ t118) ++ t119) ++ t121) ++ t122) ++ t123) ++ t130) ++ ((t124 ++ t125) ++ a0_9)).size + a1.size ≤ 9223372036854775807 then (some (((((((((t116 ++ t117) ++ t118) ++ t119) ++ t121) ++ t122) ++ t123) ++ t130) ++ ((t124 ++ t125) ++ a0_9)) ++ a1, 0)) else (none)) else (none)) else (none)))) else (none)) else (none)))) else (none))) else (none))) else (none)) = some (r1, r2) := H
      have A17 := Aside0.mk A170
      clear A170
      by_cases c18 : (((t116 ++ t117) ++ t118) ++ t119).size + t121.size ≤ 9223372036854775807
      ·
       rw [if_pos c18] at H
       have c18b0 := eq_true c18
       have c18b1 : decide ((((t116 ++ t117) ++ t118) ++ t119).size + t121.size ≤ 9223372036854775807) = true := decide_eq_true c18
       try have c18b2 : (9223372036854775807 < (((t116 ++ t117) ++ t118) ++ t119).size + t121.size) = False := eq_false (Nat.not_lt.2 c18)
       have c18b3 : (9223372036854775807 < t116.size + t117.size + t118.size + t119.size + t121.size) = False := eq_false (Nat.not_lt.2 (by have z_ := c18; simp only [ByteArray.size_append] at z_; exact z_))
       replace H := Option.bind_eq_some_iff.mp H
       obtain ⟨t122, A190, H⟩ := H
       replace H : (if ((((t116 ++ t117) ++ t118) ++ t119) ++ t121).size + t122.size ≤ 9223372036854775807 then ((sum_Big.f k a0_6 1).bind fun t123 => (if (((((t116 ++ t117) ++ t118) ++ t119) ++ t121) ++ t122).size + t123.size ≤ 9223372036854775807 then ((sum_Big.f k (wrap64 (a0_7)) 4).bind fun t124 => ((sum_Big.f k (wrap64 (a0_8)) 4).bind fun t125 => (if t124.size + t125.size ≤ 9223372036854775807 then (if (t124 ++ t125).size + a0_9.size ≤ 9223372036854775807 then ((sum_Of.f k (([(((((t116 ++ t117) ++ t118) ++ t119) ++ t121) ++ t122) ++ t123, (⟨#[0, 0]⟩ : ByteArray), (t124 ++ t125) ++ a0_9] : List ByteArray))).bind fun t129 => ((sum_Big.f k t129 2).bind fun t130 => (if ((((((t116 ++ t117) ++ t118) ++ t119) ++ t121) ++ t122) ++ t123).size + t130.size ≤ 9223372036854775807 then (if (((((((t116 ++ t117) ++ t118) ++ t119) ++ t121) ++ t122) ++ t123) ++ t130).size + ((t124 ++ t125) ++ a0_9).size ≤ 9223372036854775807 then (if ((((((((t116 ++ t117) ++ t118) ++ t119) ++ t121) ++ t122) ++ t123) ++ t130) ++ ((t124 ++ t125) ++ a0_9)).size + a1.size ≤ 9223372036854775807 then (some (((((((((t116 ++ t117) ++ t118) ++ t119) ++ t121) ++ t122) ++ t123) ++ t130) ++ ((t124 ++ t125) ++ a0_9)) ++ a1, 0)) else (none)) else (none)) else (none)))) else (none)) else (none)))) else (none))) else (none)) = some (r1, r2) := H
       have A19 := Aside0.mk A190
       clear A190
       by_cases c20 : ((((t116 ++ t117) ++ t118) ++ t119) ++ t121).size + t122.size ≤ 9223372036854775807
       ·
        rw [if_pos c20] at H
        have c20b0 := eq_true c20
        have c20b1 : decide (((((t116 ++ t117) ++ t118) ++ t119) ++ t121).size + t122.size ≤ 9223372036854775807) = true := decide_eq_true c20
        try have c20b2 : (9223372036854775807 < ((((t116 ++ t117) ++ t118) ++ t119) ++ t121).size + t122.size) = False := eq_false (Nat.not_lt.2 c20)
        have c20b3 : (9223372036854775807 < t116.size + t117.size + t118.size + t119.size + t121.size + t122.size) = False := eq_false (Nat.not_lt.2 (by have z_ := c20; simp only [ByteArray.size_append] at z_; exact z_))
        replace H := Option.bind_eq_some_iff.mp H
        obtain ⟨t123, A210, H⟩ := H
        replace H : (if (((((t116 ++ t117) ++ t118) ++ t119) ++ t121) ++ t122).size + t123.size ≤ 9223372036854775807 then ((sum_Big.f k (wrap64 (a0_7)) 4).bind fun t124 => ((sum_Big.f k (wrap64 (a0_8)) 4).bind fun t125 => (if t124.size + t125.size ≤ 9223372036854775807 then (if (t124 ++ t125).size + a0_9.size ≤ 9223372036854775807 then ((sum_Of.f k (([(((((t116 ++ t117) ++ t118) ++ t119) ++ t121) ++ t122) ++ t123, (⟨#[0, 0]⟩ : ByteArray), (t124 ++ t125) ++ a0_9] : List ByteArray))).bind fun t129 => ((sum_Big.f k t129 2).bind fun t130 => (if ((((((t116 ++ t117) ++ t118) ++ t119) ++ t121) ++ t122) ++ t123).size + t130.size ≤ 9223372036854775807 then (if (((((((t116 ++ t117) ++ t118) ++ t119) ++ t121) ++ t122) ++ t123) ++ t130).size + ((t124 ++ t125) ++ a0_9).size ≤ 9223372036854775807 then (if ((((((((t116 ++ t117) ++ t118) ++ t119) ++ t121) ++ t122) ++ t123) ++ t130) ++ ((t124 ++ t125) ++ a0_9)).size + a1.size ≤ 9223372036854775807 then (some (((((((((t116 ++ t117) ++ t118) ++ t119) ++ t121) ++ t122) ++ t123) ++ t130) ++ ((t124 ++ t125) ++ a0_9)) ++ a1, 0)) else (none)) else (none)) else (none)))) else (none)) else (none)))) else (none)) = some (r1, r2) := H
        have A21 := Aside0.mk A210
        clear A210
        by_cases c22 : (((((t116 ++ t117) ++ t118) ++ t119) ++ t121) ++ t122).size + t123.size ≤ 9223372036854775807
        ·
         rw [if_pos c22] at H
         have c22b0 := eq_true c22
         have c22b1 : decide ((((((t116 ++ t117) ++ t118) ++ t119) ++ t121) ++ t122).size + t123.size ≤ 9223372036854775807) = true := decide_eq_true c22
         try have c22b2 : (9223372036854775807 < (((((t116 ++ t117) ++ t118) ++ t119) ++ t121) ++ t122).size + t123.size) = False := eq_false (Nat.not_lt.2 c22)
         have c22b3 : (9223372036854775807 < t116.size + t117.size + t118.size + t119.size + t121.size + t122.size + t123.size) = False := eq_false (Nat.not_lt.2 (by have z_ := c22; simp only [ByteArray.size_append] at z_; exact z_))
         replace H := Option.bind_eq_some_iff.mp H
         obtain ⟨t124, A230, H⟩ := H
         replace H : ((sum_Big.f k (wrap64 (a0_8)) 4).bind fun t125 => (if t124.size + t125.size ≤ 9223372036854775807 then (if (t124 ++ t125).size + a0_9.size ≤ 9223372036854775807 then ((sum_Of.f k (([(((((t116 ++ t117) ++ t118) ++ t119) ++ t121) ++ t122) ++ t123, (⟨#[0, 0]⟩ : ByteArray), (t124 ++ t125) ++ a0_9] : List ByteArray))).bind fun t129 => ((sum_Big.f k t129 2).bind fun t130 => (if ((((((t116 ++ t117) ++ t118) ++ t119) ++ t121) ++ t122) ++ t123).size + t130.size ≤ 9223372036854775807 then (if (((((((t116 ++ t117) ++ t118) ++ t119) ++ t121) ++ t122) ++ t123) ++ t130).size + ((t124 ++ t125) ++ a0_9).size ≤ 9223372036854775807 then (if ((((((((t116 ++ t117) ++ t118) ++ t119) ++ t121) ++ t122) ++ t123) ++ t130) ++ ((t124 ++ t125) ++ a0_9)).size + a1.size ≤ 9223372036854775807 then (some (((((((((t116 ++ t117) ++ t118) ++ t119) ++ t121) ++ t122) ++ t123) ++ t130) ++ ((t124 ++ t125) ++ a0_9)) ++ a1, 0)) else (none)) else (none)) else (none)))) else (none)) else (none))) = some (r1, r2) := H
         have A23 := Aside0.mk A230
         clear A230
         replace H := Option.bind_eq_some_iff.mp H
         obtain ⟨t125, A240, H⟩ := H
         replace H : (if t124.size + t125.size ≤ 9223372036854775807 then (if (t124 ++ t125).size + a0_9.size ≤ 9223372036854775807 then ((sum_Of.f k (([(((((t116 ++ t117) ++ t118) ++ t119) ++ t121) ++ t122) ++ t123, (⟨#[0, 0]⟩ : ByteArray), (t124 ++ t125) ++ a0_9] : List ByteArray))).bind fun t129 => ((sum_Big.f k t129 2).bind fun t130 => (if ((((((t116 ++ t117) ++ t118) ++ t119) ++ t121) ++ t122) ++ t123).size + t130.size ≤ 9223372036854775807 then (if (((((((t116 ++ t117) ++ t118) ++ t119) ++ t121) ++ t122) ++ t123) ++ t130).size + ((t124 ++ t125) ++ a0_9).size ≤ 9223372036854775807 then (if ((((((((t116 ++ t117) ++ t118) ++ t119) ++ t121) ++ t122) ++ t123) ++ t130) ++ ((t124 ++ t125) ++ a0_9)).size + a1.size ≤ 9223372036854775807 then (some (((((((((t116 ++ t117) ++ t118) ++ t119) ++ t121) ++ t122) ++ t123) ++ t130) ++ ((t124 ++ t125) ++ a0_9)) ++ a1, 0)) else (none)) else (none)) else (none)))) else (none)) else (none)) = some (r1, r2) := H
         have A24 := Aside0.mk A240
         clear A240
         by_cases c25 : t124.size + t125.size ≤ 9223372036854775807
         ·
          rw [if_pos c25] at H
          have c25b0 := eq_true c25
          have c25b1 : decide (t124.size + t125.size ≤ 9223372036854775807) = true := decide_eq_true c25
          try have c25b2 : (9223372036854775807 < t124.size + t125.size) = False := eq_false (Nat.not_lt.2 c25)
          by_cases c26 : (t124 ++ t125).size + a0_9.size ≤ 9223372036854775807
          ·
           rw [if_pos c26] at H
           have c26b0 := eq_true c26
           have c26b1 : decide ((t124 ++ t125).size + a0_9.size ≤ 9223372036854775807) = true := decide_eq_true c26
           try have c26b2 : (9223372036854775807 < (t124 ++ t125).size + a0_9.size) = False := eq_false (Nat.not_lt.2 c26)
           have c26b3 : (9223372036854775807 < t124.size + t125.size + a0_9.size) = False := eq_false (Nat.not_lt.2 (by have z_ := c26; simp only [ByteArray.size_append] at z_; exact z_))
           obtain ⟨y126, hy126⟩ : ∃ y_ : List ByteArray, y_ = (([(((((t116 ++ t117) ++ t118) ++ t119) ++ t121) ++ t122) ++ t123, (⟨#[0, 0]⟩ : ByteArray), (t124 ++ t125) ++ a0_9] : List ByteArray)) := ⟨_, rfl⟩
           replace H : ((sum_Of.f k y126).bind fun t129 => ((sum_Big.f k t129 2).bind fun t130 => (if ((((((t116 ++ t117) ++ t118) ++ t119) ++ t121) ++ t122) ++ t123).size + t130.size ≤ 9223372036854775807 then (if (((((((t116 ++ t117) ++ t118) ++ t119) ++ t121) ++ t122) ++ t123) ++ t130).size + ((t124 ++ t125) ++ a0_9).size ≤ 9223372036854775807 then (if ((((((((t116 ++ t117) ++ t118) ++ t119) ++ t121) ++ t122) ++ t123) ++ t130) ++ ((t124 ++ t125) ++ a0_9)).size + a1.size ≤ 9223372036854775807 then (some (((((((((t116 ++ t117) ++ t118) ++ t119) ++ t121) ++ t122) ++ t123) ++ t130) ++ ((t124 ++ t125) ++ a0_9)) ++ a1, 0)) else (none)) else (none)) else (none)))) = some (r1, r2) := by first | (rw [hy126]; with_reducible exact H) | (have H2_ := (Option.bind_some _ _).symm.trans H; rw [hy126]; with_reducible exact H2_) | (have H2_ := (Option.bind_some _ _).symm.trans H; with_reducible exact H2_) | with_reducible exact H | (rw [hy126]; exact H) | exact H
           have Ny126 := Aside0.mk hy126
           clear hy126
           replace H := Option.bind_eq_some_iff.mp H
           obtain ⟨t129, A270, H⟩ := H
           replace H : ((sum_Big.f k t129 2).bind fun t130 => (if ((((((t116 ++ t117) ++ t118) ++ t119) ++ t121) ++ t122) ++ t123).size + t130.size ≤ 9223372036854775807 then (if (((((((t116 ++ t117) ++ t118) ++ t119) ++ t121) ++ t122) ++ t123) ++ t130).size + ((t124 ++ t125) ++ a0_9).size ≤ 9223372036854775807 then (if ((((((((t116 ++ t117) ++ t118) ++ t119) ++ t121) ++ t122) ++ t123) ++ t130) ++ ((t124 ++ t125) ++ a0_9)).size + a1.size ≤ 9223372036854775807 then (some (((((((((t116 ++ t117) ++ t118) ++ t119) ++ t121) ++ t122) ++ t123) ++ t130) ++ ((t124 ++ t125) ++ a0_9)) ++ a1, 0)) else (none)) else (none)) else (none))) = some (r1, r2) := H
           have A27 := Aside0.mk A270
           clear A270
           replace H := Option.bind_eq_some_iff.mp H
           obtain ⟨t130, A280, H⟩ := H
           replace H : (if ((((((t116 ++ t117) ++ t118) ++ t119) ++ t121) ++ t122) ++ t123).size + t130.size ≤ 9223372036854775807 then (if (((((((t116 ++ t117) ++ t118) ++ t119) ++ t121) ++ t122) ++ t123) ++ t130).size + ((t124 ++ t125) ++ a0_9).size ≤ 9223372036854775807 then (if ((((((((t116 ++ t117) ++ t118) ++ t119) ++ t121) ++ t122) ++ t123) ++ t130) ++ ((t124 ++ t125) ++ a0_9)).size + a1.size ≤ 9223372036854775807 then (some (((((((((t116 ++ t117) ++ t118) ++ t119) ++ t121) ++ t122) ++ t123) ++ t130) ++ ((t124 ++ t125) ++ a0_9)) ++ a1, 0)) else (none)) else (none)) else (none)) = some (r1, r2) := H
           have A28 := Aside0.mk A280
           clear A280
           by_cases c29 : ((((((t116 ++ t117) ++ t118) ++ t119) ++ t121) ++ t122) ++ t123).size + t130.size ≤ 9223372036854775807
           ·
            rw [if_pos c29] at H
            have c29b0 := eq_true c29
            have c29b1 : decide (((((((t116 ++ t117) ++ t118) ++ t119) ++ t121) ++ t122) ++ t123).size + t130.size ≤ 9223372036854775807) = true := decide_eq_true c29
            try have c29b2 : (9223372036854775807 < ((((((t116 ++ t117) ++ t118) ++ t119) ++ t121) ++ t122) ++ t123).size + t130.size) = False := eq_false (Nat.not_lt.2 c29)
            have c29b3 : (9223372036854775807 < t116.size + t117.size + t118.size + t119.size + t121.size + t122.size + t123.size + t130.size) = False := eq_false (Nat.not_lt.2 (by have z_ := c29; simp only [ByteArray.size_append] at z_; exact z_))
            by_cases c30 : (((((((t116 ++ t117) ++ t118) ++ t119) ++ t121) ++ t122) ++ t123) ++ t130).size + ((t124 ++ t125) ++ a0_9).size ≤ 9223372036854775807
            ·
             rw [if_pos c30] at H
             have c30b0 := eq_true c30
             have c30b1 : decide ((((((((t116 ++ t117) ++ t118) ++ t119) ++ t121) ++ t122) ++ t123) ++ t130).size + ((t124 ++ t125) ++ a0_9).size ≤ 9223372036854775807) = true := decide_eq_true c30
             try have c30b2 : (9223372036854775807 < (((((((t116 ++ t117) ++ t118) ++ t119) ++ t121) ++ t122) ++ t123) ++ t130).size + ((t124 ++ t125) ++ a0_9).size) = False := eq_false (Nat.not_lt.2 c30)
             have c30b3 : (9223372036854775807 < t116.size + t117.size + t118.size + t119.size + t121.size + t122.size + t123.size + t130.size + (t124.size + t125.size + a0_9.size)) = False := eq_false (Nat.not_lt.2 (by have z_ := c30; simp only [ByteArray.size_append] at z_; exact z_))
             by_cases c31 : ((((((((t116 ++ t117) ++ t118) ++ t119) ++ t121) ++ t122) ++ t123) ++ t130) ++ ((t124 ++ t125) ++ a0_9)).size + a1.size ≤ 9223372036854775807
             ·
              rw [if_pos c31] at H
              have c31b0 := eq_true c31
              have c31b1 : decide (((((((((t116 ++ t117) ++ t118) ++ t119) ++ t121) ++ t122) ++ t123) ++ t130) ++ ((t124 ++ t125) ++ a0_9)).size + a1.size ≤ 9223372036854775807) = true := decide_eq_true c31
              try have c31b2 : (9223372036854775807 < ((((((((t116 ++ t117) ++ t118) ++ t119) ++ t121) ++ t122) ++ t123) ++ t130) ++ ((t124 ++ t125) ++ a0_9)).size + a1.size) = False := eq_false (Nat.not_lt.2 c31)
              have c31b3 : (9223372036854775807 < t116.size + t117.size + t118.size + t119.size + t121.size + t122.size + t123.size + t130.size + (t124.size + t125.size + a0_9.size) + a1.size) = False := eq_false (Nat.not_lt.2 (by have z_ := c31; simp only [ByteArray.size_append] at z_; exact z_))
              simp only [Option.some.injEq, Prod.mk.injEq] at H
              obtain ⟨rfl, rfl⟩ := H
              go_enter Try.func16, Try.ntmps16
              try go_wp2_with (first | ((with_reducible refine gate_dst (N := 2) rfl ?_); refine box_event ?hg (N := 2) ?hd (cs := #[.int .i64 a0_0, .int .i64 a0_1, .bool a0_2, .bool a0_3, .int .i64 a0_4, .int .i64 a0_5, .int .i64 a0_6, .int .u32 a0_7, .int .u32 a0_8, .string a0_9]) (t := 24) ?hr ?_; (case hd => rfl); (case hg => rfl); (case hr => first | (go_simp; done) | (go_simp; rfl)); intro gb114 hg w32 hbox hb; have n0_ := Aside0.mk (below_step (by repeat (first | (with_reducible first | exact HB.out | apply below_alloc | apply pw_below_drewN | apply below_drew1) | exact HB.out)) hb); have n1_ := Aside0.mk (hbox); have n2_ := Aside0.mk ((by rw [hg]; exact (below_size (by repeat (first | (with_reducible first | exact HB.out | apply below_alloc | apply pw_below_drewN | apply below_drew1) | exact HB.out))) : w.heap.size ≤ gb114)); have n3_ := Aside0.mk ((by rw [hg]; exact (below_size (by repeat (first | (with_reducible first | exact HB.out | apply below_alloc | apply pw_below_drewN | apply below_drew1) | exact HB.out))) : w.heap.size ≤ gb114)); clear HB; have HB := n0_; have BK114 := n1_; have GW114 := n2_; have GE114 := n3_; clear n0_ n1_ n2_ n3_; clear hb hbox hg; have hcz33_0 : w32.cell? ⟨gb114, 0, none⟩ = some (.int .i64 a0_0) := (blk_cell BK114.out 0).trans rfl; have hcz33_1 : w32.cell? ⟨gb114, 1, none⟩ = some (.int .i64 a0_1) := (blk_cell BK114.out 1).trans rfl; have hcz33_2 : w32.cell? ⟨gb114, 2, none⟩ = some (.bool a0_2) := (blk_cell BK114.out 2).trans rfl; have hcz33_3 : w32.cell? ⟨gb114, 3, none⟩ = some (.bool a0_3) := (blk_cell BK114.out 3).trans rfl; have hcz33_4 : w32.cell? ⟨gb114, 4, none⟩ = some (.int .i64 a0_4) := (blk_cell BK114.out 4).trans rfl; have hcz33_5 : w32.cell? ⟨gb114, 5, none⟩ = some (.int .i64 a0_5) := (blk_cell BK114.out 5).trans rfl; have hcz33_6 : w32.cell? ⟨gb114, 6, none⟩ = some (.int .i64 a0_6) := (blk_cell BK114.out 6).trans rfl; have hcz33_7 : w32.cell? ⟨gb114, 7, none⟩ = some (.int .u32 a0_7) := (blk_cell BK114.out 7).trans rfl; have hcz33_8 : w32.cell? ⟨gb114, 8, none⟩ = some (.int .u32 a0_8) := (blk_cell BK114.out 8).trans rfl; have hcz33_9 : w32.cell? ⟨gb114, 9, none⟩ = some (.string a0_9) := (blk_cell BK114.out 9).trans rfl; have hfz33_0 := blk_frozen BK114.out 0; have hfz33_1 := blk_frozen BK114.out 1; have hfz33_2 := blk_frozen BK114.out 2; have hfz33_3 := blk_frozen BK114.out 3; have hfz33_4 := blk_frozen BK114.out 4; have hfz33_5 := blk_frozen BK114.out 5; have hfz33_6 := blk_frozen BK114.out 6; have hfz33_7 := blk_frozen BK114.out 7; have hfz33_8 := blk_frozen BK114.out 8; have hfz33_9 := blk_frozen BK114.out 9) | ((with_reducible refine gate_callee (f := 20) rfl ?_); refine goesL_ (some 11) rfl rfl Try.func20 (by kernel_rfl) rfl #[.agg #[.int .i64 a0_0, .int .i64 a0_1, .bool a0_2, .bool a0_3, .int .i64 a0_4, .int .i64 a0_5, .int .i64 a0_6, .int .u32 a0_7, .int .u32 a0_8, .string a0_9]] rfl (by (try simp only [List.map_toArray, List.map_cons, List.map_nil]); first | done | rfl | (simp only [List.length_drop, List.length_take]; rfl)) ?_; (with_reducible refine (ipv4_Check.calls a0_0 a0_1 a0_2 a0_3 a0_4 a0_5 a0_6 a0_7 a0_8 a0_9 true _ A3.out).mono ?_); rintro e w34 ⟨rfl, hb⟩; refine ⟨_, rfl, ?_⟩; have n0_ := Aside0.mk (blk_below (g := gb114) (o := .cells #[.int .i64 a0_0, .int .i64 a0_1, .bool a0_2, .bool a0_3, .int .i64 a0_4, .int .i64 a0_5, .int .i64 a0_6, .int .u32 a0_7, .int .u32 a0_8, .string a0_9] 24 (0, 0)) (by (with_reducible repeat (first | refine blk_drewN ?_ _ | refine blk_drew ?_ | refine blk_alloc ?_ _)); exact BK114.out) hb); have n1_ := Aside0.mk (below_step (by repeat (first | (with_reducible first | exact HB.out | apply below_alloc | apply pw_below_drewN | apply below_drew1 | refine below_set ?_ GE114.out) | exact HB.out)) hb); clear BK114; clear HB; have BK114 := n0_; have HB := n1_; clear n0_ n1_; (try clear hb); (try clear hb2); (try clear hk); (try clear hi); have hcz35_0 : w34.cell? ⟨gb114, 0, none⟩ = some (.int .i64 a0_0) := (blk_cell BK114.out 0).trans rfl; have hcz35_1 : w34.cell? ⟨gb114, 1, none⟩ = some (.int .i64 a0_1) := (blk_cell BK114.out 1).trans rfl; have hcz35_2 : w34.cell? ⟨gb114, 2, none⟩ = some (.bool a0_2) := (blk_cell BK114.out 2).trans rfl; have hcz35_3 : w34.cell? ⟨gb114, 3, none⟩ = some (.bool a0_3) := (blk_cell BK114.out 3).trans rfl; have hcz35_4 : w34.cell? ⟨gb114, 4, none⟩ = some (.int .i64 a0_4) := (blk_cell BK114.out 4).trans rfl; have hcz35_5 : w34.cell? ⟨gb114, 5, none⟩ = some (.int .i64 a0_5) := (blk_cell BK114.out 5).trans rfl; have hcz35_6 : w34.cell? ⟨gb114, 6, none⟩ = some (.int .i64 a0_6) := (blk_cell BK114.out 6).trans rfl; have hcz35_7 : w34.cell? ⟨gb114, 7, none⟩ = some (.int .u32 a0_7) := (blk_cell BK114.out 7).trans rfl; have hcz35_8 : w34.cell? ⟨gb114, 8, none⟩ = some (.int .u32 a0_8) := (blk_cell BK114.out 8).trans rfl; have hcz35_9 : w34.cell? ⟨gb114, 9, none⟩ = some (.string a0_9) := (blk_cell BK114.out 9).trans rfl; have hfz35_0 := blk_frozen BK114.out 0; have hfz35_1 := blk_frozen BK114.out 1; have hfz35_2 := blk_frozen BK114.out 2; have hfz35_3 := blk_frozen BK114.out 3; have hfz35_4 := blk_frozen BK114.out 4; have hfz35_5 := blk_frozen BK114.out 5; have hfz35_6 := blk_frozen BK114.out 6; have hfz35_7 := blk_frozen BK114.out 7; have hfz35_8 := blk_frozen BK114.out 8; have hfz35_9 := blk_frozen BK114.out 9))
              have n0_ := Aside0.mk (blk_drew BK114.out)
              have n1_ := Aside0.mk (below_drew1 HB.out)
              clear BK114
              clear HB
              have BK114 := n0_
              have HB := n1_
              clear n0_ n1_
              refine start_ (n := 31) (S := fun w' => w'.cell? ⟨gb114, 0, none⟩ = some (.int .i64 a0_0) ∧ w'.cell? ⟨gb114, 1, none⟩ = some (.int .i64 a0_1) ∧ w'.cell? ⟨gb114, 2, none⟩ = some (.bool a0_2) ∧ w'.cell? ⟨gb114, 3, none⟩ = some (.bool a0_3) ∧ w'.cell? ⟨gb114, 4, none⟩ = some (.int .i64 a0_4) ∧ w'.cell? ⟨gb114, 5, none⟩ = some (.int .i64 a0_5) ∧ w'.cell? ⟨gb114, 6, none⟩ = some (.int .i64 a0_6) ∧ w'.cell? ⟨gb114, 7, none⟩ = some (.int .u32 a0_7) ∧ w'.cell? ⟨gb114, 8, none⟩ = some (.int .u32 a0_8) ∧ w'.cell? ⟨gb114, 9, none⟩ = some (.string a0_9)) (ds := []) #[false, false, false, false, false, false, false, false, false, false, false, false, false, false, false, false, false, false, false, false, false, false, false, false, false, false, false, false, false, false, false] (by kernel_rfl) rfl rfl ⟨(blk_cell BK114.out 0).trans rfl, (blk_cell BK114.out 1).trans rfl, (blk_cell BK114.out 2).trans rfl, (blk_cell BK114.out 3).trans rfl, (blk_cell BK114.out 4).trans rfl, (blk_cell BK114.out 5).trans rfl, (blk_cell BK114.out 6).trans rfl, (blk_cell BK114.out 7).trans rfl, (blk_cell BK114.out 8).trans rfl, (blk_cell BK114.out 9).trans rfl⟩ (fun hHeld => ?_); refine with_tabW ipv4_Put.tab6 ipv4_Put.bits6 (fun HT_ HW_ => ?_)
              generalize w34.drew = w36 at BK114 HB hHeld ⊢
              refine pure_ (i := 0) (N := some 21) (v := ?_) (a' := ?_) #[true, false, false, false, false, false, false, false, false, false, false, false, false, false, false, false, false, false, false, false, false, false, false, false, false, false, false, false, false, false, false] rfl rfl (any_of HT_.out (by kernel_rfl)) (fun _ _ _ h => h) (Or.inl ⟨by rfl, ?_⟩) ?_ ?_
              rotate_left
              ·
               intro w'
               go_simp
               with_reducible rfl
              rotate_left
              ·
               simp only [Act.put, List.setIfInBounds_toArray, List.set_cons_zero, List.set_cons_succ, i64_w, i32_w]
               rfl
              refine pure_ (i := 1) (N := some 22) (v := ?_) (a' := ?_) #[true, true, false, false, false, false, false, false, false, false, false, false, false, false, false, false, false, false, false, false, false, false, false, false, false, false, false, false, false, false, false] rfl rfl (any_of HT_.out (by kernel_rfl)) (fun _ _ _ h => h) (Or.inl ⟨by rfl, ?_⟩) ?_ ?_
              rotate_left
              ·
               intro w'
               go_simp
               with_reducible rfl
              rotate_left
              ·
               simp only [Act.put, List.setIfInBounds_toArray, List.set_cons_zero, List.set_cons_succ, i64_w, i32_w]
               rfl
              refine pure_ (i := 2) (N := some 23) (v := ?_) (a' := ?_) #[true, true, true, false, false, false, false, false, false, false, false, false, false, false, false, false, false, false, false, false, false, false, false, false, false, false, false, false, false, false, false] rfl rfl (any_of HT_.out (by kernel_rfl)) (fun _ _ _ h => h) (Or.inl ⟨by rfl, ?_⟩) ?_ ?_
              rotate_left
              ·
               intro w'
               go_simp
               with_reducible rfl
              rotate_left
              ·
               simp only [Act.put, List.setIfInBounds_toArray, List.set_cons_zero, List.set_cons_succ, i64_w, i32_w]
               rfl
              refine pure_ (i := 4) (N := some 25) (v := ?_) (a' := ?_) #[true, true, true, false, true, false, false, false, false, false, false, false, false, false, false, false, false, false, false, false, false, false, false, false, false, false, false, false, false, false, false] rfl rfl (any_of HT_.out (by kernel_rfl)) (fun _ _ _ h => h) (Or.inl ⟨by rfl, ?_⟩) ?_ ?_
              rotate_left
              ·
               intro w'
               go_simp
               with_reducible rfl
              rotate_left
              ·
               simp only [Act.put, List.setIfInBounds_toArray, List.set_cons_zero, List.set_cons_succ, i64_w, i32_w]
               rfl
              refine pure_ (i := 8) (N := some 29) (v := ?_) (a' := ?_) #[true, true, true, false, true, false, false, false, true, false, false, false, false, false, false, false, false, false, false, false, false, false, false, false, false, false, false, false, false, false, false] rfl rfl (any_of HT_.out (by kernel_rfl)) (fun _ _ _ h => h) (Or.inl ⟨by rfl, ?_⟩) ?_ ?_
              rotate_left
              ·
               intro w'
               go_simp
               with_reducible rfl
              rotate_left
              ·
               simp only [Act.put, List.setIfInBounds_toArray, List.set_cons_zero, List.set_cons_succ, i64_w, i32_w]
               rfl
              refine pure_ (i := 9) (N := some 30) (v := ?_) (a' := ?_) #[true, true, true, false, true, false, false, false, true, true, false, false, false, false, false, false, false, false, false, false, false, false, false, false, false, false, false, false, false, false, false] rfl rfl (any_of HT_.out (by kernel_rfl)) (fun _ _ _ h => h) (Or.inl ⟨by rfl, ?_⟩) ?_ ?_
              rotate_left
              ·
               intro w'
               go_simp
               with_reducible rfl
              rotate_left
              ·
               simp only [Act.put, List.setIfInBounds_toArray, List.set_cons_zero, List.set_cons_succ, i64_w, i32_w]
               rfl
              refine pure_ (i := 10) (N := some 31) (v := ?_) (a' := ?_) #[true, true, true, false, true, false, false, false, true, true, true, false, false, false, false, false, false, false, false, false, false, false, false, false, false, false, false, false, false, false, false] rfl rfl (any_of HT_.out (by kernel_rfl)) (fun _ _ _ h => h) (Or.inl ⟨by rfl, ?_⟩) ?_ ?_
              rotate_left
              ·
               intro w'
               go_simp
               with_reducible rfl
              rotate_left
              ·
               simp only [Act.put, List.setIfInBounds_toArray, List.set_cons_zero, List.set_cons_succ, i64_w, i32_w]
               rfl
              refine pure_ (i := 11) (N := some 32) (v := ?_) (a' := ?_) #[true, true, true, false, true, false, false, false, true, true, true, true, false, false, false, false, false, false, false, false, false, false, false, false, false, false, false, false, false, false, false] rfl rfl (any_of HT_.out (by kernel_rfl)) (fun _ _ _ h => h) (Or.inl ⟨by rfl, ?_⟩) ?_ ?_
              rotate_left
              ·
               intro w'
               go_simp
               with_reducible rfl
              rotate_left
              ·
               simp only [Act.put, List.setIfInBounds_toArray, List.set_cons_zero, List.set_cons_succ, i64_w, i32_w]
               rfl
              refine pure_ (i := 14) (N := some 35) (v := ?_) (a' := ?_) #[true, true, true, false, true, false, false, false, true, true, true, true, false, false, true, false, false, false, false, false, false, false, false, false, false, false, false, false, false, false, false] rfl rfl (any_of HT_.out (by kernel_rfl)) (fun _ _ _ h => h) (Or.inl ⟨by rfl, ?_⟩) ?_ ?_
              rotate_left
              ·
               intro w'
               go_simp
               with_reducible rfl
              rotate_left
              ·
               simp only [Act.put, List.setIfInBounds_toArray, List.set_cons_zero, List.set_cons_succ, i64_w, i32_w]
               rfl
              refine pure_ (i := 22) (N := some 43) (v := ?_) (a' := ?_) #[true, true, true, false, true, false, false, false, true, true, true, true, false, false, true, false, false, false, false, false, false, false, true, false, false, false, false, false, false, false, false] rfl rfl (any_of HT_.out (by kernel_rfl)) (fun _ _ _ h => h) (Or.inl ⟨by rfl, ?_⟩) ?_ ?_
              rotate_left
              ·
               intro w'
               go_simp
               with_reducible rfl
              rotate_left
              ·
               simp only [Act.put, List.setIfInBounds_toArray, List.set_cons_zero, List.set_cons_succ, i64_w, i32_w]
               rfl
              refine pure_ (i := 26) (N := some 47) (v := ?_) (a' := ?_) #[true, true, true, false, true, false, false, false, true, true, true, true, false, false, true, false, false, false, false, false, false, false, true, false, false, false, true, false, false, false, false] rfl rfl (any_of HT_.out (by kernel_rfl)) (fun _ _ _ h => h) (Or.inl ⟨by rfl, ?_⟩) ?_ ?_
              rotate_left
              ·
               intro w'
               go_simp
               with_reducible rfl
              rotate_left
              ·
               simp only [Act.put, List.setIfInBounds_toArray, List.set_cons_zero, List.set_cons_succ, i64_w, i32_w]
               rfl
              refine take_ (i := 5) (N := some 26) (v := ?_) (a' := ?_) #[true, true, true, false, true, true, false, false, true, true, true, true, false, false, true, false, false, false, false, false, false, false, true, false, false, false, true, false, false, false, false] rfl rfl (take_ofW HT_.out HW_.out (by kernel_rfl)) (fun _ _ _ h => h) (Or.inl ⟨by rfl, ?_⟩) hHeld ?_ ?_
              rotate_left
              ·
               rintro w' ⟨s0, s1, s2, s3, s4, s5, s6, s7, s8, s9⟩
               go_simp
               with_reducible rfl
              rotate_left
              ·
               simp only [Act.put, List.setIfInBounds_toArray, List.set_cons_zero, List.set_cons_succ, i64_w, i32_w]
               rfl
              refine take_ (i := 15) (N := some 36) (v := ?_) (a' := ?_) #[true, true, true, false, true, true, false, false, true, true, true, true, false, false, true, true, false, false, false, false, false, false, true, false, false, false, true, false, false, false, false] rfl rfl (take_ofW HT_.out HW_.out (by kernel_rfl)) (fun _ _ _ h => h) (Or.inl ⟨by rfl, ?_⟩) hHeld ?_ ?_
              rotate_left
              ·
               rintro w' ⟨s0, s1, s2, s3, s4, s5, s6, s7, s8, s9⟩
               go_simp
               with_reducible rfl
              rotate_left
              ·
               simp only [Act.put, List.setIfInBounds_toArray, List.set_cons_zero, List.set_cons_succ, i64_w, i32_w]
               rfl
              refine take_ (i := 18) (N := some 39) (v := ?_) (a' := ?_) #[true, true, true, false, true, true, false, false, true, true, true, true, false, false, true, true, false, false, true, false, false, false, true, false, false, false, true, false, false, false, false] rfl rfl (take_ofW HT_.out HW_.out (by kernel_rfl)) (fun _ _ _ h => h) (Or.inl ⟨by rfl, ?_⟩) hHeld ?_ ?_
              rotate_left
              ·
               rintro w' ⟨s0, s1, s2, s3, s4, s5, s6, s7, s8, s9⟩
               go_simp
               with_reducible rfl
              rotate_left
              ·
               simp only [Act.put, List.setIfInBounds_toArray, List.set_cons_zero, List.set_cons_succ, i64_w, i32_w]
               rfl
              refine take_ (i := 23) (N := some 44) (v := ?_) (a' := ?_) #[true, true, true, false, true, true, false, false, true, true, true, true, false, false, true, true, false, false, true, false, false, false, true, true, false, false, true, false, false, false, false] rfl rfl (take_ofW HT_.out HW_.out (by kernel_rfl)) (fun _ _ _ h => h) (Or.inl ⟨by rfl, ?_⟩) hHeld ?_ ?_
              rotate_left
              ·
               rintro w' ⟨s0, s1, s2, s3, s4, s5, s6, s7, s8, s9⟩
               go_simp
               with_reducible rfl
              rotate_left
              ·
               simp only [Act.put, List.setIfInBounds_toArray, List.set_cons_zero, List.set_cons_succ, i64_w, i32_w]
               rfl
              refine take_ (i := 27) (N := some 48) (v := ?_) (a' := ?_) #[true, true, true, false, true, true, false, false, true, true, true, true, false, false, true, true, false, false, true, false, false, false, true, true, false, false, true, true, false, false, false] rfl rfl (take_ofW HT_.out HW_.out (by kernel_rfl)) (fun _ _ _ h => h) (Or.inl ⟨by rfl, ?_⟩) hHeld ?_ ?_
              rotate_left
              ·
               rintro w' ⟨s0, s1, s2, s3, s4, s5, s6, s7, s8, s9⟩
               go_simp
               with_reducible rfl
              rotate_left
              ·
               simp only [Act.put, List.setIfInBounds_toArray, List.set_cons_zero, List.set_cons_succ, i64_w, i32_w]
               rfl
              refine one_ (i := 3) (N := some 24) #[true, true, true, true, true, true, false, false, true, true, true, true, false, false, true, true, false, false, true, false, false, false, true, true, false, false, true, true, false, false, false] rfl rfl (one_of HT_.out (by kernel_rfl)) (by decide) (fun K hK => ?_)
              refine goes_ Try.func42 (by kernel_rfl) rfl #[.int .i64 (Go.bits .or .i64 64 (wrap64 (Int.tdiv (wrap64 (20 + (a0_9.size : Int))) 4))), .int .i64 1] (by rfl) rfl rfl (by (try simp only [List.map_toArray, List.map_cons, List.map_nil]); first | done | rfl | (simp only [List.length_drop, List.length_take]; rfl)) ?_
              with_reducible refine (sum_Big.calls k (Go.bits .or .i64 64 (wrap64 (Int.tdiv (wrap64 (20 + (a0_9.size : Int))) 4))) 1 t116 _ A9.out).mono ?_
              rintro e w37 ⟨rfl, hb⟩
              refine ⟨_, rfl, ?_⟩
              have n0_ := Aside0.mk (blk_below (g := gb114) (o := .cells #[.int .i64 a0_0, .int .i64 a0_1, .bool a0_2, .bool a0_3, .int .i64 a0_4, .int .i64 a0_5, .int .i64 a0_6, .int .u32 a0_7, .int .u32 a0_8, .string a0_9] 24 (0, 0)) (by (with_reducible repeat (first | refine blk_drewN ?_ _ | refine blk_drew ?_ | refine blk_alloc ?_ _)); exact BK114.out) hb)
              have n1_ := Aside0.mk (below_step (by repeat (first | (with_reducible first | exact HB.out | apply below_alloc | apply pw_below_drewN | apply below_drew1 | refine below_set ?_ GE114.out) | exact HB.out)) hb)
              clear BK114
              clear HB
              have BK114 := n0_
              have HB := n1_
              clear n0_ n1_
              (try clear hb)
              (try clear hb2)
              (try clear hk)
              (try clear hi)
              refine hK.out _ _ ⟨(blk_cell BK114.out 0).trans rfl, (blk_cell BK114.out 1).trans rfl, (blk_cell BK114.out 2).trans rfl, (blk_cell BK114.out 3).trans rfl, (blk_cell BK114.out 4).trans rfl, (blk_cell BK114.out 5).trans rfl, (blk_cell BK114.out 6).trans rfl, (blk_cell BK114.out 7).trans rfl, (blk_cell BK114.out 8).trans rfl, (blk_cell BK114.out 9).trans rfl⟩ (fun hHeld => ?_)
              clear hK K
              refine norm_ (a' := ?_) ?_ ?_
              rotate_left
              ·
               show Act.put _ (some 24) _ = _
               simp only [Act.put, List.setIfInBounds_toArray, List.set_cons_zero, List.set_cons_succ, i64_w, i32_w]
               rfl
              refine one_ (i := 6) (N := some 27) #[true, true, true, true, true, true, true, false, true, true, true, true, false, false, true, true, false, false, true, false, false, false, true, true, false, false, true, true, false, false, false] rfl rfl (one_of HT_.out (by kernel_rfl)) (by decide) (fun K hK => ?_)
              refine goes_ Try.func42 (by kernel_rfl) rfl #[.int .i64 a0_0, .int .i64 1] (by rfl) rfl rfl (by (try simp only [List.map_toArray, List.map_cons, List.map_nil]); first | done | rfl | (simp only [List.length_drop, List.length_take]; rfl)) ?_
              with_reducible refine (sum_Big.calls k a0_0 1 t117 _ A10.out).mono ?_
              rintro e w38 ⟨rfl, hb⟩
              refine ⟨_, rfl, ?_⟩
              have n0_ := Aside0.mk (blk_below (g := gb114) (o := .cells #[.int .i64 a0_0, .int .i64 a0_1, .bool a0_2, .bool a0_3, .int .i64 a0_4, .int .i64 a0_5, .int .i64 a0_6, .int .u32 a0_7, .int .u32 a0_8, .string a0_9] 24 (0, 0)) (by (with_reducible repeat (first | refine blk_drewN ?_ _ | refine blk_drew ?_ | refine blk_alloc ?_ _)); exact BK114.out) hb)
              have n1_ := Aside0.mk (below_step (by repeat (first | (with_reducible first | exact HB.out | apply below_alloc | apply pw_below_drewN | apply below_drew1 | refine below_set ?_ GE114.out) | exact HB.out)) hb)
              clear BK114
              clear HB
              have BK114 := n0_
              have HB := n1_
              clear n0_ n1_
              (try clear hb)
              (try clear hb2)
              (try clear hk)
              (try clear hi)
              refine hK.out _ _ ⟨(blk_cell BK114.out 0).trans rfl, (blk_cell BK114.out 1).trans rfl, (blk_cell BK114.out 2).trans rfl, (blk_cell BK114.out 3).trans rfl, (blk_cell BK114.out 4).trans rfl, (blk_cell BK114.out 5).trans rfl, (blk_cell BK114.out 6).trans rfl, (blk_cell BK114.out 7).trans rfl, (blk_cell BK114.out 8).trans rfl, (blk_cell BK114.out 9).trans rfl⟩ (fun hHeld => ?_)
              clear hK K
              refine norm_ (a' := ?_) ?_ ?_
              rotate_left
              ·
               show Act.put _ (some 27) _ = _
               simp only [Act.put, List.setIfInBounds_toArray, List.set_cons_zero, List.set_cons_succ, i64_w, i32_w]
               rfl
              refine pure_ (i := 7) (N := some 28) (v := ?_) (a' := ?_) #[true, true, true, true, true, true, true, true, true, true, true, true, false, false, true, true, false, false, true, false, false, false, true, true, false, false, true, true, false, false, false] rfl rfl (any_of HT_.out (by kernel_rfl)) (fun _ _ _ h => h) (Or.inl ⟨by rfl, ?_⟩) ?_ ?_
              rotate_left
              ·
               intro w'
               go_simp
               with_reducible rfl
              rotate_left
              ·
               simp only [Act.put, List.setIfInBounds_toArray, List.set_cons_zero, List.set_cons_succ, i64_w, i32_w]
               rfl
              refine one_ (i := 12) (N := some 33) #[true, true, true, true, true, true, true, true, true, true, true, true, true, false, true, true, false, false, true, false, false, false, true, true, false, false, true, true, false, false, false] rfl rfl (one_of HT_.out (by kernel_rfl)) (by decide) (fun K hK => ?_)
              refine goes_ Try.func42 (by kernel_rfl) rfl #[.int .i64 (wrap64 ((wrap64 (20 + (a0_9.size : Int))) + (a1.size : Int))), .int .i64 2] (by rfl) rfl rfl (by (try simp only [List.map_toArray, List.map_cons, List.map_nil]); first | done | rfl | (simp only [List.length_drop, List.length_take]; rfl)) ?_
              with_reducible refine (sum_Big.calls k (wrap64 ((wrap64 (20 + (a0_9.size : Int))) + (a1.size : Int))) 2 t118 _ A12.out).mono ?_
              rintro e w39 ⟨rfl, hb⟩
              refine ⟨_, rfl, ?_⟩
              have n0_ := Aside0.mk (blk_below (g := gb114) (o := .cells #[.int .i64 a0_0, .int .i64 a0_1, .bool a0_2, .bool a0_3, .int .i64 a0_4, .int .i64 a0_5, .int .i64 a0_6, .int .u32 a0_7, .int .u32 a0_8, .string a0_9] 24 (0, 0)) (by (with_reducible repeat (first | refine blk_drewN ?_ _ | refine blk_drew ?_ | refine blk_alloc ?_ _)); exact BK114.out) hb)
              have n1_ := Aside0.mk (below_step (by repeat (first | (with_reducible first | exact HB.out | apply below_alloc | apply pw_below_drewN | apply below_drew1 | refine below_set ?_ GE114.out) | exact HB.out)) hb)
              clear BK114
              clear HB
              have BK114 := n0_
              have HB := n1_
              clear n0_ n1_
              (try clear hb)
              (try clear hb2)
              (try clear hk)
              (try clear hi)
              refine hK.out _ _ ⟨(blk_cell BK114.out 0).trans rfl, (blk_cell BK114.out 1).trans rfl, (blk_cell BK114.out 2).trans rfl, (blk_cell BK114.out 3).trans rfl, (blk_cell BK114.out 4).trans rfl, (blk_cell BK114.out 5).trans rfl, (blk_cell BK114.out 6).trans rfl, (blk_cell BK114.out 7).trans rfl, (blk_cell BK114.out 8).trans rfl, (blk_cell BK114.out 9).trans rfl⟩ (fun hHeld => ?_)
              clear hK K
              refine norm_ (a' := ?_) ?_ ?_
              rotate_left
              ·
               show Act.put _ (some 33) _ = _
               simp only [Act.put, List.setIfInBounds_toArray, List.set_cons_zero, List.set_cons_succ, i64_w, i32_w]
               rfl
              refine pure_ (i := 13) (N := some 34) (v := ?_) (a' := ?_) #[true, true, true, true, true, true, true, true, true, true, true, true, true, true, true, true, false, false, true, false, false, false, true, true, false, false, true, true, false, false, false] rfl rfl (any_of HT_.out (by kernel_rfl)) (fun _ _ _ h => h) (Or.inl ⟨by rfl, ?_⟩) ?_ ?_
              rotate_left
              ·
               intro w'
               go_simp
               with_reducible rfl
              rotate_left
              ·
               simp only [Act.put, List.setIfInBounds_toArray, List.set_cons_zero, List.set_cons_succ, i64_w, i32_w]
               rfl
              refine one_ (i := 16) (N := some 37) #[true, true, true, true, true, true, true, true, true, true, true, true, true, true, true, true, true, false, true, false, false, false, true, true, false, false, true, true, false, false, false] rfl rfl (one_of HT_.out (by kernel_rfl)) (by decide) (fun K hK => ?_)
              refine goes_ Try.func42 (by kernel_rfl) rfl #[.int .i64 a0_1, .int .i64 2] (by rfl) rfl rfl (by (try simp only [List.map_toArray, List.map_cons, List.map_nil]); first | done | rfl | (simp only [List.length_drop, List.length_take]; rfl)) ?_
              with_reducible refine (sum_Big.calls k a0_1 2 t119 _ A14.out).mono ?_
              rintro e w40 ⟨rfl, hb⟩
              refine ⟨_, rfl, ?_⟩
              have n0_ := Aside0.mk (blk_below (g := gb114) (o := .cells #[.int .i64 a0_0, .int .i64 a0_1, .bool a0_2, .bool a0_3, .int .i64 a0_4, .int .i64 a0_5, .int .i64 a0_6, .int .u32 a0_7, .int .u32 a0_8, .string a0_9] 24 (0, 0)) (by (with_reducible repeat (first | refine blk_drewN ?_ _ | refine blk_drew ?_ | refine blk_alloc ?_ _)); exact BK114.out) hb)
              have n1_ := Aside0.mk (below_step (by repeat (first | (with_reducible first | exact HB.out | apply below_alloc | apply pw_below_drewN | apply below_drew1 | refine below_set ?_ GE114.out) | exact HB.out)) hb)
              clear BK114
              clear HB
              have BK114 := n0_
              have HB := n1_
              clear n0_ n1_
              (try clear hb)
              (try clear hb2)
              (try clear hk)
              (try clear hi)
              refine hK.out _ _ ⟨(blk_cell BK114.out 0).trans rfl, (blk_cell BK114.out 1).trans rfl, (blk_cell BK114.out 2).trans rfl, (blk_cell BK114.out 3).trans rfl, (blk_cell BK114.out 4).trans rfl, (blk_cell BK114.out 5).trans rfl, (blk_cell BK114.out 6).trans rfl, (blk_cell BK114.out 7).trans rfl, (blk_cell BK114.out 8).trans rfl, (blk_cell BK114.out 9).trans rfl⟩ (fun hHeld => ?_)
              clear hK K
              refine norm_ (a' := ?_) ?_ ?_
              rotate_left
              ·
               show Act.put _ (some 37) _ = _
               simp only [Act.put, List.setIfInBounds_toArray, List.set_cons_zero, List.set_cons_succ, i64_w, i32_w]
               rfl
              refine pure_ (i := 17) (N := some 38) (v := ?_) (a' := ?_) #[true, true, true, true, true, true, true, true, true, true, true, true, true, true, true, true, true, true, true, false, false, false, true, true, false, false, true, true, false, false, false] rfl rfl (any_of HT_.out (by kernel_rfl)) (fun _ _ _ h => h) (Or.inl ⟨by rfl, ?_⟩) ?_ ?_
              rotate_left
              ·
               intro w'
               go_simp
               with_reducible rfl
              rotate_left
              ·
               simp only [Act.put, List.setIfInBounds_toArray, List.set_cons_zero, List.set_cons_succ, i64_w, i32_w]
               rfl
              refine one_ (i := 19) (N := some 40) #[true, true, true, true, true, true, true, true, true, true, true, true, true, true, true, true, true, true, true, true, false, false, true, true, false, false, true, true, false, false, false] rfl rfl (one_of HT_.out (by kernel_rfl)) (by decide) (fun K hK => ?_)
              refine goes_ Try.func43 (by kernel_rfl) rfl #[.agg #[.int .i64 a0_0, .int .i64 a0_1, .bool a0_2, .bool a0_3, .int .i64 a0_4, .int .i64 a0_5, .int .i64 a0_6, .int .u32 a0_7, .int .u32 a0_8, .string a0_9]] (by rfl) rfl rfl (by (try simp only [List.map_toArray, List.map_cons, List.map_nil]); first | done | rfl | (simp only [List.length_drop, List.length_take]; rfl)) ?_
              with_reducible refine (ipv4_cutting.calls a0_0 a0_1 a0_2 a0_3 a0_4 a0_5 a0_6 a0_7 a0_8 a0_9 t120 _ A16.out).mono ?_
              rintro e w41 ⟨rfl, hb⟩
              refine ⟨_, rfl, ?_⟩
              have n0_ := Aside0.mk (blk_below (g := gb114) (o := .cells #[.int .i64 a0_0, .int .i64 a0_1, .bool a0_2, .bool a0_3, .int .i64 a0_4, .int .i64 a0_5, .int .i64 a0_6, .int .u32 a0_7, .int .u32 a0_8, .string a0_9] 24 (0, 0)) (by (with_reducible repeat (first | refine blk_drewN ?_ _ | refine blk_drew ?_ | refine blk_alloc ?_ _)); exact BK114.out) hb)
              have n1_ := Aside0.mk (below_step (by repeat (first | (with_reducible first | exact HB.out | apply below_alloc | apply pw_below_drewN | apply below_drew1 | refine below_set ?_ GE114.out) | exact HB.out)) hb)
              clear BK114
              clear HB
              have BK114 := n0_
              have HB := n1_
              clear n0_ n1_
              (try clear hb)
              (try clear hb2)
              (try clear hk)
              (try clear hi)
              refine hK.out _ _ ⟨(blk_cell BK114.out 0).trans rfl, (blk_cell BK114.out 1).trans rfl, (blk_cell BK114.out 2).trans rfl, (blk_cell BK114.out 3).trans rfl, (blk_cell BK114.out 4).trans rfl, (blk_cell BK114.out 5).trans rfl, (blk_cell BK114.out 6).trans rfl, (blk_cell BK114.out 7).trans rfl, (blk_cell BK114.out 8).trans rfl, (blk_cell BK114.out 9).trans rfl⟩ (fun hHeld => ?_)
              clear hK K
              refine norm_ (a' := ?_) ?_ ?_
              rotate_left
              ·
               show Act.put _ (some 40) _ = _
               simp only [Act.put, List.setIfInBounds_toArray, List.set_cons_zero, List.set_cons_succ, i64_w, i32_w]
               rfl
              refine one_ (i := 20) (N := some 41) #[true, true, true, true, true, true, true, true, true, true, true, true, true, true, true, true, true, true, true, true, true, false, true, true, false, false, true, true, false, false, false] rfl rfl (one_of HT_.out (by kernel_rfl)) (by decide) (fun K hK => ?_)
              refine goes_ Try.func42 (by kernel_rfl) rfl #[.int .i64 t120, .int .i64 2] (by rfl) rfl rfl (by (try simp only [List.map_toArray, List.map_cons, List.map_nil]); first | done | rfl | (simp only [List.length_drop, List.length_take]; rfl)) ?_
              with_reducible refine (sum_Big.calls k t120 2 t121 _ A17.out).mono ?_
              rintro e w42 ⟨rfl, hb⟩
              refine ⟨_, rfl, ?_⟩
              have n0_ := Aside0.mk (blk_below (g := gb114) (o := .cells #[.int .i64 a0_0, .int .i64 a0_1, .bool a0_2, .bool a0_3, .int .i64 a0_4, .int .i64 a0_5, .int .i64 a0_6, .int .u32 a0_7, .int .u32 a0_8, .string a0_9] 24 (0, 0)) (by (with_reducible repeat (first | refine blk_drewN ?_ _ | refine blk_drew ?_ | refine blk_alloc ?_ _)); exact BK114.out) hb)
              have n1_ := Aside0.mk (below_step (by repeat (first | (with_reducible first | exact HB.out | apply below_alloc | apply pw_below_drewN | apply below_drew1 | refine below_set ?_ GE114.out) | exact HB.out)) hb)
              clear BK114
              clear HB
              have BK114 := n0_
              have HB := n1_
              clear n0_ n1_
              (try clear hb)
              (try clear hb2)
              (try clear hk)
              (try clear hi)
              refine hK.out _ _ ⟨(blk_cell BK114.out 0).trans rfl, (blk_cell BK114.out 1).trans rfl, (blk_cell BK114.out 2).trans rfl, (blk_cell BK114.out 3).trans rfl, (blk_cell BK114.out 4).trans rfl, (blk_cell BK114.out 5).trans rfl, (blk_cell BK114.out 6).trans rfl, (blk_cell BK114.out 7).trans rfl, (blk_cell BK114.out 8).trans rfl, (blk_cell BK114.out 9).trans rfl⟩ (fun hHeld => ?_)
              clear hK K
              refine norm_ (a' := ?_) ?_ ?_
              rotate_left
              ·
               show Act.put _ (some 41) _ = _
               simp only [Act.put, List.setIfInBounds_toArray, List.set_cons_zero, List.set_cons_succ, i64_w, i32_w]
               rfl
              refine pure_ (i := 21) (N := some 42) (v := ?_) (a' := ?_) #[true, true, true, true, true, true, true, true, true, true, true, true, true, true, true, true, true, true, true, true, true, true, true, true, false, false, true, true, false, false, false] rfl rfl (any_of HT_.out (by kernel_rfl)) (fun _ _ _ h => h) (Or.inl ⟨by rfl, ?_⟩) ?_ ?_
              rotate_left
              ·
               intro w'
               go_simp
               with_reducible rfl
              rotate_left
              ·
               simp only [Act.put, List.setIfInBounds_toArray, List.set_cons_zero, List.set_cons_succ, i64_w, i32_w]
               rfl
              refine one_ (i := 24) (N := some 45) #[true, true, true, true, true, true, true, true, true, true, true, true, true, true, true, true, true, true, true, true, true, true, true, true, true, false, true, true, false, false, false] rfl rfl (one_of HT_.out (by kernel_rfl)) (by decide) (fun K hK => ?_)
              refine goes_ Try.func42 (by kernel_rfl) rfl #[.int .i64 a0_5, .int .i64 1] (by rfl) rfl rfl (by (try simp only [List.map_toArray, List.map_cons, List.map_nil]); first | done | rfl | (simp only [List.length_drop, List.length_take]; rfl)) ?_
              with_reducible refine (sum_Big.calls k a0_5 1 t122 _ A19.out).mono ?_
              rintro e w43 ⟨rfl, hb⟩
              refine ⟨_, rfl, ?_⟩
              have n0_ := Aside0.mk (blk_below (g := gb114) (o := .cells #[.int .i64 a0_0, .int .i64 a0_1, .bool a0_2, .bool a0_3, .int .i64 a0_4, .int .i64 a0_5, .int .i64 a0_6, .int .u32 a0_7, .int .u32 a0_8, .string a0_9] 24 (0, 0)) (by (with_reducible repeat (first | refine blk_drewN ?_ _ | refine blk_drew ?_ | refine blk_alloc ?_ _)); exact BK114.out) hb)
              have n1_ := Aside0.mk (below_step (by repeat (first | (with_reducible first | exact HB.out | apply below_alloc | apply pw_below_drewN | apply below_drew1 | refine below_set ?_ GE114.out) | exact HB.out)) hb)
              clear BK114
              clear HB
              have BK114 := n0_
              have HB := n1_
              clear n0_ n1_
              (try clear hb)
              (try clear hb2)
              (try clear hk)
              (try clear hi)
              refine hK.out _ _ ⟨(blk_cell BK114.out 0).trans rfl, (blk_cell BK114.out 1).trans rfl, (blk_cell BK114.out 2).trans rfl, (blk_cell BK114.out 3).trans rfl, (blk_cell BK114.out 4).trans rfl, (blk_cell BK114.out 5).trans rfl, (blk_cell BK114.out 6).trans rfl, (blk_cell BK114.out 7).trans rfl, (blk_cell BK114.out 8).trans rfl, (blk_cell BK114.out 9).trans rfl⟩ (fun hHeld => ?_)
              clear hK K
              refine norm_ (a' := ?_) ?_ ?_
              rotate_left
              ·
               show Act.put _ (some 45) _ = _
               simp only [Act.put, List.setIfInBounds_toArray, List.set_cons_zero, List.set_cons_succ, i64_w, i32_w]
               rfl
              refine pure_ (i := 25) (N := some 46) (v := ?_) (a' := ?_) #[true, true, true, true, true, true, true, true, true, true, true, true, true, true, true, true, true, true, true, true, true, true, true, true, true, true, true, true, false, false, false] rfl rfl (any_of HT_.out (by kernel_rfl)) (fun _ _ _ h => h) (Or.inl ⟨by rfl, ?_⟩) ?_ ?_
              rotate_left
              ·
               intro w'
               go_simp
               with_reducible rfl
              rotate_left
              ·
               simp only [Act.put, List.setIfInBounds_toArray, List.set_cons_zero, List.set_cons_succ, i64_w, i32_w]
               rfl
              refine one_ (i := 28) (N := some 49) #[true, true, true, true, true, true, true, true, true, true, true, true, true, true, true, true, true, true, true, true, true, true, true, true, true, true, true, true, true, false, false] rfl rfl (one_of HT_.out (by kernel_rfl)) (by decide) (fun K hK => ?_)
              refine goes_ Try.func42 (by kernel_rfl) rfl #[.int .i64 a0_6, .int .i64 1] (by rfl) rfl rfl (by (try simp only [List.map_toArray, List.map_cons, List.map_nil]); first | done | rfl | (simp only [List.length_drop, List.length_take]; rfl)) ?_
              with_reducible refine (sum_Big.calls k a0_6 1 t123 _ A21.out).mono ?_
              rintro e w44 ⟨rfl, hb⟩
              refine ⟨_, rfl, ?_⟩
              have n0_ := Aside0.mk (blk_below (g := gb114) (o := .cells #[.int .i64 a0_0, .int .i64 a0_1, .bool a0_2, .bool a0_3, .int .i64 a0_4, .int .i64 a0_5, .int .i64 a0_6, .int .u32 a0_7, .int .u32 a0_8, .string a0_9] 24 (0, 0)) (by (with_reducible repeat (first | refine blk_drewN ?_ _ | refine blk_drew ?_ | refine blk_alloc ?_ _)); exact BK114.out) hb)
              have n1_ := Aside0.mk (below_step (by repeat (first | (with_reducible first | exact HB.out | apply below_alloc | apply pw_below_drewN | apply below_drew1 | refine below_set ?_ GE114.out) | exact HB.out)) hb)
              clear BK114
              clear HB
              have BK114 := n0_
              have HB := n1_
              clear n0_ n1_
              (try clear hb)
              (try clear hb2)
              (try clear hk)
              (try clear hi)
              refine hK.out _ _ ⟨(blk_cell BK114.out 0).trans rfl, (blk_cell BK114.out 1).trans rfl, (blk_cell BK114.out 2).trans rfl, (blk_cell BK114.out 3).trans rfl, (blk_cell BK114.out 4).trans rfl, (blk_cell BK114.out 5).trans rfl, (blk_cell BK114.out 6).trans rfl, (blk_cell BK114.out 7).trans rfl, (blk_cell BK114.out 8).trans rfl, (blk_cell BK114.out 9).trans rfl⟩ (fun hHeld => ?_)
              clear hK K
              refine norm_ (a' := ?_) ?_ ?_
              rotate_left
              ·
               show Act.put _ (some 49) _ = _
               simp only [Act.put, List.setIfInBounds_toArray, List.set_cons_zero, List.set_cons_succ, i64_w, i32_w]
               rfl
              refine pure_ (i := 29) (N := some 50) (v := ?_) (a' := ?_) #[true, true, true, true, true, true, true, true, true, true, true, true, true, true, true, true, true, true, true, true, true, true, true, true, true, true, true, true, true, true, false] rfl rfl (any_of HT_.out (by kernel_rfl)) (fun _ _ _ h => h) (Or.inl ⟨by rfl, ?_⟩) ?_ ?_
              rotate_left
              ·
               intro w'
               go_simp
               with_reducible rfl
              rotate_left
              ·
               simp only [Act.put, List.setIfInBounds_toArray, List.set_cons_zero, List.set_cons_succ, i64_w, i32_w]
               rfl
              refine pure_ (i := 30) (N := some 7) (v := ?_) (a' := ?_) #[true, true, true, true, true, true, true, true, true, true, true, true, true, true, true, true, true, true, true, true, true, true, true, true, true, true, true, true, true, true, true] rfl rfl (any_of HT_.out (by kernel_rfl)) (fun _ _ _ h => h) (Or.inl ⟨by rfl, ?_⟩) ?_ ?_
              rotate_left
              ·
               intro w'
               go_simp
               with_reducible rfl
              rotate_left
              ·
               simp only [Act.put, List.setIfInBounds_toArray, List.set_cons_zero, List.set_cons_succ, i64_w, i32_w]
               rfl
              refine done_ (done_of HT_.out (by kernel_rfl)) ?_
              try go_wp2
              have n0_ := Aside0.mk (blk_drew BK114.out)
              have n1_ := Aside0.mk (below_drew1 HB.out)
              clear BK114
              clear HB
              have BK114 := n0_
              have HB := n1_
              clear n0_ n1_
              refine start_ (n := 13) (S := fun w' => w'.cell? ⟨gb114, 0, none⟩ = some (.int .i64 a0_0) ∧ w'.cell? ⟨gb114, 1, none⟩ = some (.int .i64 a0_1) ∧ w'.cell? ⟨gb114, 2, none⟩ = some (.bool a0_2) ∧ w'.cell? ⟨gb114, 3, none⟩ = some (.bool a0_3) ∧ w'.cell? ⟨gb114, 4, none⟩ = some (.int .i64 a0_4) ∧ w'.cell? ⟨gb114, 5, none⟩ = some (.int .i64 a0_5) ∧ w'.cell? ⟨gb114, 6, none⟩ = some (.int .i64 a0_6) ∧ w'.cell? ⟨gb114, 7, none⟩ = some (.int .u32 a0_7) ∧ w'.cell? ⟨gb114, 8, none⟩ = some (.int .u32 a0_8) ∧ w'.cell? ⟨gb114, 9, none⟩ = some (.string a0_9)) (ds := []) #[false, false, false, false, false, false, false, false, false, false, false, false, false] (by kernel_rfl) rfl rfl ⟨(blk_cell BK114.out 0).trans rfl, (blk_cell BK114.out 1).trans rfl, (blk_cell BK114.out 2).trans rfl, (blk_cell BK114.out 3).trans rfl, (blk_cell BK114.out 4).trans rfl, (blk_cell BK114.out 5).trans rfl, (blk_cell BK114.out 6).trans rfl, (blk_cell BK114.out 7).trans rfl, (blk_cell BK114.out 8).trans rfl, (blk_cell BK114.out 9).trans rfl⟩ (fun hHeld => ?_); refine with_tabW ipv4_Put.tab7 ipv4_Put.bits7 (fun HT_ HW_ => ?_)
              generalize w44.drew = w45 at BK114 HB hHeld ⊢
              refine pure_ (i := 0) (N := some 51) (v := ?_) (a' := ?_) #[true, false, false, false, false, false, false, false, false, false, false, false, false] rfl rfl (any_of HT_.out (by kernel_rfl)) (fun _ _ _ h => h) (Or.inl ⟨by rfl, ?_⟩) ?_ ?_
              rotate_left
              ·
               intro w'
               go_simp
               with_reducible rfl
              rotate_left
              ·
               simp only [Act.put, List.setIfInBounds_toArray, List.set_cons_zero, List.set_cons_succ, i64_w, i32_w]
               rfl
              refine pure_ (i := 4) (N := some 55) (v := ?_) (a' := ?_) #[true, false, false, false, true, false, false, false, false, false, false, false, false] rfl rfl (any_of HT_.out (by kernel_rfl)) (fun _ _ _ h => h) (Or.inl ⟨by rfl, ?_⟩) ?_ ?_
              rotate_left
              ·
               intro w'
               go_simp
               with_reducible rfl
              rotate_left
              ·
               simp only [Act.put, List.setIfInBounds_toArray, List.set_cons_zero, List.set_cons_succ, i64_w, i32_w]
               rfl
              refine pure_ (i := 9) (N := some 60) (v := ?_) (a' := ?_) #[true, false, false, false, true, false, false, false, false, true, false, false, false] rfl rfl (any_of HT_.out (by kernel_rfl)) (fun _ _ _ h => h) (Or.inl ⟨by rfl, ?_⟩) ?_ ?_
              rotate_left
              ·
               intro w'
               go_simp
               with_reducible rfl
              rotate_left
              ·
               simp only [Act.put, List.setIfInBounds_toArray, List.set_cons_zero, List.set_cons_succ, i64_w, i32_w]
               rfl
              refine take_ (i := 1) (N := some 52) (v := ?_) (a' := ?_) #[true, true, false, false, true, false, false, false, false, true, false, false, false] rfl rfl (take_ofW HT_.out HW_.out (by kernel_rfl)) (fun _ _ _ h => h) (Or.inl ⟨by rfl, ?_⟩) hHeld ?_ ?_
              rotate_left
              ·
               rintro w' ⟨s0, s1, s2, s3, s4, s5, s6, s7, s8, s9⟩
               go_simp
               with_reducible rfl
              rotate_left
              ·
               simp only [Act.put, List.setIfInBounds_toArray, List.set_cons_zero, List.set_cons_succ, i64_w, i32_w]
               rfl
              refine pure_ (i := 2) (N := some 53) (v := ?_) (a' := ?_) #[true, true, true, false, true, false, false, false, false, true, false, false, false] rfl rfl (any_of HT_.out (by kernel_rfl)) (fun _ _ _ h => h) (Or.inl ⟨by rfl, ?_⟩) ?_ ?_
              rotate_left
              ·
               intro w'
               go_simp
               with_reducible rfl
              rotate_left
              ·
               simp only [Act.put, List.setIfInBounds_toArray, List.set_cons_zero, List.set_cons_succ, i64_w, i32_w]
               rfl
              refine take_ (i := 5) (N := some 56) (v := ?_) (a' := ?_) #[true, true, true, false, true, true, false, false, false, true, false, false, false] rfl rfl (take_ofW HT_.out HW_.out (by kernel_rfl)) (fun _ _ _ h => h) (Or.inl ⟨by rfl, ?_⟩) hHeld ?_ ?_
              rotate_left
              ·
               rintro w' ⟨s0, s1, s2, s3, s4, s5, s6, s7, s8, s9⟩
               go_simp
               with_reducible rfl
              rotate_left
              ·
               simp only [Act.put, List.setIfInBounds_toArray, List.set_cons_zero, List.set_cons_succ, i64_w, i32_w]
               rfl
              refine pure_ (i := 6) (N := some 57) (v := ?_) (a' := ?_) #[true, true, true, false, true, true, true, false, false, true, false, false, false] rfl rfl (any_of HT_.out (by kernel_rfl)) (fun _ _ _ h => h) (Or.inl ⟨by rfl, ?_⟩) ?_ ?_
              rotate_left
              ·
               intro w'
               go_simp
               with_reducible rfl
              rotate_left
              ·
               simp only [Act.put, List.setIfInBounds_toArray, List.set_cons_zero, List.set_cons_succ, i64_w, i32_w]
               rfl
              refine take_ (i := 10) (N := some 61) (v := ?_) (a' := ?_) #[true, true, true, false, true, true, true, false, false, true, true, false, false] rfl rfl (take_ofW HT_.out HW_.out (by kernel_rfl)) (fun _ _ _ h => h) (Or.inl ⟨by rfl, ?_⟩) hHeld ?_ ?_
              rotate_left
              ·
               rintro w' ⟨s0, s1, s2, s3, s4, s5, s6, s7, s8, s9⟩
               go_simp
               with_reducible rfl
              rotate_left
              ·
               simp only [Act.put, List.setIfInBounds_toArray, List.set_cons_zero, List.set_cons_succ, i64_w, i32_w]
               rfl
              refine one_ (i := 3) (N := some 54) #[true, true, true, true, true, true, true, false, false, true, true, false, false] rfl rfl (one_of HT_.out (by kernel_rfl)) (by decide) (fun K hK => ?_)
              refine goes_ Try.func42 (by kernel_rfl) rfl #[.int .i64 (wrap64 (a0_7)), .int .i64 4] (by rfl) rfl rfl (by (try simp only [List.map_toArray, List.map_cons, List.map_nil]); first | done | rfl | (simp only [List.length_drop, List.length_take]; rfl)) ?_
              with_reducible refine (sum_Big.calls k (wrap64 (a0_7)) 4 t124 _ A23.out).mono ?_
              rintro e w46 ⟨rfl, hb⟩
              refine ⟨_, rfl, ?_⟩
              have n0_ := Aside0.mk (blk_below (g := gb114) (o := .cells #[.int .i64 a0_0, .int .i64 a0_1, .bool a0_2, .bool a0_3, .int .i64 a0_4, .int .i64 a0_5, .int .i64 a0_6, .int .u32 a0_7, .int .u32 a0_8, .string a0_9] 24 (0, 0)) (by (with_reducible repeat (first | refine blk_drewN ?_ _ | refine blk_drew ?_ | refine blk_alloc ?_ _)); exact BK114.out) hb)
              have n1_ := Aside0.mk (below_step (by repeat (first | (with_reducible first | exact HB.out | apply below_alloc | apply pw_below_drewN | apply below_drew1 | refine below_set ?_ GE114.out) | exact HB.out)) hb)
              clear BK114
              clear HB
              have BK114 := n0_
              have HB := n1_
              clear n0_ n1_
              (try clear hb)
              (try clear hb2)
              (try clear hk)
              (try clear hi)
              refine hK.out _ _ ⟨(blk_cell BK114.out 0).trans rfl, (blk_cell BK114.out 1).trans rfl, (blk_cell BK114.out 2).trans rfl, (blk_cell BK114.out 3).trans rfl, (blk_cell BK114.out 4).trans rfl, (blk_cell BK114.out 5).trans rfl, (blk_cell BK114.out 6).trans rfl, (blk_cell BK114.out 7).trans rfl, (blk_cell BK114.out 8).trans rfl, (blk_cell BK114.out 9).trans rfl⟩ (fun hHeld => ?_)
              clear hK K
              refine norm_ (a' := ?_) ?_ ?_
              rotate_left
              ·
               show Act.put _ (some 54) _ = _
               simp only [Act.put, List.setIfInBounds_toArray, List.set_cons_zero, List.set_cons_succ, i64_w, i32_w]
               rfl
              refine one_ (i := 7) (N := some 58) #[true, true, true, true, true, true, true, true, false, true, true, false, false] rfl rfl (one_of HT_.out (by kernel_rfl)) (by decide) (fun K hK => ?_)
              refine goes_ Try.func42 (by kernel_rfl) rfl #[.int .i64 (wrap64 (a0_8)), .int .i64 4] (by rfl) rfl rfl (by (try simp only [List.map_toArray, List.map_cons, List.map_nil]); first | done | rfl | (simp only [List.length_drop, List.length_take]; rfl)) ?_
              with_reducible refine (sum_Big.calls k (wrap64 (a0_8)) 4 t125 _ A24.out).mono ?_
              rintro e w47 ⟨rfl, hb⟩
              refine ⟨_, rfl, ?_⟩
              have n0_ := Aside0.mk (blk_below (g := gb114) (o := .cells #[.int .i64 a0_0, .int .i64 a0_1, .bool a0_2, .bool a0_3, .int .i64 a0_4, .int .i64 a0_5, .int .i64 a0_6, .int .u32 a0_7, .int .u32 a0_8, .string a0_9] 24 (0, 0)) (by (with_reducible repeat (first | refine blk_drewN ?_ _ | refine blk_drew ?_ | refine blk_alloc ?_ _)); exact BK114.out) hb)
              have n1_ := Aside0.mk (below_step (by repeat (first | (with_reducible first | exact HB.out | apply below_alloc | apply pw_below_drewN | apply below_drew1 | refine below_set ?_ GE114.out) | exact HB.out)) hb)
              clear BK114
              clear HB
              have BK114 := n0_
              have HB := n1_
              clear n0_ n1_
              (try clear hb)
              (try clear hb2)
              (try clear hk)
              (try clear hi)
              refine hK.out _ _ ⟨(blk_cell BK114.out 0).trans rfl, (blk_cell BK114.out 1).trans rfl, (blk_cell BK114.out 2).trans rfl, (blk_cell BK114.out 3).trans rfl, (blk_cell BK114.out 4).trans rfl, (blk_cell BK114.out 5).trans rfl, (blk_cell BK114.out 6).trans rfl, (blk_cell BK114.out 7).trans rfl, (blk_cell BK114.out 8).trans rfl, (blk_cell BK114.out 9).trans rfl⟩ (fun hHeld => ?_)
              clear hK K
              refine norm_ (a' := ?_) ?_ ?_
              rotate_left
              ·
               show Act.put _ (some 58) _ = _
               simp only [Act.put, List.setIfInBounds_toArray, List.set_cons_zero, List.set_cons_succ, i64_w, i32_w]
               rfl
              refine pure_ (i := 8) (N := some 59) (v := ?_) (a' := ?_) #[true, true, true, true, true, true, true, true, true, true, true, false, false] rfl rfl (any_of HT_.out (by kernel_rfl)) (fun _ _ _ h => h) (Or.inl ⟨by rfl, ?_⟩) ?_ ?_
              rotate_left
              ·
               intro w'
               go_simp
               with_reducible rfl
              rotate_left
              ·
               simp only [Act.put, List.setIfInBounds_toArray, List.set_cons_zero, List.set_cons_succ, i64_w, i32_w]
               rfl
              refine pure_ (i := 11) (N := some 62) (v := ?_) (a' := ?_) #[true, true, true, true, true, true, true, true, true, true, true, true, false] rfl rfl (any_of HT_.out (by kernel_rfl)) (fun _ _ _ h => h) (Or.inl ⟨by rfl, ?_⟩) ?_ ?_
              rotate_left
              ·
               intro w'
               go_simp
               with_reducible rfl
              rotate_left
              ·
               simp only [Act.put, List.setIfInBounds_toArray, List.set_cons_zero, List.set_cons_succ, i64_w, i32_w]
               rfl
              refine pure_ (i := 12) (N := some 8) (v := ?_) (a' := ?_) #[true, true, true, true, true, true, true, true, true, true, true, true, true] rfl rfl (any_of HT_.out (by kernel_rfl)) (fun _ _ _ h => h) (Or.inl ⟨by rfl, ?_⟩) ?_ ?_
              rotate_left
              ·
               intro w'
               go_simp
               with_reducible rfl
              rotate_left
              ·
               simp only [Act.put, List.setIfInBounds_toArray, List.set_cons_zero, List.set_cons_succ, i64_w, i32_w]
               rfl
              refine done_ (done_of HT_.out (by kernel_rfl)) ?_
              try go_wp2_with (first | ((with_reducible refine gate_dst (N := 66) rfl ?_); refine Kd.R_lit Kd.string _ 9 ?hg (N := 66) ?hd (xs := ([(((((t116 ++ t117) ++ t118) ++ t119) ++ t121) ++ t122) ++ t123, (⟨#[0, 0]⟩ : ByteArray), (t124 ++ t125) ++ a0_9] : List ByteArray)) (inner := [.string ((((((t116 ++ t117) ++ t118) ++ t119) ++ t121) ++ t122) ++ t123), .string (⟨#[0, 0]⟩ : ByteArray), .string ((t124 ++ t125) ++ a0_9)]) (ok := fun _ => True) (okp := fun _ => True) ?hr ?hp (fun _ hk => hk) trivial (Below.refl _ _) (Nat.le_refl _) (by simp) ?_; (case hd => rfl); (case hg => rfl); (case hr => first | (go_simp; done) | (go_simp; rfl)); (case hp => exact (Reps.one (show Kd.M Kd.string _ _ _ ((((((t116 ++ t117) ++ t118) ++ t119) ++ t121) ++ t122) ++ t123) [.string ((((((t116 ++ t117) ++ t118) ++ t119) ++ t121) ++ t122) ++ t123)] from rfl) (Reps.one (show Kd.M Kd.string _ _ _ (⟨#[0, 0]⟩ : ByteArray) [.string (⟨#[0, 0]⟩ : ByteArray)] from rfl) (Reps.one (show Kd.M Kd.string _ _ _ ((t124 ++ t125) ++ a0_9) [.string ((t124 ++ t125) ++ a0_9)] from rfl) (Reps.none _ _))))); intro v127 w48 ho49 hb hg_ hnew_; clear hg_ hnew_; (first | rw [← Ny126.out] at ho49 | (simp only [Int.reduceToNat] at ho49; rw [← Ny126.out] at ho49)); have n0_ := Aside0.mk (Kd.R_lower ho49 (below_size (by repeat (first | (with_reducible first | exact HB.out | apply below_alloc | apply pw_below_drewN | apply below_drew1 | refine below_set ?_ GE114.out) | exact HB.out)))); have n1_ := Aside0.mk (blk_below (g := gb114) (o := .cells #[.int .i64 a0_0, .int .i64 a0_1, .bool a0_2, .bool a0_3, .int .i64 a0_4, .int .i64 a0_5, .int .i64 a0_6, .int .u32 a0_7, .int .u32 a0_8, .string a0_9] 24 (0, 0)) (by (with_reducible repeat (first | refine blk_drewN ?_ _ | refine blk_drew ?_ | refine blk_alloc ?_ _)); exact BK114.out) hb); have n2_ := Aside0.mk (below_step (by repeat (first | (with_reducible first | exact HB.out | apply below_alloc | apply pw_below_drewN | apply below_drew1 | refine below_set ?_ GE114.out) | exact HB.out)) hb); clear BK114; clear HB; have HO128 := n0_; have BK114 := n1_; have HB := n2_; clear n0_ n1_ n2_; clear hb ho49; obtain ⟨Ao50, co50, eo50⟩ := Kd.R_slice HO128.out; subst eo50) | ((with_reducible refine gate_callee (f := 44) rfl ?_); refine goesL_ (some 67) rfl rfl Try.func44 (by kernel_rfl) rfl #[.slice Ao50 y126.length co50] rfl (by (try simp only [List.map_toArray, List.map_cons, List.map_nil]); first | done | rfl | (simp only [List.length_drop, List.length_take]; rfl)) ?_; (with_reducible refine (sum_Of.calls k _ _ y126 t129 _ ?side1 ?side2 A27.out).mono ?_); (case side1 => repeat (first | exact (Kd.R_reads' HO128.out).2.2 | (with_reducible refine Kd.C_alloc ?_ _) | (with_reducible refine Kd.C_drewN ?_ _) | (with_reducible refine Kd.C_drew ?_))); (case side2 => exact (Kd.R_reads' HO128.out).2.1); rintro e w' ⟨rfl, ⟨nd, rfl⟩⟩; refine ⟨_, rfl, ?_⟩) | ((with_reducible refine gate_callee (f := 42) rfl ?_); refine goesL_ (some 68) rfl rfl Try.func42 (by kernel_rfl) rfl #[.int .i64 t129, .int .i64 2] rfl (by (try simp only [List.map_toArray, List.map_cons, List.map_nil]); first | done | rfl | (simp only [List.length_drop, List.length_take]; rfl)) ?_; (with_reducible refine (sum_Big.calls k t129 2 t130 _ A28.out).mono ?_); rintro e w51 ⟨rfl, hb⟩; refine ⟨_, rfl, ?_⟩; have n0_ := Aside0.mk (Kd.R_below (by (with_reducible repeat (first | apply Kd.R_alloc | apply Kd.R_drewN | apply Kd.R_drew)); exact HO128.out) hb); have n1_ := Aside0.mk (blk_below (g := gb114) (o := .cells #[.int .i64 a0_0, .int .i64 a0_1, .bool a0_2, .bool a0_3, .int .i64 a0_4, .int .i64 a0_5, .int .i64 a0_6, .int .u32 a0_7, .int .u32 a0_8, .string a0_9] 24 (0, 0)) (by (with_reducible repeat (first | refine blk_drewN ?_ _ | refine blk_drew ?_ | refine blk_alloc ?_ _)); exact BK114.out) hb); have n2_ := Aside0.mk (below_step (by repeat (first | (with_reducible first | exact HB.out | apply below_alloc | apply pw_below_drewN | apply below_drew1 | refine below_set ?_ GE114.out) | exact HB.out)) hb); clear HO128; clear BK114; clear HB; have HO128 := n0_; have BK114 := n1_; have HB := n2_; clear n0_ n1_ n2_; (try clear hb); (try clear hb2); (try clear hk); (try clear hi)))
              go_ret2
              exact ⟨by first | rfl | (simp [errW_none, errW_some] <;> rfl) | (simp [*, errW_none, errW_some] <;> rfl), by repeat (first | (with_reducible first | exact HB.out | apply below_alloc | apply pw_below_drewN | apply below_drew1 | refine below_set ?_ GE114.out) | exact HB.out)⟩
             ·
              rw [if_neg c31] at H
              exact absurd H (by simp)
            ·
             rw [if_neg c30] at H
             exact absurd H (by simp)
           ·
            rw [if_neg c29] at H
            exact absurd H (by simp)
          ·
           rw [if_neg c26] at H
           exact absurd H (by simp)
         ·
          rw [if_neg c25] at H
          exact absurd H (by simp)
        ·
         rw [if_neg c22] at H
         exact absurd H (by simp)
       ·
        rw [if_neg c20] at H
        exact absurd H (by simp)
      ·
       rw [if_neg c18] at H
       exact absurd H (by simp)
     ·
      rw [if_neg c15] at H
      exact absurd H (by simp)
    ·
     rw [if_neg c13] at H
     exact absurd H (by simp)
   ·
    rw [if_neg c11] at H
    exact absurd H (by simp)
 ·
  replace c4 := Bool.eq_false_iff.mpr c4
  subst c4
  have H1 : (some ((⟨#[]⟩ : ByteArray), 1)) = some (r1, r2) := by rw [if_neg (show ¬ (false = true) by decide)] at H; exact H
  clear H
  have H := H1
  clear H1
  simp only [Option.some.injEq, Prod.mk.injEq] at H
  obtain ⟨rfl, rfl⟩ := H
  go_enter Try.func16, Try.ntmps16
  go_wp2_with (first | ((with_reducible refine gate_dst (N := 2) rfl ?_); refine box_event ?hg (N := 2) ?hd (cs := #[.int .i64 a0_0, .int .i64 a0_1, .bool a0_2, .bool a0_3, .int .i64 a0_4, .int .i64 a0_5, .int .i64 a0_6, .int .u32 a0_7, .int .u32 a0_8, .string a0_9]) (t := 24) ?hr ?_; (case hd => rfl); (case hg => rfl); (case hr => first | (go_simp; done) | (go_simp; rfl)); intro gb114 hg w52 hbox hb; have n0_ := Aside0.mk (below_step (by repeat (first | (with_reducible first | exact HB.out | apply below_alloc | apply pw_below_drewN | apply below_drew1) | exact HB.out)) hb); have n1_ := Aside0.mk (hbox); have n2_ := Aside0.mk ((by rw [hg]; exact (below_size (by repeat (first | (with_reducible first | exact HB.out | apply below_alloc | apply pw_below_drewN | apply below_drew1) | exact HB.out))) : w.heap.size ≤ gb114)); have n3_ := Aside0.mk ((by rw [hg]; exact (below_size (by repeat (first | (with_reducible first | exact HB.out | apply below_alloc | apply pw_below_drewN | apply below_drew1) | exact HB.out))) : w.heap.size ≤ gb114)); clear HB; have HB := n0_; have BK114 := n1_; have GW114 := n2_; have GE114 := n3_; clear n0_ n1_ n2_ n3_; clear hb hbox hg; have hcz53_0 : w52.cell? ⟨gb114, 0, none⟩ = some (.int .i64 a0_0) := (blk_cell BK114.out 0).trans rfl; have hcz53_1 : w52.cell? ⟨gb114, 1, none⟩ = some (.int .i64 a0_1) := (blk_cell BK114.out 1).trans rfl; have hcz53_2 : w52.cell? ⟨gb114, 2, none⟩ = some (.bool a0_2) := (blk_cell BK114.out 2).trans rfl; have hcz53_3 : w52.cell? ⟨gb114, 3, none⟩ = some (.bool a0_3) := (blk_cell BK114.out 3).trans rfl; have hcz53_4 : w52.cell? ⟨gb114, 4, none⟩ = some (.int .i64 a0_4) := (blk_cell BK114.out 4).trans rfl; have hcz53_5 : w52.cell? ⟨gb114, 5, none⟩ = some (.int .i64 a0_5) := (blk_cell BK114.out 5).trans rfl; have hcz53_6 : w52.cell? ⟨gb114, 6, none⟩ = some (.int .i64 a0_6) := (blk_cell BK114.out 6).trans rfl; have hcz53_7 : w52.cell? ⟨gb114, 7, none⟩ = some (.int .u32 a0_7) := (blk_cell BK114.out 7).trans rfl; have hcz53_8 : w52.cell? ⟨gb114, 8, none⟩ = some (.int .u32 a0_8) := (blk_cell BK114.out 8).trans rfl; have hcz53_9 : w52.cell? ⟨gb114, 9, none⟩ = some (.string a0_9) := (blk_cell BK114.out 9).trans rfl; have hfz53_0 := blk_frozen BK114.out 0; have hfz53_1 := blk_frozen BK114.out 1; have hfz53_2 := blk_frozen BK114.out 2; have hfz53_3 := blk_frozen BK114.out 3; have hfz53_4 := blk_frozen BK114.out 4; have hfz53_5 := blk_frozen BK114.out 5; have hfz53_6 := blk_frozen BK114.out 6; have hfz53_7 := blk_frozen BK114.out 7; have hfz53_8 := blk_frozen BK114.out 8; have hfz53_9 := blk_frozen BK114.out 9) | ((with_reducible refine gate_callee (f := 20) rfl ?_); refine goesL_ (some 11) rfl rfl Try.func20 (by kernel_rfl) rfl #[.agg #[.int .i64 a0_0, .int .i64 a0_1, .bool a0_2, .bool a0_3, .int .i64 a0_4, .int .i64 a0_5, .int .i64 a0_6, .int .u32 a0_7, .int .u32 a0_8, .string a0_9]] rfl (by (try simp only [List.map_toArray, List.map_cons, List.map_nil]); first | done | rfl | (simp only [List.length_drop, List.length_take]; rfl)) ?_; (with_reducible refine (ipv4_Check.calls a0_0 a0_1 a0_2 a0_3 a0_4 a0_5 a0_6 a0_7 a0_8 a0_9 false _ A3.out).mono ?_); rintro e w54 ⟨rfl, hb⟩; refine ⟨_, rfl, ?_⟩; have n0_ := Aside0.mk (blk_below (g := gb114) (o := .cells #[.int .i64 a0_0, .int .i64 a0_1, .bool a0_2, .bool a0_3, .int .i64 a0_4, .int .i64 a0_5, .int .i64 a0_6, .int .u32 a0_7, .int .u32 a0_8, .string a0_9] 24 (0, 0)) (by (with_reducible repeat (first | refine blk_drewN ?_ _ | refine blk_drew ?_ | refine blk_alloc ?_ _)); exact BK114.out) hb); have n1_ := Aside0.mk (below_step (by repeat (first | (with_reducible first | exact HB.out | apply below_alloc | apply pw_below_drewN | apply below_drew1 | refine below_set ?_ GE114.out) | exact HB.out)) hb); clear BK114; clear HB; have BK114 := n0_; have HB := n1_; clear n0_ n1_; (try clear hb); (try clear hb2); (try clear hk); (try clear hi)))
  go_ret2
  exact ⟨by first | rfl | (simp [errW_none, errW_some] <;> rfl) | (simp [*, errW_none, errW_some] <;> rfl), by repeat (first | (with_reducible first | exact HB.out | apply below_alloc | apply pw_below_drewN | apply below_drew1 | refine below_set ?_ GE114.out) | exact HB.out)⟩

end Go.Proofs.Ytgolimfljndnmaa.HV
