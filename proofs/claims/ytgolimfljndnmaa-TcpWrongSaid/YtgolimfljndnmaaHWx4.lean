/- What is proved: each Go function of this text answers as the plain Lean function beside it (a law: its given row, out of the plain statement). Conditions: those that stand in each theorem. Written by my drive.py, which calls the printer of the kit for what that covers. -/
import Derived.Test.YtgolimfljndnmaaHWx0
import Derived.Test.YtgolimfljndnmaaHWx1
import Derived.Test.YtgolimfljndnmaaHWx2
import Derived.Test.YtgolimfljndnmaaHWx3
namespace Go.Proofs.Ytgolimfljndnmaa.HW
open Go.RowKit Go.Proofs.YtgolimfljndnmaaW.PrintWords Go.Proofs.YtgolimfljndnmaaW.PrintLast Go.Proofs.YtgolimfljndnmaaW.PrintMore
attribute [local go_sem] max2_int min2_int max_two min_two max_three min_three max_four min_four   -- for this text's walks alone
set_option linter.unusedVariables false
set_option linter.unusedSimpArgs false

/-! ### tcp_Put: function 25 -/
def tcp_Put.f (k : Nat) (a0 : Int) (a1 : Int) (a2_0 : Int) (a2_1 : Int) (a2_2 : Int) (a2_3 : Int) (a2_4 : Int) (a2_5 : Int) (a2_6 : ByteArray) (a3 : ByteArray) : Option (ByteArray × Int) := (tcp_head_size.f a2_0 a2_1 a2_2 a2_3 a2_4 a2_5 a2_6 a0 a1).bind fun t120 => ((tcp_Check.f a2_0 a2_1 a2_2 a2_3 a2_4 a2_5 a2_6).bind fun t121 => (if t121 = true then (if (wrap64 (t120 + (a3.size : Int))) > 2000 then (some ((⟨#[]⟩ : ByteArray), 5)) else ((sum_Big.f k a2_0 2).bind fun t122 => ((sum_Big.f k a2_1 2).bind fun t123 => (if t122.size + t123.size ≤ 9223372036854775807 then ((sum_Big.f k (wrap64 (a2_2)) 4).bind fun t124 => (if (t122 ++ t123).size + t124.size ≤ 9223372036854775807 then ((sum_Big.f k (wrap64 (a2_3)) 4).bind fun t125 => (if ((t122 ++ t123) ++ t124).size + t125.size ≤ 9223372036854775807 then ((tcp_head_size.f a2_0 a2_1 a2_2 a2_3 a2_4 a2_5 a2_6 a0 a1).bind fun t126 => ((sum_Big.f k (wrap64 ((wrap64 (Int.tdiv t126 4)) * 16)) 1).bind fun t127 => (if (((t122 ++ t123) ++ t124) ++ t125).size + t127.size ≤ 9223372036854775807 then ((sum_Big.f k a2_4 1).bind fun t128 => (if ((((t122 ++ t123) ++ t124) ++ t125) ++ t127).size + t128.size ≤ 9223372036854775807 then ((sum_Big.f k a2_5 2).bind fun t129 => (if (((((t122 ++ t123) ++ t124) ++ t125) ++ t127) ++ t128).size + t129.size ≤ 9223372036854775807 then (if 2 + a2_6.size ≤ 9223372036854775807 then (if ((⟨#[0, 0]⟩ : ByteArray) ++ a2_6).size + a3.size ≤ 9223372036854775807 then ((tcp_head_pseudo.f k a2_0 a2_1 a2_2 a2_3 a2_4 a2_5 a2_6 a0 a1 (wrap64 (t120 + (a3.size : Int)))).bind fun t130 => ((sum_Of.f k (([t130, (((((t122 ++ t123) ++ t124) ++ t125) ++ t127) ++ t128) ++ t129, (⟨#[0, 0]⟩ : ByteArray), ((⟨#[0, 0]⟩ : ByteArray) ++ a2_6) ++ a3] : List ByteArray))).bind fun t134 => ((sum_Big.f k t134 2).bind fun t135 => (if ((((((t122 ++ t123) ++ t124) ++ t125) ++ t127) ++ t128) ++ t129).size + t135.size ≤ 9223372036854775807 then (if (((((((t122 ++ t123) ++ t124) ++ t125) ++ t127) ++ t128) ++ t129) ++ t135).size + (((⟨#[0, 0]⟩ : ByteArray) ++ a2_6) ++ a3).size ≤ 9223372036854775807 then (some ((((((((t122 ++ t123) ++ t124) ++ t125) ++ t127) ++ t128) ++ t129) ++ t135) ++ (((⟨#[0, 0]⟩ : ByteArray) ++ a2_6) ++ a3), 0)) else (none)) else (none))))) else (none)) else (none)) else (none))) else (none))) else (none)))) else (none))) else (none))) else (none))))) else (some ((⟨#[]⟩ : ByteArray), 1))))
theorem tcp_Put.mono : ∀ a0 a1 a2 a3 a4 a5 a6 a7 a8 a9 k, LeO (tcp_Put.f k a0 a1 a2 a3 a4 a5 a6 a7 a8 a9) (tcp_Put.f (k + 1) a0 a1 a2 a3 a4 a5 a6 a7 a8 a9) := by
 intro a0 a1 a2 a3 a4 a5 a6 a7 a8 a9 k
 unfold tcp_Put.f
 repeat' first
   | (with_reducible exact sum_Big.mono _ _ _)
   | (with_reducible exact sum_Of.mono _ _)
   | (with_reducible exact tcp_head_pseudo.mono _ _ _ _ _ _ _ _ _ _ _)
   | (with_reducible exact LeO.refl _)
   | (with_reducible exact LeO.none _)
   | (with_reducible refine LeO.ite ?_ ?_)
   | (with_reducible refine LeO.bind ?_ (fun _ => ?_))
   | exact sum_Big.mono _ _ _
   | exact sum_Of.mono _ _
   | exact tcp_head_pseudo.mono _ _ _ _ _ _ _ _ _ _ _
   | exact LeO.none _
   | refine LeO.ite ?_ ?_
   | refine LeO.bind ?_ (fun _ => ?_)
def tcp_Put.T7 : Bool × List (List Nat × List Nat) := (true, [([], []), ([0], [0]), ([1], [1]), ([2], [2]), ([], []), ([4], [4]), ([5], [5]), ([6, 3], [6]), ([3, 7], [3, 7]), ([], []), ([9], [9]), ([10], [10]), ([11], [11]), ([12, 7], [12]), ([8, 13], [8, 13]), ([], []), ([15], [15]), ([16], [16]), ([17], [17]), ([18, 13], [18]), ([14, 19], [14, 19]), ([], []), ([21, 19], [21]), ([22], [22]), ([23], [23]), ([24, 22], [24]), ([20, 25], [20, 25]), ([], []), ([27], [27]), ([28], [28]), ([29, 25], [29]), ([26, 30], [26, 30]), ([], []), ([32], [32]), ([33], [33]), ([34, 30], [34]), ([31, 35], [31, 35]), ([36, 35, 0, 1, 2, 3, 4, 5, 6, 7, 8, 9, 10, 11, 12, 13, 14, 15, 16, 17, 18, 19, 20, 21, 22, 23, 24, 25, 26, 27, 28, 29, 30, 31, 32, 33, 34, 35, 36], [36])])
def tcp_Put.B7 : List Nat := [0, 1, 3, 7, 0, 16, 48, 127, 255, 0, 512, 1536, 3584, 7935, 16383, 0, 32768, 98304, 229376, 507647, 1048575, 0, 3129087, 7323391, 15711999, 32489215, 67108863, 0, 134217728, 402653184, 1005567743, 2147483647, 0, 4294967296, 12884901888, 32144080639, 68719476735, 137438953471]
theorem tcp_Put.tab7 : rtab .any (opsOf Try.f25 7) = tcp_Put.T7 := by kernel_rfl
theorem tcp_Put.bits7 : waitsOk tcp_Put.T7.2 tcp_Put.B7 = true := by kernel_rfl
set_option maxHeartbeats 8000000 in
set_option maxRecDepth 100000 in
theorem tcp_Put.calls (k : Nat) (a0 : Int) (a1 : Int) (a2_0 : Int) (a2_1 : Int) (a2_2 : Int) (a2_3 : Int) (a2_4 : Int) (a2_5 : Int) (a2_6 : ByteArray) (a3 : ByteArray) (r1 : ByteArray) (r2 : Int) (w : World) (h : tcp_Put.f k a0 a1 a2_0 a2_1 a2_2 a2_3 a2_4 a2_5 a2_6 a3 = some (r1, r2)) :
  Calls Try.prog 25 #[.int .u32 a0, .int .u32 a1, .agg #[.int .i64 a2_0, .int .i64 a2_1, .int .u32 a2_2, .int .u32 a2_3, .int .i64 a2_4, .int .i64 a2_5, .string a2_6], .string a3] w fun e w' => e = .returned (.tuple #[.string r1, .int .i64 r2]) ∧ Below w.heap.size w w' := by
 have hu42 := Try.underlying42
 have hu73 := Try.underlying73
 have HB := Aside0.mk (Below.refl w.heap.size w)
 have H : ((tcp_head_size.f a2_0 a2_1 a2_2 a2_3 a2_4 a2_5 a2_6 a0 a1).bind fun t120 => ((tcp_Check.f a2_0 a2_1 a2_2 a2_3 a2_4 a2_5 a2_6).bind fun t121 => (if t121 = true then (if (wrap64 (t120 + (a3.size : Int))) > 2000 then (some ((⟨#[]⟩ : ByteArray), 5)) else ((sum_Big.f k a2_0 2).bind fun t122 => ((sum_Big.f k a2_1 2).bind fun t123 => (if t122.size + t123.size ≤ 9223372036854775807 then ((sum_Big.f k (wrap64 (a2_2)) 4).bind fun t124 => (if (t122 ++ t123).size + t124.size ≤ 9223372036854775807 then ((sum_Big.f k (wrap64 (a2_3)) 4).bind fun t125 => (if ((t122 ++ t123) ++ t124).size + t125.size ≤ 9223372036854775807 then ((tcp_head_size.f a2_0 a2_1 a2_2 a2_3 a2_4 a2_5 a2_6 a0 a1).bind fun t126 => ((sum_Big.f k (wrap64 ((wrap64 (Int.tdiv t126 4)) * 16)) 1).bind fun t127 => (if (((t122 ++ t123) ++ t124) ++ t125).size + t127.size ≤ 9223372036854775807 then ((sum_Big.f k a2_4 1).bind fun t128 => (if ((((t122 ++ t123) ++ t124) ++ t125) ++ t127).size + t128.size ≤ 9223372036854775807 then ((sum_Big.f k a2_5 2).bind fun t129 => (if (((((t122 ++ t123) ++ t124) ++ t125) ++ t127) ++ t128).size + t129.size ≤ 9223372036854775807 then (if 2 + a2_6.size ≤ 9223372036854775807 then (if ((⟨#[0, 0]⟩ : ByteArray) ++ a2_6).size + a3.size ≤ 9223372036854775807 then ((tcp_head_pseudo.f k a2_0 a2_1 a2_2 a2_3 a2_4 a2_5 a2_6 a0 a1 (wrap64 (t120 + (a3.size : Int)))).bind fun t130 => ((sum_Of.f k (([t130, (((((t122 ++ t123) ++ t124) ++ t125) ++ t127) ++ t128) ++ t129, (⟨#[0, 0]⟩ : ByteArray), ((⟨#[0, 0]⟩ : ByteArray) ++ a2_6) ++ a3] : List ByteArray))).bind fun t134 => ((sum_Big.f k t134 2).bind fun t135 => (if ((((((t122 ++ t123) ++ t124) ++ t125) ++ t127) ++ t128) ++ t129).size + t135.size ≤ 9223372036854775807 then (if (((((((t122 ++ t123) ++ t124) ++ t125) ++ t127) ++ t128) ++ t129) ++ t135).size + (((⟨#[0, 0]⟩ : ByteArray) ++ a2_6) ++ a3).size ≤ 9223372036854775807 then (some ((((((((t122 ++ t123) ++ t124) ++ t125) ++ t127) ++ t128) ++ t129) ++ t135) ++ (((⟨#[0, 0]⟩ : ByteArray) ++ a2_6) ++ a3), 0)) else (none)) else (none))))) else (none)) else (none)) else (none))) else (none))) else (none)))) else (none))) else (none))) else (none))))) else (some ((⟨#[]⟩ : ByteArray), 1))))) = some (r1, r2) := h
 clear h
 replace H := Option.bind_eq_some_iff.mp H
 obtain ⟨t120, A50, H⟩ := H
 replace H : ((tcp_Check.f a2_0 a2_1 a2_2 a2_3 a2_4 a2_5 a2_6).bind fun t121 => (if t121 = true then (if (wrap64 (t120 + (a3.size : Int))) > 2000 then (some ((⟨#[]⟩ : ByteArray), 5)) else ((sum_Big.f k a2_0 2).bind fun t122 => ((sum_Big.f k a2_1 2).bind fun t123 => (if t122.size + t123.size ≤ 9223372036854775807 then ((sum_Big.f k (wrap64 (a2_2)) 4).bind fun t124 => (if (t122 ++ t123).size + t124.size ≤ 9223372036854775807 then ((sum_Big.f k (wrap64 (a2_3)) 4).bind fun t125 => (if ((t122 ++ t123) ++ t124).size + t125.size ≤ 9223372036854775807 then ((tcp_head_size.f a2_0 a2_1 a2_2 a2_3 a2_4 a2_5 a2_6 a0 a1).bind fun t126 => ((sum_Big.f k (wrap64 ((wrap64 (Int.tdiv t126 4)) * 16)) 1).bind fun t127 => (if (((t122 ++ t123) ++ t124) ++ t125).size + t127.size ≤ 9223372036854775807 then ((sum_Big.f k a2_4 1).bind fun t128 => (if ((((t122 ++ t123) ++ t124) ++ t125) ++ t127).size + t128.size ≤ 9223372036854775807 then ((sum_Big.f k a2_5 2).bind fun t129 => (if (((((t122 ++ t123) ++ t124) ++ t125) ++ t127) ++ t128).size + t129.size ≤ 9223372036854775807 then (if 2 + a2_6.size ≤ 9223372036854775807 then (if ((⟨#[0, 0]⟩ : ByteArray) ++ a2_6).size + a3.size ≤ 9223372036854775807 then ((tcp_head_pseudo.f k a2_0 a2_1 a2_2 a2_3 a2_4 a2_5 a2_6 a0 a1 (wrap64 (t120 + (a3.size : Int)))).bind fun t130 => ((sum_Of.f k (([t130, (((((t122 ++ t123) ++ t124) ++ t125) ++ t127) ++ t128) ++ t129, (⟨#[0, 0]⟩ : ByteArray), ((⟨#[0, 0]⟩ : ByteArray) ++ a2_6) ++ a3] : List ByteArray))).bind fun t134 => ((sum_Big.f k t134 2).bind fun t135 => (if ((((((t122 ++ t123) ++ t124) ++ t125) ++ t127) ++ t128) ++ t129).size + t135.size ≤ 9223372036854775807 then (if (((((((t122 ++ t123) ++ t124) ++ t125) ++ t127) ++ t128) ++ t129) ++ t135).size + (((⟨#[0, 0]⟩ : ByteArray) ++ a2_6) ++ a3).size ≤ 9223372036854775807 then (some ((((((((t122 ++ t123) ++ t124) ++ t125) ++ t127) ++ t128) ++ t129) ++ t135) ++ (((⟨#[0, 0]⟩ : ByteArray) ++ a2_6) ++ a3), 0)) else (none)) else (none))))) else (none)) else (none)) else (none))) else (none))) else (none)))) else (none))) else (none))) else (none))))) else (some ((⟨#[]⟩ : ByteArray), 1)))) = some (r1, r2) := H
 have A5 := Aside0.mk A50
 clear A50
 replace H := Option.bind_eq_some_iff.mp H
 obtain ⟨t121, A60, H⟩ := H
 replace H : (if t121 = true then (if (wrap64 (t120 + (a3.size : Int))) > 2000 then (some ((⟨#[]⟩ : ByteArray), 5)) else ((sum_Big.f k a2_0 2).bind fun t122 => ((sum_Big.f k a2_1 2).bind fun t123 => (if t122.size + t123.size ≤ 9223372036854775807 then ((sum_Big.f k (wrap64 (a2_2)) 4).bind fun t124 => (if (t122 ++ t123).size + t124.size ≤ 9223372036854775807 then ((sum_Big.f k (wrap64 (a2_3)) 4).bind fun t125 => (if ((t122 ++ t123) ++ t124).size + t125.size ≤ 9223372036854775807 then ((tcp_head_size.f a2_0 a2_1 a2_2 a2_3 a2_4 a2_5 a2_6 a0 a1).bind fun t126 => ((sum_Big.f k (wrap64 ((wrap64 (Int.tdiv t126 4)) * 16)) 1).bind fun t127 => (if (((t122 ++ t123) ++ t124) ++ t125).size + t127.size ≤ 9223372036854775807 then ((sum_Big.f k a2_4 1).bind fun t128 => (if ((((t122 ++ t123) ++ t124) ++ t125) ++ t127).size + t128.size ≤ 9223372036854775807 then ((sum_Big.f k a2_5 2).bind fun t129 => (if (((((t122 ++ t123) ++ t124) ++ t125) ++ t127) ++ t128).size + t129.size ≤ 9223372036854775807 then (if 2 + a2_6.size ≤ 9223372036854775807 then (if ((⟨#[0, 0]⟩ : ByteArray) ++ a2_6).size + a3.size ≤ 9223372036854775807 then ((tcp_head_pseudo.f k a2_0 a2_1 a2_2 a2_3 a2_4 a2_5 a2_6 a0 a1 (wrap64 (t120 + (a3.size : Int)))).bind fun t130 => ((sum_Of.f k (([t130, (((((t122 ++ t123) ++ t124) ++ t125) ++ t127) ++ t128) ++ t129, (⟨#[0, 0]⟩ : ByteArray), ((⟨#[0, 0]⟩ : ByteArray) ++ a2_6) ++ a3] : List ByteArray))).bind fun t134 => ((sum_Big.f k t134 2).bind fun t135 => (if ((((((t122 ++ t123) ++ t124) ++ t125) ++ t127) ++ t128) ++ t129).size + t135.size ≤ 9223372036854775807 then (if (((((((t122 ++ t123) ++ t124) ++ t125) ++ t127) ++ t128) ++ t129) ++ t135).size + (((⟨#[0, 0]⟩ : ByteArray) ++ a2_6) ++ a3).size ≤ 9223372036854775807 then (some ((((((((t122 ++ t123) ++ t124) ++ t125) ++ t127) ++ t128) ++ t129) ++ t135) ++ (((⟨#[0, 0]⟩ : ByteArray) ++ a2_6) ++ a3), 0)) else (none)) else (none))))) else (none)) else (none)) else (none))) else (none))) else (none)))) else (none))) else (none))) else (none))))) else (some ((⟨#[]⟩ : ByteArray), 1))) = some (r1, r2) := H
 have A6 := Aside0.mk A60
 clear A60
 by_cases c7 : t121 = true
 ·
  subst c7
  have H1 : (if (wrap64 (t120 + (a3.size : Int))) > 2000 then (some ((⟨#[]⟩ : ByteArray), 5)) else ((sum_Big.f k a2_0 2).bind fun t122 => ((sum_Big.f k a2_1 2).bind fun t123 => (if t122.size + t123.size ≤ 9223372036854775807 then ((sum_Big.f k (wrap64 (a2_2)) 4).bind fun t124 => (if (t122 ++ t123).size + t124.size ≤ 9223372036854775807 then ((sum_Big.f k (wrap64 (a2_3)) 4).bind fun t125 => (if ((t122 ++ t123) ++ t124).size + t125.size ≤ 9223372036854775807 then ((tcp_head_size.f a2_0 a2_1 a2_2 a2_3 a2_4 a2_5 a2_6 a0 a1).bind fun t126 => ((sum_Big.f k (wrap64 ((wrap64 (Int.tdiv t126 4)) * 16)) 1).bind fun t127 => (if (((t122 ++ t123) ++ t124) ++ t125).size + t127.size ≤ 9223372036854775807 then ((sum_Big.f k a2_4 1).bind fun t128 => (if ((((t122 ++ t123) ++ t124) ++ t125) ++ t127).size + t128.size ≤ 9223372036854775807 then ((sum_Big.f k a2_5 2).bind fun t129 => (if (((((t122 ++ t123) ++ t124) ++ t125) ++ t127) ++ t128).size + t129.size ≤ 9223372036854775807 then (if 2 + a2_6.size ≤ 9223372036854775807 then (if ((⟨#[0, 0]⟩ : ByteArray) ++ a2_6).size + a3.size ≤ 9223372036854775807 then ((tcp_head_pseudo.f k a2_0 a2_1 a2_2 a2_3 a2_4 a2_5 a2_6 a0 a1 (wrap64 (t120 + (a3.size : Int)))).bind fun t130 => ((sum_Of.f k (([t130, (((((t122 ++ t123) ++ t124) ++ t125) ++ t127) ++ t128) ++ t129, (⟨#[0, 0]⟩ : ByteArray), ((⟨#[0, 0]⟩ : ByteArray) ++ a2_6) ++ a3] : List ByteArray))).bind fun t134 => ((sum_Big.f k t134 2).bind fun t135 => (if ((((((t122 ++ t123) ++ t124) ++ t125) ++ t127) ++ t128) ++ t129).size + t135.size ≤ 9223372036854775807 then (if (((((((t122 ++ t123) ++ t124) ++ t125) ++ t127) ++ t128) ++ t129) ++ t135).size + (((⟨#[0, 0]⟩ : ByteArray) ++ a2_6) ++ a3).size ≤ 9223372036854775807 then (some ((((((((t122 ++ t123) ++ t124) ++ t125) ++ t127) ++ t128) ++ t129) ++ t135) ++ (((⟨#[0, 0]⟩ : ByteArray) ++ a2_6) ++ a3), 0)) else (none)) else (none))))) else (none)) else (none)) else (none))) else (none))) else (none)))) else (none))) else (none))) else (none))))) = some (r1, r2) := by rw [if_pos rfl] at H; exact H
  clear H
  have H := H1
  clear H1
  by_cases c8 : (wrap64 (t120 + (a3.size : Int))) > 2000
  ·
   rw [if_pos c8] at H
   have c8b0 : decide (2000 < (wrap64 (t120 + (a3.size : Int)))) = true := decide_eq_true c8
   clear c8
   simp only [Option.some.injEq, Prod.mk.injEq] at H
   obtain ⟨rfl, rfl⟩ := H
   go_enter Try.func25, Try.ntmps25
   go_wp2_with (first | ((with_reducible refine gate_dst (N := 6) rfl ?_); refine box_event ?hg (N := 6) ?hd (cs := #[.int .i64 a2_0, .int .i64 a2_1, .int .u32 a2_2, .int .u32 a2_3, .int .i64 a2_4, .int .i64 a2_5, .string a2_6]) (t := 42) ?hr ?_; (case hd => rfl); (case hg => rfl); (case hr => first | (go_simp; done) | (go_simp; rfl)); intro gb118 hg w9 hbox hb; have n0_ := Aside0.mk (below_step (by repeat (first | (with_reducible first | exact HB.out | apply below_alloc | apply pw_below_drewN | apply below_drew1) | exact HB.out)) hb); have n1_ := Aside0.mk (hbox); have n2_ := Aside0.mk ((by rw [hg]; exact (below_size (by repeat (first | (with_reducible first | exact HB.out | apply below_alloc | apply pw_below_drewN | apply below_drew1) | exact HB.out))) : w.heap.size ≤ gb118)); have n3_ := Aside0.mk ((by rw [hg]; exact (below_size (by repeat (first | (with_reducible first | exact HB.out | apply below_alloc | apply pw_below_drewN | apply below_drew1) | exact HB.out))) : w.heap.size ≤ gb118)); clear HB; have HB := n0_; have BK118 := n1_; have GW118 := n2_; have GE118 := n3_; clear n0_ n1_ n2_ n3_; clear hb hbox hg; have hcz10_0 : w9.cell? ⟨gb118, 0, none⟩ = some (.int .i64 a2_0) := (blk_cell BK118.out 0).trans rfl; have hcz10_1 : w9.cell? ⟨gb118, 1, none⟩ = some (.int .i64 a2_1) := (blk_cell BK118.out 1).trans rfl; have hcz10_2 : w9.cell? ⟨gb118, 2, none⟩ = some (.int .u32 a2_2) := (blk_cell BK118.out 2).trans rfl; have hcz10_3 : w9.cell? ⟨gb118, 3, none⟩ = some (.int .u32 a2_3) := (blk_cell BK118.out 3).trans rfl; have hcz10_4 : w9.cell? ⟨gb118, 4, none⟩ = some (.int .i64 a2_4) := (blk_cell BK118.out 4).trans rfl; have hcz10_5 : w9.cell? ⟨gb118, 5, none⟩ = some (.int .i64 a2_5) := (blk_cell BK118.out 5).trans rfl; have hcz10_6 : w9.cell? ⟨gb118, 6, none⟩ = some (.string a2_6) := (blk_cell BK118.out 6).trans rfl; have hfz10_0 := blk_frozen BK118.out 0; have hfz10_1 := blk_frozen BK118.out 1; have hfz10_2 := blk_frozen BK118.out 2; have hfz10_3 := blk_frozen BK118.out 3; have hfz10_4 := blk_frozen BK118.out 4; have hfz10_5 := blk_frozen BK118.out 5; have hfz10_6 := blk_frozen BK118.out 6) | ((with_reducible refine gate_dst (N := 10) rfl ?_); refine box_event ?hg (N := 10) ?hd (cs := #[.int .i64 0, .int .i64 0, .int .u32 0, .int .u32 0, .int .i64 0, .int .i64 0, .string (⟨#[]⟩ : ByteArray), .int .u32 0, .int .u32 0]) (t := 73) ?hr ?_; (case hd => rfl); (case hg => rfl); (case hr => first | (go_simp; done) | (go_simp; rfl)); intro gb119 hg w11 hbox hb; have n0_ := Aside0.mk (blk_below (g := gb118) (o := .cells #[.int .i64 a2_0, .int .i64 a2_1, .int .u32 a2_2, .int .u32 a2_3, .int .i64 a2_4, .int .i64 a2_5, .string a2_6] 42 (0, 0)) (by (with_reducible repeat (first | refine blk_drewN ?_ _ | refine blk_drew ?_ | refine blk_alloc ?_ _)); exact BK118.out) hb); have n1_ := Aside0.mk (below_step (by repeat (first | (with_reducible first | exact HB.out | apply below_alloc | apply pw_below_drewN | apply below_drew1 | refine below_set ?_ GE118.out) | exact HB.out)) hb); have n2_ := Aside0.mk (hbox); have n3_ := Aside0.mk ((by rw [hg]; exact (below_size (by repeat (first | (with_reducible first | exact HB.out | apply below_alloc | apply pw_below_drewN | apply below_drew1 | refine below_set ?_ GE118.out) | exact HB.out))) : w.heap.size ≤ gb119)); have n4_ := Aside0.mk ((by rw [hg]; exact (below_size (by repeat (first | (with_reducible first | exact HB.out | apply below_alloc | apply pw_below_drewN | apply below_drew1 | refine below_set ?_ GE118.out) | exact HB.out))) : w.heap.size ≤ gb119)); have n5_ := Aside0.mk ((by rw [hg]; exact Nat.ne_of_lt (blk_lt (g := gb118) (o := .cells #[.int .i64 a2_0, .int .i64 a2_1, .int .u32 a2_2, .int .u32 a2_3, .int .i64 a2_4, .int .i64 a2_5, .string a2_6] 42 (0, 0)) (by (with_reducible repeat (first | refine blk_drewN ?_ _ | refine blk_drew ?_ | refine blk_alloc ?_ _)); exact BK118.out)) : gb118 ≠ gb119)); have n6_ := Aside0.mk ((by rw [hg]; exact Nat.ne_of_gt (blk_lt (g := gb118) (o := .cells #[.int .i64 a2_0, .int .i64 a2_1, .int .u32 a2_2, .int .u32 a2_3, .int .i64 a2_4, .int .i64 a2_5, .string a2_6] 42 (0, 0)) (by (with_reducible repeat (first | refine blk_drewN ?_ _ | refine blk_drew ?_ | refine blk_alloc ?_ _)); exact BK118.out)) : gb119 ≠ gb118)); clear BK118; clear HB; have BK118 := n0_; have HB := n1_; have BK119 := n2_; have GW119 := n3_; have GE119 := n4_; have NB118_119 := n5_; have NB119_118 := n6_; clear n0_ n1_ n2_ n3_ n4_ n5_ n6_; clear hb hbox hg; have hnb12 := NB119_118.out; have hnc12 := NB118_119.out; have hcz13_0 : w11.cell? ⟨gb119, 0, none⟩ = some (.int .i64 0) := (blk_cell BK119.out 0).trans rfl; have hcz13_1 : w11.cell? ⟨gb119, 1, none⟩ = some (.int .i64 0) := (blk_cell BK119.out 1).trans rfl; have hcz13_2 : w11.cell? ⟨gb119, 2, none⟩ = some (.int .u32 0) := (blk_cell BK119.out 2).trans rfl; have hcz13_3 : w11.cell? ⟨gb119, 3, none⟩ = some (.int .u32 0) := (blk_cell BK119.out 3).trans rfl; have hcz13_4 : w11.cell? ⟨gb119, 4, none⟩ = some (.int .i64 0) := (blk_cell BK119.out 4).trans rfl; have hcz13_5 : w11.cell? ⟨gb119, 5, none⟩ = some (.int .i64 0) := (blk_cell BK119.out 5).trans rfl; have hcz13_6 : w11.cell? ⟨gb119, 6, none⟩ = some (.string (⟨#[]⟩ : ByteArray)) := (blk_cell BK119.out 6).trans rfl; have hcz13_7 : w11.cell? ⟨gb119, 7, none⟩ = some (.int .u32 0) := (blk_cell BK119.out 7).trans rfl; have hcz13_8 : w11.cell? ⟨gb119, 8, none⟩ = some (.int .u32 0) := (blk_cell BK119.out 8).trans rfl; have hfz13_0 := blk_frozen BK119.out 0; have hfz13_1 := blk_frozen BK119.out 1; have hfz13_2 := blk_frozen BK119.out 2; have hfz13_3 := blk_frozen BK119.out 3; have hfz13_4 := blk_frozen BK119.out 4; have hfz13_5 := blk_frozen BK119.out 5; have hfz13_6 := blk_frozen BK119.out 6; have hfz13_7 := blk_frozen BK119.out 7; have hfz13_8 := blk_frozen BK119.out 8) | ((with_reducible refine gate_callee (f := 53) rfl ?_); refine goesL_ (some 19) rfl rfl Try.func53 (by kernel_rfl) rfl #[.agg #[.int .i64 a2_0, .int .i64 a2_1, .int .u32 a2_2, .int .u32 a2_3, .int .i64 a2_4, .int .i64 a2_5, .string a2_6, .int .u32 a0, .int .u32 a1]] rfl (by (try simp only [List.map_toArray, List.map_cons, List.map_nil]); first | done | rfl | (simp only [List.length_drop, List.length_take]; rfl)) ?_; (with_reducible refine (tcp_head_size.calls a2_0 a2_1 a2_2 a2_3 a2_4 a2_5 a2_6 a0 a1 t120 _ A5.out).mono ?_); rintro e w14 ⟨rfl, hb⟩; refine ⟨_, rfl, ?_⟩; have n0_ := Aside0.mk (blk_below (g := gb118) (o := .cells #[.int .i64 a2_0, .int .i64 a2_1, .int .u32 a2_2, .int .u32 a2_3, .int .i64 a2_4, .int .i64 a2_5, .string a2_6] 42 (0, 0)) (by (with_reducible repeat (first | refine blk_drewN ?_ _ | refine blk_drew ?_ | refine blk_alloc ?_ _)); refine blk_far ?_ NB118_119.out _; (with_reducible repeat (first | refine blk_drewN ?_ _ | refine blk_drew ?_ | refine blk_alloc ?_ _)); refine blk_far ?_ NB118_119.out _; (with_reducible repeat (first | refine blk_drewN ?_ _ | refine blk_drew ?_ | refine blk_alloc ?_ _)); refine blk_far ?_ NB118_119.out _; (with_reducible repeat (first | refine blk_drewN ?_ _ | refine blk_drew ?_ | refine blk_alloc ?_ _)); refine blk_far ?_ NB118_119.out _; (with_reducible repeat (first | refine blk_drewN ?_ _ | refine blk_drew ?_ | refine blk_alloc ?_ _)); refine blk_far ?_ NB118_119.out _; (with_reducible repeat (first | refine blk_drewN ?_ _ | refine blk_drew ?_ | refine blk_alloc ?_ _)); refine blk_far ?_ NB118_119.out _; (with_reducible repeat (first | refine blk_drewN ?_ _ | refine blk_drew ?_ | refine blk_alloc ?_ _)); refine blk_far ?_ NB118_119.out _; (with_reducible repeat (first | refine blk_drewN ?_ _ | refine blk_drew ?_ | refine blk_alloc ?_ _)); refine blk_far ?_ NB118_119.out _; (with_reducible repeat (first | refine blk_drewN ?_ _ | refine blk_drew ?_ | refine blk_alloc ?_ _)); refine blk_far ?_ NB118_119.out _; (with_reducible repeat (first | refine blk_drewN ?_ _ | refine blk_drew ?_ | refine blk_alloc ?_ _)); exact BK118.out) hb); have n1_ := Aside0.mk (blk_below (g := gb119) (o := .cells #[.int .i64 a2_0, .int .i64 a2_1, .int .u32 a2_2, .int .u32 a2_3, .int .i64 a2_4, .int .i64 a2_5, .string a2_6, .int .u32 a0, .int .u32 a1] 73 (0, 0)) (by (with_reducible repeat (first | refine blk_drewN ?_ _ | refine blk_drew ?_ | refine blk_alloc ?_ _)); refine blk_put (cs := #[.int .i64 a2_0, .int .i64 a2_1, .int .u32 a2_2, .int .u32 a2_3, .int .i64 a2_4, .int .i64 a2_5, .string a2_6, .int .u32 a0, .int .u32 0]) ?_ 8 _ rfl; (with_reducible repeat (first | refine blk_drewN ?_ _ | refine blk_drew ?_ | refine blk_alloc ?_ _)); refine blk_put (cs := #[.int .i64 a2_0, .int .i64 a2_1, .int .u32 a2_2, .int .u32 a2_3, .int .i64 a2_4, .int .i64 a2_5, .string a2_6, .int .u32 0, .int .u32 0]) ?_ 7 _ rfl; (with_reducible repeat (first | refine blk_drewN ?_ _ | refine blk_drew ?_ | refine blk_alloc ?_ _)); refine blk_put (cs := #[.int .i64 a2_0, .int .i64 a2_1, .int .u32 a2_2, .int .u32 a2_3, .int .i64 a2_4, .int .i64 a2_5, .string (⟨#[]⟩ : ByteArray), .int .u32 0, .int .u32 0]) ?_ 6 _ rfl; (with_reducible repeat (first | refine blk_drewN ?_ _ | refine blk_drew ?_ | refine blk_alloc ?_ _)); refine blk_put (cs := #[.int .i64 a2_0, .int .i64 a2_1, .int .u32 a2_2, .int .u32 a2_3, .int .i64 a2_4, .int .i64 0, .string (⟨#[]⟩ : ByteArray), .int .u32 0, .int .u32 0]) ?_ 5 _ rfl; (with_reducible repeat (first | refine blk_drewN ?_ _ | refine blk_drew ?_ | refine blk_alloc ?_ _)); refine blk_put (cs := #[.int .i64 a2_0, .int .i64 a2_1, .int .u32 a2_2, .int .u32 a2_3, .int .i64 0, .int .i64 0, .string (⟨#[]⟩ : ByteArray), .int .u32 0, .int .u32 0]) ?_ 4 _ rfl; (with_reducible repeat (first | refine blk_drewN ?_ _ | refine blk_drew ?_ | refine blk_alloc ?_ _)); refine blk_put (cs := #[.int .i64 a2_0, .int .i64 a2_1, .int .u32 a2_2, .int .u32 0, .int .i64 0, .int .i64 0, .string (⟨#[]⟩ : ByteArray), .int .u32 0, .int .u32 0]) ?_ 3 _ rfl; (with_reducible repeat (first | refine blk_drewN ?_ _ | refine blk_drew ?_ | refine blk_alloc ?_ _)); refine blk_put (cs := #[.int .i64 a2_0, .int .i64 a2_1, .int .u32 0, .int .u32 0, .int .i64 0, .int .i64 0, .string (⟨#[]⟩ : ByteArray), .int .u32 0, .int .u32 0]) ?_ 2 _ rfl; (with_reducible repeat (first | refine blk_drewN ?_ _ | refine blk_drew ?_ | refine blk_alloc ?_ _)); refine blk_put (cs := #[.int .i64 a2_0, .int .i64 0, .int .u32 0, .int .u32 0, .int .i64 0, .int .i64 0, .string (⟨#[]⟩ : ByteArray), .int .u32 0, .int .u32 0]) ?_ 1 _ rfl; (with_reducible repeat (first | refine blk_drewN ?_ _ | refine blk_drew ?_ | refine blk_alloc ?_ _)); refine blk_put (cs := #[.int .i64 0, .int .i64 0, .int .u32 0, .int .u32 0, .int .i64 0, .int .i64 0, .string (⟨#[]⟩ : ByteArray), .int .u32 0, .int .u32 0]) ?_ 0 _ rfl; (with_reducible repeat (first | refine blk_drewN ?_ _ | refine blk_drew ?_ | refine blk_alloc ?_ _)); exact BK119.out) hb); have n2_ := Aside0.mk (below_step (by repeat (first | (with_reducible first | exact HB.out | apply below_alloc | apply pw_below_drewN | apply below_drew1 | refine below_set ?_ GE118.out | refine below_set ?_ GE119.out) | exact HB.out)) hb); clear BK118; clear BK119; clear HB; have BK118 := n0_; have BK119 := n1_; have HB := n2_; clear n0_ n1_ n2_; (try clear hb); (try clear hb2); (try clear hk); (try clear hi); have hcz15_0 : w14.cell? ⟨gb118, 0, none⟩ = some (.int .i64 a2_0) := (blk_cell BK118.out 0).trans rfl; have hcz15_1 : w14.cell? ⟨gb118, 1, none⟩ = some (.int .i64 a2_1) := (blk_cell BK118.out 1).trans rfl; have hcz15_2 : w14.cell? ⟨gb118, 2, none⟩ = some (.int .u32 a2_2) := (blk_cell BK118.out 2).trans rfl; have hcz15_3 : w14.cell? ⟨gb118, 3, none⟩ = some (.int .u32 a2_3) := (blk_cell BK118.out 3).trans rfl; have hcz15_4 : w14.cell? ⟨gb118, 4, none⟩ = some (.int .i64 a2_4) := (blk_cell BK118.out 4).trans rfl; have hcz15_5 : w14.cell? ⟨gb118, 5, none⟩ = some (.int .i64 a2_5) := (blk_cell BK118.out 5).trans rfl; have hcz15_6 : w14.cell? ⟨gb118, 6, none⟩ = some (.string a2_6) := (blk_cell BK118.out 6).trans rfl; have hfz15_0 := blk_frozen BK118.out 0; have hfz15_1 := blk_frozen BK118.out 1; have hfz15_2 := blk_frozen BK118.out 2; have hfz15_3 := blk_frozen BK118.out 3; have hfz15_4 := blk_frozen BK118.out 4; have hfz15_5 := blk_frozen BK118.out 5; have hfz15_6 := blk_frozen BK118.out 6) | ((with_reducible refine gate_callee (f := 29) rfl ?_); refine goesL_ (some 25) rfl rfl Try.func29 (by kernel_rfl) rfl #[.agg #[.int .i64 a2_0, .int .i64 a2_1, .int .u32 a2_2, .int .u32 a2_3, .int .i64 a2_4, .int .i64 a2_5, .string a2_6]] rfl (by (try simp only [List.map_toArray, List.map_cons, List.map_nil]); first | done | rfl | (simp only [List.length_drop, List.length_take]; rfl)) ?_; (with_reducible refine (tcp_Check.calls a2_0 a2_1 a2_2 a2_3 a2_4 a2_5 a2_6 true _ A6.out).mono ?_); rintro e w16 ⟨rfl, hb⟩; refine ⟨_, rfl, ?_⟩; have n0_ := Aside0.mk (blk_below (g := gb118) (o := .cells #[.int .i64 a2_0, .int .i64 a2_1, .int .u32 a2_2, .int .u32 a2_3, .int .i64 a2_4, .int .i64 a2_5, .string a2_6] 42 (0, 0)) (by (with_reducible repeat (first | refine blk_drewN ?_ _ | refine blk_drew ?_ | refine blk_alloc ?_ _)); exact BK118.out) hb); have n1_ := Aside0.mk (blk_below (g := gb119) (o := .cells #[.int .i64 a2_0, .int .i64 a2_1, .int .u32 a2_2, .int .u32 a2_3, .int .i64 a2_4, .int .i64 a2_5, .string a2_6, .int .u32 a0, .int .u32 a1] 73 (0, 0)) (by (with_reducible repeat (first | refine blk_drewN ?_ _ | refine blk_drew ?_ | refine blk_alloc ?_ _)); exact BK119.out) hb); have n2_ := Aside0.mk (below_step (by repeat (first | (with_reducible first | exact HB.out | apply below_alloc | apply pw_below_drewN | apply below_drew1 | refine below_set ?_ GE118.out | refine below_set ?_ GE119.out) | exact HB.out)) hb); clear BK118; clear BK119; clear HB; have BK118 := n0_; have BK119 := n1_; have HB := n2_; clear n0_ n1_ n2_; (try clear hb); (try clear hb2); (try clear hk); (try clear hi)))
   go_ret2
   exact ⟨by first | rfl | (simp [errW_none, errW_some] <;> rfl) | (simp [*, errW_none, errW_some] <;> rfl), by repeat (first | (with_reducible first | exact HB.out | apply below_alloc | apply pw_below_drewN | apply below_drew1 | refine below_set ?_ GE118.out | refine below_set ?_ GE119.out) | exact HB.out)⟩
  ·
   rw [if_neg c8] at H
   have c8b0 : decide (2000 < (wrap64 (t120 + (a3.size : Int)))) = false := decide_eq_false c8
   clear c8
   replace H := Option.bind_eq_some_iff.mp H
   obtain ⟨t122, A170, H⟩ := H
   replace H : ((sum_Big.f k a2_1 2).bind fun t123 => (if t122.size + t123.size ≤ 9223372036854775807 then ((sum_Big.f k (wrap64 (a2_2)) 4).bind fun t124 => (if (t122 ++ t123).size + t124.size ≤ 9223372036854775807 then ((sum_Big.f k (wrap64 (a2_3)) 4).bind fun t125 => (if ((t122 ++ t123) ++ t124).size + t125.size ≤ 9223372036854775807 then ((tcp_head_size.f a2_0 a2_1 a2_2 a2_3 a2_4 a2_5 a2_6 a0 a1).bind fun t126 => ((sum_Big.f k (wrap64 ((wrap64 (Int.tdiv t126 4)) * 16)) 1).bind fun t127 => (if (((t122 ++ t123) ++ t124) ++ t125).size + t127.size ≤ 9223372036854775807 then ((sum_Big.f k a2_4 1).bind fun t128 => (if ((((t122 ++ t123) ++ t124) ++ t125) ++ t127).size + t128.size ≤ 9223372036854775807 then ((sum_Big.f k a2_5 2).bind fun t129 => (if (((((t122 ++ t123) ++ t124) ++ t125) ++ t127) ++ t128).size + t129.size ≤ 9223372036854775807 then (if 2 + a2_6.size ≤ 9223372036854775807 then (if ((⟨#[0, 0]⟩ : ByteArray) ++ a2_6).size + a3.size ≤ 9223372036854775807 then ((tcp_head_pseudo.f k a2_0 a2_1 a2_2 a2_3 a2_4 a2_5 a2_6 a0 a1 (wrap64 (t120 + (a3.size : Int)))).bind fun t130 => ((sum_Of.f k (([t130, (((((t122 ++ t123) ++ t124) ++ t125) ++ t127) ++ t128) ++ t129, (⟨#[0, 0]⟩ : ByteArray), ((⟨#[0, 0]⟩ : ByteArray) ++ a2_6) ++ a3] : List ByteArray))).bind fun t134 => ((sum_Big.f k t134 2).bind fun t135 => (if ((((((t122 ++ t123) ++ t124) ++ t125) ++ t127) ++ t128) ++ t129).size + t135.size ≤ 9223372036854775807 then (if (((((((t122 ++ t123) ++ t124) ++ t125) ++ t127) ++ t128) ++ t129) ++ t135).size + (((⟨#[0, 0]⟩ : ByteArray) ++ a2_6) ++ a3).size ≤ 9223372036854775807 then (some ((((((((t122 ++ t123) ++ t124) ++ t125) ++ t127) ++ t128) ++ t129) ++ t135) ++ (((⟨#[0, 0]⟩ : ByteArray) ++ a2_6) ++ a3), 0)) else (none)) else (none))))) else (none)) else (none)) else (none))) else (none))) else (none)))) else (none))) else (none))) else (none))) = some (r1, r2) := H
   have A17 := Aside0.mk A170
   clear A170
   replace H := Option.bind_eq_some_iff.mp H
   obtain ⟨t123, A180, H⟩ := H
   replace H : (if t122.size + t123.size ≤ 9223372036854775807 then ((sum_Big.f k (wrap64 (a2_2)) 4).bind fun t124 => (if (t122 ++ t123).size + t124.size ≤ 9223372036854775807 then ((sum_Big.f k (wrap64 (a2_3)) 4).bind fun t125 => (if ((t122 ++ t123) ++ t124).size + t125.size ≤ 9223372036854775807 then ((tcp_head_size.f a2_0 a2_1 a2_2 a2_3 a2_4 a2_5 a2_6 a0 a1).bind fun t126 => ((sum_Big.f k (wrap64 ((wrap64 (Int.tdiv t126 4)) * 16)) 1).bind fun t127 => (if (((t122 ++ t123) ++ t124) ++ t125).size + t127.size ≤ 9223372036854775807 then ((sum_Big.f k a2_4 1).bind fun t128 => (if ((((t122 ++ t123) ++ t124) ++ t125) ++ t127).size + t128.size ≤ 9223372036854775807 then ((sum_Big.f k a2_5 2).bind fun t129 => (if (((((t122 ++ t123) ++ t124) ++ t125) ++ t127) ++ t128).size + t129.size ≤ 9223372036854775807 then (if 2 + a2_6.size ≤ 9223372036854775807 then (if ((⟨#[0, 0]⟩ : ByteArray) ++ a2_6).size + a3.size ≤ 9223372036854775807 then ((tcp_head_pseudo.f k a2_0 a2_1 a2_2 a2_3 a2_4 a2_5 a2_6 a0 a1 (wrap64 (t120 + (a3.size : Int)))).bind fun t130 => ((sum_Of.f k (([t130, (((((t122 ++ t123) ++ t124) ++ t125) ++ t127) ++ t128) ++ t129, (⟨#[0, 0]⟩ : ByteArray), ((⟨#[0, 0]⟩ : ByteArray) ++ a2_6) ++ a3] : List ByteArray))).bind fun t134 => ((sum_Big.f k t134 2).bind fun t135 => (if ((((((t122 ++ t123) ++ t124) ++ t125) ++ t127) ++ t128) ++ t129).size + t135.size ≤ 9223372036854775807 then (if (((((((t122 ++ t123) ++ t124) ++ t125) ++ t127) ++ t128) ++ t129) ++ t135).size + (((⟨#[0, 0]⟩ : ByteArray) ++ a2_6) ++ a3).size ≤ 9223372036854775807 then (some ((((((((t122 ++ t123) ++ t124) ++ t125) ++ t127) ++ t128) ++ t129) ++ t135) ++ (((⟨#[0, 0]⟩ : ByteArray) ++ a2_6) ++ a3), 0)) else (none)) else (none))))) else (none)) else (none)) else (none))) else (none))) else (none)))) else (none))) else (none))) else (none)) = some (r1, r2) := H
   have A18 := Aside0.mk A180
   clear A180
   by_cases c19 : t122.size + t123.size ≤ 9223372036854775807
   ·
    rw [if_pos c19] at H
    have c19b0 := eq_true c19
    have c19b1 : decide (t122.size + t123.size ≤ 9223372036854775807) = true := decide_eq_true c19
    try have c19b2 : (9223372036854775807 < t122.size + t123.size) = False := eq_false (Nat.not_lt.2 c19)
    replace H := Option.bind_eq_some_iff.mp H
    obtain ⟨t124, A200, H⟩ := H
    replace H : (if (t122 ++ t123).size + t124.size ≤ 9223372036854775807 then ((sum_Big.f k (wrap64 (a2_3)) 4).bind fun t125 => (if ((t122 ++ t123) ++ t124).size + t125.size ≤ 9223372036854775807 then ((tcp_head_size.f a2_0 a2_1 a2_2 a2_3 a2_4 a2_5 a2_6 a0 a1).bind fun t126 => ((sum_Big.f k (wrap64 ((wrap64 (Int.tdiv t126 4)) * 16)) 1).bind fun t127 => (if (((t122 ++ t123) ++ t124) ++ t125).size + t127.size ≤ 9223372036854775807 then ((sum_Big.f k a2_4 1).bind fun t128 => (if ((((t122 ++ t123) ++ t124) ++ t125) ++ t127).size + t128.size ≤ 9223372036854775807 then ((sum_Big.f k a2_5 2).bind fun t129 => (if (((((t122 ++ t123) ++ t124) ++ t125) ++ t127) ++ t128).size + t129.size ≤ 9223372036854775807 then (if 2 + a2_6.size ≤ 9223372036854775807 then (if ((⟨#[0, 0]⟩ : ByteArray) ++ a2_6).size + a3.size ≤ 9223372036854775807 then ((tcp_head_pseudo.f k a2_0 a2_1 a2_2 a2_3 a2_4 a2_5 a2_6 a0 a1 (wrap64 (t120 + (a3.size : Int)))).bind fun t130 => ((sum_Of.f k (([t130, (((((t122 ++ t123) ++ t124) ++ t125) ++ t127) ++ t128) ++ t129, (⟨#[0, 0]⟩ : ByteArray), ((⟨#[0, 0]⟩ : ByteArray) ++ a2_6) ++ a3] : List ByteArray))).bind fun t134 => ((sum_Big.f k t134 2).bind fun t135 => (if ((((((t122 ++ t123) ++ t124) ++ t125) ++ t127) ++ t128) ++ t129).size + t135.size ≤ 9223372036854775807 then (if (((((((t122 ++ t123) ++ t124) ++ t125) ++ t127) ++ t128) ++ t129) ++ t135).size + (((⟨#[0, 0]⟩ : ByteArray) ++ a2_6) ++ a3).size ≤ 9223372036854775807 then (some ((((((((t122 ++ t123) ++ t124) ++ t125) ++ t127) ++ t128) ++ t129) ++ t135) ++ (((⟨#[0, 0]⟩ : ByteArray) ++ a2_6) ++ a3), 0)) else (none)) else (none))))) else (none)) else (none)) else (none))) else (none))) else (none)))) else (none))) else (none)) = some (r1, r2) := H
    have A20 := Aside0.mk A200
    clear A200
    by_cases c21 : (t122 ++ t123).size + t124.size ≤ 9223372036854775807
    ·
     rw [if_pos c21] at H
     have c21b0 := eq_true c21
     have c21b1 : decide ((t122 ++ t123).size + t124.size ≤ 9223372036854775807) = true := decide_eq_true c21
     try have c21b2 : (9223372036854775807 < (t122 ++ t123).size + t124.size) = False := eq_false (Nat.not_lt.2 c21)
     have c21b3 : (9223372036854775807 < t122.size + t123.size + t124.size) = False := eq_false (Nat.not_lt.2 (by have z_ := c21; simp only [ByteArray.size_append] at z_; exact z_))
     replace H := Option.bind_eq_some_iff.mp H
     obtain ⟨t125, A220, H⟩ := H
     replace H : (if ((t122 ++ t123) ++ t124).size + t125.size ≤ 9223372036854775807 then ((tcp_head_size.f a2_0 a2_1 a2_2 a2_3 a2_4 a2_5 a2_6 a0 a1).bind fun t126 => ((sum_Big.f k (wrap64 ((wrap64 (Int.tdiv t126 4)) * 16)) 1).bind fun t127 => (if (((t122 ++ t123) ++ t124) ++ t125).size + t127.size ≤ 9223372036854775807 then ((sum_Big.f k a2_4 1).bind fun t128 => (if ((((t122 ++ t123) ++ t124) ++ t125) ++ t127).size + t128.size ≤ 9223372036854775807 then ((sum_Big.f k a2_5 2).bind fun t129 => (if (((((t122 ++ t123) ++ t124) ++ t125) ++ t127) ++ t128).size + t129.size ≤ 9223372036854775807 then (if 2 + a2_6.size ≤ 9223372036854775807 then (if ((⟨#[0, 0]⟩ : ByteArray) ++ a2_6).size + a3.size ≤ 9223372036854775807 then ((tcp_head_pseudo.f k a2_0 a2_1 a2_2 a2_3 a2_4 a2_5 a2_6 a0 a1 (wrap64 (t120 + (a3.size : Int)))).bind fun t130 => ((sum_Of.f k (([t130, (((((t122 ++ t123) ++ t124) ++ t125) ++ t127) ++ t128) ++ t129, (⟨#[0, 0]⟩ : ByteArray), ((⟨#[0, 0]⟩ : ByteArray) ++ a2_6) ++ a3] : List ByteArray))).bind fun t134 => ((sum_Big.f k t134 2).bind fun t135 => (if ((((((t122 ++ t123) ++ t124) ++ t125) ++ t127) ++ t128) ++ t129).size + t135.size ≤ 9223372036854775807 then (if (((((((t122 ++ t123) ++ t124) ++ t125) ++ t127) ++ t128) ++ t129) ++ t135).size + (((⟨#[0, 0]⟩ : ByteArray) ++ a2_6) ++ a3).size ≤ 9223372036854775807 then (some ((((((((t122 ++ t123) ++ t124) ++ t125) ++ t127) ++ t128) ++ t129) ++ t135) ++ (((⟨#[0, 0]⟩ : ByteArray) ++ a2_6) ++ a3), 0)) else (none)) else (none))))) else (none)) else (none)) else (none))) else (none))) else (none)))) else (none)) = some (r1, r2) := H
     have A22 := Aside0.mk A220
     clear A220
     by_cases c23 : ((t122 ++ t123) ++ t124).size + t125.size ≤ 9223372036854775807
     ·
      rw [if_pos c23] at H
      have c23b0 := eq_true c23
      have c23b1 : decide (((t122 ++ t123) ++ t124).size + t125.size ≤ 9223372036854775807) = true := decide_eq_true c23
      try have c23b2 : (9223372036854775807 < ((t122 ++ t123) ++ t124).size + t125.size) = False := eq_false (Nat.not_lt.2 c23)
      have c23b3 : (9223372036854775807 < t122.size + t123.size + t124.size + t125.size) = False := eq_false (Nat.not_lt.2 (by have z_ := c23; simp only [ByteArray.size_append] at z_; exact z_))
      replace H := Option.bind_eq_some_iff.mp H
      obtain ⟨t126, A240, H⟩ := H
      replace H : ((sum_Big.f k (wrap64 ((wrap64 (Int.tdiv t126 4)) * 16)) 1).bind fun t127 => (if (((t122 ++ t123) ++ t124) ++ t125).size + t127.size ≤ 9223372036854775807 then ((sum_Big.f k a2_4 1).bind fun t128 => (if ((((t122 ++ t123) ++ t124) ++ t125) ++ t127).size + t128.size ≤ 9223372036854775807 then ((sum_Big.f k a2_5 2).bind fun t129 => (if (((((t122 ++ t123) ++ t124) ++ t125) ++ t127) ++ t128).size + t129.size ≤ 9223372036854775807 then (if 2 + a2_6.size ≤ 9223372036854775807 then (if ((⟨#[0, 0]⟩ : ByteArray) ++ a2_6).size + a3.size ≤ 9223372036854775807 then ((tcp_head_pseudo.f k a2_0 a2_1 a2_2 a2_3 a2_4 a2_5 a2_6 a0 a1 (wrap64 (t120 + (a3.size : Int)))).bind fun t130 => ((sum_Of.f k (([t130, (((((t122 ++ t123) ++ t124) ++ t125) ++ t127) ++ t128) ++ t129, (⟨#[0, 0]⟩ : ByteArray), ((⟨#[0, 0]⟩ : ByteArray) ++ a2_6) ++ a3] : List ByteArray))).bind fun t134 => ((sum_Big.f k t134 2).bind fun t135 => (if ((((((t122 ++ t123) ++ t124) ++ t125) ++ t127) ++ t128) ++ t129).size + t135.size ≤ 9223372036854775807 then (if (((((((t122 ++ t123) ++ t124) ++ t125) ++ t127) ++ t128) ++ t129) ++ t135).size + (((⟨#[0, 0]⟩ : ByteArray) ++ a2_6) ++ a3).size ≤ 9223372036854775807 then (some ((((((((t122 ++ t123) ++ t124) ++ t125) ++ t127) ++ t128) ++ t129) ++ t135) ++ (((⟨#[0, 0]⟩ : ByteArray) ++ a2_6) ++ a3), 0)) else (none)) else (none))))) else (none)) else (none)) else (none))) else (none))) else (none))) = some (r1, r2) := H
      have A24 := Aside0.mk A240
      clear A240
      replace H := Option.bind_eq_some_iff.mp H
      obtain ⟨t127, A250, H⟩ := H
      replace H : (if (((t122 ++ t123) ++ t124) ++ t125).size + t127.size ≤ 9223372036854775807 then ((sum_Big.f k a2_4 1).bind fun t128 => (if ((((t122 ++ t123) ++ t124) ++ t125) ++ t127).size + t128.size ≤ 9223372036854775807 then ((sum_Big.f k a2_5 2).bind fun t129 => (if (((((t122 ++ t123) ++ t124) ++ t125) ++ t127) ++ t128).size + t129.size ≤ 9223372036854775807 then (if 2 + a2_6.size ≤ 9223372036854775807 then (if ((⟨#[0, 0]⟩ : ByteArray) ++ a2_6).size + a3.size ≤ 9223372036854775807 then ((tcp_head_pseudo.f k a2_0 a2_1 a2_2 a2_3 a2_4 a2_5 a2_6 a0 a1 (wrap64 (t120 + (a3.size : Int)))).bind fun t130 => ((sum_Of.f k (([t130, (((((t122 ++ t123) ++ t124) ++ t125) ++ t127) ++ t128) ++ t129, (⟨#[0, 0]⟩ : ByteArray), ((⟨#[0, 0]⟩ : ByteArray) ++ a2_6) ++ a3] : List ByteArray))).bind fun t134 => ((sum_Big.f k t134 2).bind fun t135 => (if ((((((t122 ++ t123) ++ t124) ++ t125) ++ t127) ++ t128) ++ t129).size + t135.size ≤ 9223372036854775807 then (if (((((((t122 ++ t123) ++ t124) ++ t125) ++ t127) ++ t128) ++ t129) ++ t135).size + (((⟨#[0, 0]⟩ : ByteArray) ++ a2_6) ++ a3).size ≤ 9223372036854775807 then (some ((((((((t122 ++ t123) ++ t124) ++ t125) ++ t127) ++ t128) ++ t129) ++ t135) ++ (((⟨#[0, 0]⟩ : ByteArray) ++ a2_6) ++ a3), 0)) else (none)) else (none))))) else (none)) else (none)) else (none))) else (none))) else (none)) = some (r1, r2) := H
      have A25 := Aside0.mk A250
      clear A250
      by_cases c26 : (((t122 ++ t123) ++ t124) ++ t125).size + t127.size ≤ 9223372036854775807
      ·
       rw [if_pos c26] at H
       have c26b0 := eq_true c26
       have c26b1 : decide ((((t122 ++ t123) ++ t124) ++ t125).size + t127.size ≤ 9223372036854775807) = true := decide_eq_true c26
       try have c26b2 : (9223372036854775807 < (((t122 ++ t123) ++ t124) ++ t125).size + t127.size) = False := eq_false (Nat.not_lt.2 c26)
       have c26b3 : (9223372036854775807 < t122.size + t123.size + t124.size + t125.size + t127.size) = False := eq_false (Nat.not_lt.2 (by have z_ := c26; simp only [ByteArray.size_append] at z_; exact z_))
       replace H := Option.bind_eq_some_iff.mp H
       obtain ⟨t128, A270, H⟩ := H
       replace H : (if ((((t122 ++ t123) ++ t124) ++ t125) ++ t127).size + t128.size ≤ 9223372036854775807 then ((sum_Big.f k a2_5 2).bind fun t129 => (if (((((t122 ++ t123) ++ t124) ++ t125) ++ t127) ++ t128).size + t129.size ≤ 9223372036854775807 then (if 2 + a2_6.size ≤ 9223372036854775807 then (if ((⟨#[0, 0]⟩ : ByteArray) ++ a2_6).size + a3.size ≤ 9223372036854775807 then ((tcp_head_pseudo.f k a2_0 a2_1 a2_2 a2_3 a2_4 a2_5 a2_6 a0 a1 (wrap64 (t120 + (a3.size : Int)))).bind fun t130 => ((sum_Of.f k (([t130, (((((t122 ++ t123) ++ t124) ++ t125) ++ t127) ++ t128) ++ t129, (⟨#[0, 0]⟩ : ByteArray), ((⟨#[0, 0]⟩ : ByteArray) ++ a2_6) ++ a3] : List ByteArray))).bind fun t134 => ((sum_Big.f k t134 2).bind fun t135 => (if ((((((t122 ++ t123) ++ t124) ++ t125) ++ t127) ++ t128) ++ t129).size + t135.size ≤ 9223372036854775807 then (if (((((((t122 ++ t123) ++ t124) ++ t125) ++ t127) ++ t128) ++ t129) ++ t135).size + (((⟨#[0, 0]⟩ : ByteArray) ++ a2_6) ++ a3).size ≤ 9223372036854775807 then (some ((((((((t122 ++ t123) ++ t124) ++ t125) ++ t127) ++ t128) ++ t129) ++ t135) ++ (((⟨#[0, 0]⟩ : ByteArray) ++ a2_6) ++ a3), 0)) else (none)) else (none))))) else (none)) else (none)) else (none))) else (none)) = some (r1, r2) := H
       have A27 := Aside0.mk A270
       clear A270
       by_cases c28 : ((((t122 ++ t123) ++ t124) ++ t125) ++ t127).size + t128.size ≤ 9223372036854775807
       ·
        rw [if_pos c28] at H
        have c28b0 := eq_true c28
        have c28b1 : decide (((((t122 ++ t123) ++ t124) ++ t125) ++ t127).size + t128.size ≤ 9223372036854775807) = true := decide_eq_true c28
        try have c28b2 : (9223372036854775807 < ((((t122 ++ t123) ++ t124) ++ t125) ++ t127).size + t128.size) = False := eq_false (Nat.not_lt.2 c28)
        have c28b3 : (9223372036854775807 < t122.size + t123.size + t124.size + t125.size + t127.size + t128.size) = False := eq_false (Nat.not_lt.2 (by have z_ := c28; simp only [ByteArray.size_append] at z_; exact z_))
        replace H := Option.bind_eq_some_iff.mp H
        obtain ⟨t129, A290, H⟩ := H
        replace H : (if (((((t122 ++ t123) ++ t124) ++ t125) ++ t127) ++ t128).size + t129.size ≤ 9223372036854775807 then (if 2 + a2_6.size ≤ 9223372036854775807 then (if ((⟨#[0, 0]⟩ : ByteArray) ++ a2_6).size + a3.size ≤ 9223372036854775807 then ((tcp_head_pseudo.f k a2_0 a2_1 a2_2 a2_3 a2_4 a2_5 a2_6 a0 a1 (wrap64 (t120 + (a3.size : Int)))).bind fun t130 => ((sum_Of.f k (([t130, (((((t122 ++ t123) ++ t124) ++ t125) ++ t127) ++ t128) ++ t129, (⟨#[0, 0]⟩ : ByteArray), ((⟨#[0, 0]⟩ : ByteArray) ++ a2_6) ++ a3] : List ByteArray))).bind fun t134 => ((sum_Big.f k t134 2).bind fun t135 => (if ((((((t122 ++ t123) ++ t124) ++ t125) ++ t127) ++ t128) ++ t129).size + t135.size ≤ 9223372036854775807 then (if (((((((t122 ++ t123) ++ t124) ++ t125) ++ t127) ++ t128) ++ t129) ++ t135).size + (((⟨#[0, 0]⟩ : ByteArray) ++ a2_6) ++ a3).size ≤ 9223372036854775807 then (some ((((((((t122 ++ t123) ++ t124) ++ t125) ++ t127) ++ t128) ++ t129) ++ t135) ++ (((⟨#[0, 0]⟩ : ByteArray) ++ a2_6) ++ a3), 0)) else (none)) else (none))))) else (none)) else (none)) else (none)) = some (r1, r2) := H
        have A29 := Aside0.mk A290
        clear A290
        by_cases c30 : (((((t122 ++ t123) ++ t124) ++ t125) ++ t127) ++ t128).size + t129.size ≤ 9223372036854775807
        ·
         rw [if_pos c30] at H
         have c30b0 := eq_true c30
         have c30b1 : decide ((((((t122 ++ t123) ++ t124) ++ t125) ++ t127) ++ t128).size + t129.size ≤ 9223372036854775807) = true := decide_eq_true c30
         try have c30b2 : (9223372036854775807 < (((((t122 ++ t123) ++ t124) ++ t125) ++ t127) ++ t128).size + t129.size) = False := eq_false (Nat.not_lt.2 c30)
         have c30b3 : (9223372036854775807 < t122.size + t123.size + t124.size + t125.size + t127.size + t128.size + t129.size) = False := eq_false (Nat.not_lt.2 (by have z_ := c30; simp only [ByteArray.size_append] at z_; exact z_))
         by_cases c31 : 2 + a2_6.size ≤ 9223372036854775807
         ·
          rw [if_pos c31] at H
          have c31b0 := eq_true c31
          have c31b1 : decide (2 + a2_6.size ≤ 9223372036854775807) = true := decide_eq_true c31
          try have c31b2 : (9223372036854775807 < 2 + a2_6.size) = False := eq_false (Nat.not_lt.2 c31)
          by_cases c32 : ((⟨#[0, 0]⟩ : ByteArray) ++ a2_6).size + a3.size ≤ 9223372036854775807
          ·
           rw [if_pos c32] at H
           have c32b0 := eq_true c32
           have c32b1 : decide (((⟨#[0, 0]⟩ : ByteArray) ++ a2_6).size + a3.size ≤ 9223372036854775807) = true := decide_eq_true c32
           try have c32b2 : (9223372036854775807 < ((⟨#[0, 0]⟩ : ByteArray) ++ a2_6).size + a3.size) = False := eq_false (Nat.not_lt.2 c32)
           have c32b3 : (9223372036854775807 < 2 + a2_6.size + a3.size) = False := eq_false (Nat.not_lt.2 (by have z_ := c32; simp only [ByteArray.size_append] at z_; exact z_))
           replace H := Option.bind_eq_some_iff.mp H
           obtain ⟨t130, A330, H⟩ := H
           replace H : ((sum_Of.f k (([t130, (((((t122 ++ t123) ++ t124) ++ t125) ++ t127) ++ t128) ++ t129, (⟨#[0, 0]⟩ : ByteArray), ((⟨#[0, 0]⟩ : ByteArray) ++ a2_6) ++ a3] : List ByteArray))).bind fun t134 => ((sum_Big.f k t134 2).bind fun t135 => (if ((((((t122 ++ t123) ++ t124) ++ t125) ++ t127) ++ t128) ++ t129).size + t135.size ≤ 9223372036854775807 then (if (((((((t122 ++ t123) ++ t124) ++ t125) ++ t127) ++ t128) ++ t129) ++ t135).size + (((⟨#[0, 0]⟩ : ByteArray) ++ a2_6) ++ a3).size ≤ 9223372036854775807 then (some ((((((((t122 ++ t123) ++ t124) ++ t125) ++ t127) ++ t128) ++ t129) ++ t135) ++ (((⟨#[0, 0]⟩ : ByteArray) ++ a2_6) ++ a3), 0)) else (none)) else (none)))) = some (r1, r2) := H
           have A33 := Aside0.mk A330
           clear A330
           obtain ⟨y131, hy131⟩ : ∃ y_ : List ByteArray, y_ = (([t130, (((((t122 ++ t123) ++ t124) ++ t125) ++ t127) ++ t128) ++ t129, (⟨#[0, 0]⟩ : ByteArray), ((⟨#[0, 0]⟩ : ByteArray) ++ a2_6) ++ a3] : List ByteArray)) := ⟨_, rfl⟩
           replace H : ((sum_Of.f k y131).bind fun t134 => ((sum_Big.f k t134 2).bind fun t135 => (if ((((((t122 ++ t123) ++ t124) ++ t125) ++ t127) ++ t128) ++ t129).size + t135.size ≤ 9223372036854775807 then (if (((((((t122 ++ t123) ++ t124) ++ t125) ++ t127) ++ t128) ++ t129) ++ t135).size + (((⟨#[0, 0]⟩ : ByteArray) ++ a2_6) ++ a3).size ≤ 9223372036854775807 then (some ((((((((t122 ++ t123) ++ t124) ++ t125) ++ t127) ++ t128) ++ t129) ++ t135) ++ (((⟨#[0, 0]⟩ : ByteArray) ++ a2_6) ++ a3), 0)) else (none)) else (none)))) = some (r1, r2) := by first | (rw [hy131]; with_reducible exact H) | (have H2_ := (Option.bind_some _ _).symm.trans H; rw [hy131]; with_reducible exact H2_) | (have H2_ := (Option.bind_some _ _).symm.trans H; with_reducible exact H2_) | with_reducible exact H | (rw [hy131]; exact H) | exact H
           have Ny131 := Aside0.mk hy131
           clear hy131
           replace H := Option.bind_eq_some_iff.mp H
           obtain ⟨t134, A340, H⟩ := H
           replace H : ((sum_Big.f k t134 2).bind fun t135 => (if ((((((t122 ++ t123) ++ t124) ++ t125) ++ t127) ++ t128) ++ t129).size + t135.size ≤ 9223372036854775807 then (if (((((((t122 ++ t123) ++ t124) ++ t125) ++ t127) ++ t128) ++ t129) ++ t135).size + (((⟨#[0, 0]⟩ : ByteArray) ++ a2_6) ++ a3).size ≤ 9223372036854775807 then (some ((((((((t122 ++ t123) ++ t124) ++ t125) ++ t127) ++ t128) ++ t129) ++ t135) ++ (((⟨#[0, 0]⟩ : ByteArray) ++ a2_6) ++ a3), 0)) else (none)) else (none))) = some (r1, r2) := H
           have A34 := Aside0.mk A340
           clear A340
           replace H := Option.bind_eq_some_iff.mp H
           obtain ⟨t135, A350, H⟩ := H
           replace H : (if ((((((t122 ++ t123) ++ t124) ++ t125) ++ t127) ++ t128) ++ t129).size + t135.size ≤ 9223372036854775807 then (if (((((((t122 ++ t123) ++ t124) ++ t125) ++ t127) ++ t128) ++ t129) ++ t135).size + (((⟨#[0, 0]⟩ : ByteArray) ++ a2_6) ++ a3).size ≤ 9223372036854775807 then (some ((((((((t122 ++ t123) ++ t124) ++ t125) ++ t127) ++ t128) ++ t129) ++ t135) ++ (((⟨#[0, 0]⟩ : ByteArray) ++ a2_6) ++ a3), 0)) else (none)) else (none)) = some (r1, r2) := H
           have A35 := Aside0.mk A350
           clear A350
           by_cases c36 : ((((((t122 ++ t123) ++ t124) ++ t125) ++ t127) ++ t128) ++ t129).size + t135.size ≤ 9223372036854775807
           ·
            rw [if_pos c36] at H
            have c36b0 := eq_true c36
            have c36b1 : decide (((((((t122 ++ t123) ++ t124) ++ t125) ++ t127) ++ t128) ++ t129).size + t135.size ≤ 9223372036854775807) = true := decide_eq_true c36
            try have c36b2 : (9223372036854775807 < ((((((t122 ++ t123) ++ t124) ++ t125) ++ t127) ++ t128) ++ t129).size + t135.size) = False := eq_false (Nat.not_lt.2 c36)
            have c36b3 : (9223372036854775807 < t122.size + t123.size + t124.size + t125.size + t127.size + t128.size + t129.size + t135.size) = False := eq_false (Nat.not_lt.2 (by have z_ := c36; simp only [ByteArray.size_append] at z_; exact z_))
            by_cases c37 : (((((((t122 ++ t123) ++ t124) ++ t125) ++ t127) ++ t128) ++ t129) ++ t135).size + (((⟨#[0, 0]⟩ : ByteArray) ++ a2_6) ++ a3).size ≤ 9223372036854775807
            ·
             rw [if_pos c37] at H
             have c37b0 := eq_true c37
             have c37b1 : decide ((((((((t122 ++ t123) ++ t124) ++ t125) ++ t127) ++ t128) ++ t129) ++ t135).size + (((⟨#[0, 0]⟩ : ByteArray) ++ a2_6) ++ a3).size ≤ 9223372036854775807) = true := decide_eq_true c37
             try have c37b2 : (9223372036854775807 < (((((((t122 ++ t123) ++ t124) ++ t125) ++ t127) ++ t128) ++ t129) ++ t135).size + (((⟨#[0, 0]⟩ : ByteArray) ++ a2_6) ++ a3).size) = False := eq_false (Nat.not_lt.2 c37)
             have c37b3 : (9223372036854775807 < t122.size + t123.size + t124.size + t125.size + t127.size + t128.size + t129.size + t135.size + (2 + a2_6.size + a3.size)) = False := eq_false (Nat.not_lt.2 (by have z_ := c37; simp only [ByteArray.size_append] at z_; exact z_))
             simp only [Option.some.injEq, Prod.mk.injEq] at H
             obtain ⟨rfl, rfl⟩ := H
             go_enter Try.func25, Try.ntmps25
             try go_wp2_with (first | ((with_reducible refine gate_dst (N := 6) rfl ?_); refine box_event ?hg (N := 6) ?hd (cs := #[.int .i64 a2_0, .int .i64 a2_1, .int .u32 a2_2, .int .u32 a2_3, .int .i64 a2_4, .int .i64 a2_5, .string a2_6]) (t := 42) ?hr ?_; (case hd => rfl); (case hg => rfl); (case hr => first | (go_simp; done) | (go_simp; rfl)); intro gb118 hg w38 hbox hb; have n0_ := Aside0.mk (below_step (by repeat (first | (with_reducible first | exact HB.out | apply below_alloc | apply pw_below_drewN | apply below_drew1) | exact HB.out)) hb); have n1_ := Aside0.mk (hbox); have n2_ := Aside0.mk ((by rw [hg]; exact (below_size (by repeat (first | (with_reducible first | exact HB.out | apply below_alloc | apply pw_below_drewN | apply below_drew1) | exact HB.out))) : w.heap.size ≤ gb118)); have n3_ := Aside0.mk ((by rw [hg]; exact (below_size (by repeat (first | (with_reducible first | exact HB.out | apply below_alloc | apply pw_below_drewN | apply below_drew1) | exact HB.out))) : w.heap.size ≤ gb118)); clear HB; have HB := n0_; have BK118 := n1_; have GW118 := n2_; have GE118 := n3_; clear n0_ n1_ n2_ n3_; clear hb hbox hg; have hcz39_0 : w38.cell? ⟨gb118, 0, none⟩ = some (.int .i64 a2_0) := (blk_cell BK118.out 0).trans rfl; have hcz39_1 : w38.cell? ⟨gb118, 1, none⟩ = some (.int .i64 a2_1) := (blk_cell BK118.out 1).trans rfl; have hcz39_2 : w38.cell? ⟨gb118, 2, none⟩ = some (.int .u32 a2_2) := (blk_cell BK118.out 2).trans rfl; have hcz39_3 : w38.cell? ⟨gb118, 3, none⟩ = some (.int .u32 a2_3) := (blk_cell BK118.out 3).trans rfl; have hcz39_4 : w38.cell? ⟨gb118, 4, none⟩ = some (.int .i64 a2_4) := (blk_cell BK118.out 4).trans rfl; have hcz39_5 : w38.cell? ⟨gb118, 5, none⟩ = some (.int .i64 a2_5) := (blk_cell BK118.out 5).trans rfl; have hcz39_6 : w38.cell? ⟨gb118, 6, none⟩ = some (.string a2_6) := (blk_cell BK118.out 6).trans rfl; have hfz39_0 := blk_frozen BK118.out 0; have hfz39_1 := blk_frozen BK118.out 1; have hfz39_2 := blk_frozen BK118.out 2; have hfz39_3 := blk_frozen BK118.out 3; have hfz39_4 := blk_frozen BK118.out 4; have hfz39_5 := blk_frozen BK118.out 5; have hfz39_6 := blk_frozen BK118.out 6) | ((with_reducible refine gate_dst (N := 10) rfl ?_); refine box_event ?hg (N := 10) ?hd (cs := #[.int .i64 0, .int .i64 0, .int .u32 0, .int .u32 0, .int .i64 0, .int .i64 0, .string (⟨#[]⟩ : ByteArray), .int .u32 0, .int .u32 0]) (t := 73) ?hr ?_; (case hd => rfl); (case hg => rfl); (case hr => first | (go_simp; done) | (go_simp; rfl)); intro gb119 hg w40 hbox hb; have n0_ := Aside0.mk (blk_below (g := gb118) (o := .cells #[.int .i64 a2_0, .int .i64 a2_1, .int .u32 a2_2, .int .u32 a2_3, .int .i64 a2_4, .int .i64 a2_5, .string a2_6] 42 (0, 0)) (by (with_reducible repeat (first | refine blk_drewN ?_ _ | refine blk_drew ?_ | refine blk_alloc ?_ _)); exact BK118.out) hb); have n1_ := Aside0.mk (below_step (by repeat (first | (with_reducible first | exact HB.out | apply below_alloc | apply pw_below_drewN | apply below_drew1 | refine below_set ?_ GE118.out) | exact HB.out)) hb); have n2_ := Aside0.mk (hbox); have n3_ := Aside0.mk ((by rw [hg]; exact (below_size (by repeat (first | (with_reducible first | exact HB.out | apply below_alloc | apply pw_below_drewN | apply below_drew1 | refine below_set ?_ GE118.out) | exact HB.out))) : w.heap.size ≤ gb119)); have n4_ := Aside0.mk ((by rw [hg]; exact (below_size (by repeat (first | (with_reducible first | exact HB.out | apply below_alloc | apply pw_below_drewN | apply below_drew1 | refine below_set ?_ GE118.out) | exact HB.out))) : w.heap.size ≤ gb119)); have n5_ := Aside0.mk ((by rw [hg]; exact Nat.ne_of_lt (blk_lt (g := gb118) (o := .cells #[.int .i64 a2_0, .int .i64 a2_1, .int .u32 a2_2, .int .u32 a2_3, .int .i64 a2_4, .int .i64 a2_5, .string a2_6] 42 (0, 0)) (by (with_reducible repeat (first | refine blk_drewN ?_ _ | refine blk_drew ?_ | refine blk_alloc ?_ _)); exact BK118.out)) : gb118 ≠ gb119)); have n6_ := Aside0.mk ((by rw [hg]; exact Nat.ne_of_gt (blk_lt (g := gb118) (o := .cells #[.int .i64 a2_0, .int .i64 a2_1, .int .u32 a2_2, .int .u32 a2_3, .int .i64 a2_4, .int .i64 a2_5, .string a2_6] 42 (0, 0)) (by (with_reducible repeat (first | refine blk_drewN ?_ _ | refine blk_drew ?_ | refine blk_alloc ?_ _)); exact BK118.out)) : gb119 ≠ gb118)); clear BK118; clear HB; have BK118 := n0_; have HB := n1_; have BK119 := n2_; have GW119 := n3_; have GE119 := n4_; have NB118_119 := n5_; have NB119_118 := n6_; clear n0_ n1_ n2_ n3_ n4_ n5_ n6_; clear hb hbox hg; have hnb41 := NB119_118.out; have hnc41 := NB118_119.out; have hcz42_0 : w40.cell? ⟨gb119, 0, none⟩ = some (.int .i64 0) := (blk_cell BK119.out 0).trans rfl; have hcz42_1 : w40.cell? ⟨gb119, 1, none⟩ = some (.int .i64 0) := (blk_cell BK119.out 1).trans rfl; have hcz42_2 : w40.cell? ⟨gb119, 2, none⟩ = some (.int .u32 0) := (blk_cell BK119.out 2).trans rfl; have hcz42_3 : w40.cell? ⟨gb119, 3, none⟩ = some (.int .u32 0) := (blk_cell BK119.out 3).trans rfl; have hcz42_4 : w40.cell? ⟨gb119, 4, none⟩ = some (.int .i64 0) := (blk_cell BK119.out 4).trans rfl; have hcz42_5 : w40.cell? ⟨gb119, 5, none⟩ = some (.int .i64 0) := (blk_cell BK119.out 5).trans rfl; have hcz42_6 : w40.cell? ⟨gb119, 6, none⟩ = some (.string (⟨#[]⟩ : ByteArray)) := (blk_cell BK119.out 6).trans rfl; have hcz42_7 : w40.cell? ⟨gb119, 7, none⟩ = some (.int .u32 0) := (blk_cell BK119.out 7).trans rfl; have hcz42_8 : w40.cell? ⟨gb119, 8, none⟩ = some (.int .u32 0) := (blk_cell BK119.out 8).trans rfl; have hfz42_0 := blk_frozen BK119.out 0; have hfz42_1 := blk_frozen BK119.out 1; have hfz42_2 := blk_frozen BK119.out 2; have hfz42_3 := blk_frozen BK119.out 3; have hfz42_4 := blk_frozen BK119.out 4; have hfz42_5 := blk_frozen BK119.out 5; have hfz42_6 := blk_frozen BK119.out 6; have hfz42_7 := blk_frozen BK119.out 7; have hfz42_8 := blk_frozen BK119.out 8) | ((with_reducible refine gate_callee (f := 53) rfl ?_); refine goesL_ (some 19) rfl rfl Try.func53 (by kernel_rfl) rfl #[.agg #[.int .i64 a2_0, .int .i64 a2_1, .int .u32 a2_2, .int .u32 a2_3, .int .i64 a2_4, .int .i64 a2_5, .string a2_6, .int .u32 a0, .int .u32 a1]] rfl (by (try simp only [List.map_toArray, List.map_cons, List.map_nil]); first | done | rfl | (simp only [List.length_drop, List.length_take]; rfl)) ?_; (with_reducible refine (tcp_head_size.calls a2_0 a2_1 a2_2 a2_3 a2_4 a2_5 a2_6 a0 a1 t120 _ A5.out).mono ?_); rintro e w43 ⟨rfl, hb⟩; refine ⟨_, rfl, ?_⟩; have n0_ := Aside0.mk (blk_below (g := gb118) (o := .cells #[.int .i64 a2_0, .int .i64 a2_1, .int .u32 a2_2, .int .u32 a2_3, .int .i64 a2_4, .int .i64 a2_5, .string a2_6] 42 (0, 0)) (by (with_reducible repeat (first | refine blk_drewN ?_ _ | refine blk_drew ?_ | refine blk_alloc ?_ _)); refine blk_far ?_ NB118_119.out _; (with_reducible repeat (first | refine blk_drewN ?_ _ | refine blk_drew ?_ | refine blk_alloc ?_ _)); refine blk_far ?_ NB118_119.out _; (with_reducible repeat (first | refine blk_drewN ?_ _ | refine blk_drew ?_ | refine blk_alloc ?_ _)); refine blk_far ?_ NB118_119.out _; (with_reducible repeat (first | refine blk_drewN ?_ _ | refine blk_drew ?_ | refine blk_alloc ?_ _)); refine blk_far ?_ NB118_119.out _; (with_reducible repeat (first | refine blk_drewN ?_ _ | refine blk_drew ?_ | refine blk_alloc ?_ _)); refine blk_far ?_ NB118_119.out _; (with_reducible repeat (first | refine blk_drewN ?_ _ | refine blk_drew ?_ | refine blk_alloc ?_ _)); refine blk_far ?_ NB118_119.out _; (with_reducible repeat (first | refine blk_drewN ?_ _ | refine blk_drew ?_ | refine blk_alloc ?_ _)); refine blk_far ?_ NB118_119.out _; (with_reducible repeat (first | refine blk_drewN ?_ _ | refine blk_drew ?_ | refine blk_alloc ?_ _)); refine blk_far ?_ NB118_119.out _; (with_reducible repeat (first | refine blk_drewN ?_ _ | refine blk_drew ?_ | refine blk_alloc ?_ _)); refine blk_far ?_ NB118_119.out _; (with_reducible repeat (first | refine blk_drewN ?_ _ | refine blk_drew ?_ | refine blk_alloc ?_ _)); exact BK118.out) hb); have n1_ := Aside0.mk (blk_below (g := gb119) (o := .cells #[.int .i64 a2_0, .int .i64 a2_1, .int .u32 a2_2, .int .u32 a2_3, .int .i64 a2_4, .int .i64 a2_5, .string a2_6, .int .u32 a0, .int .u32 a1] 73 (0, 0)) (by (with_reducible repeat (first | refine blk_drewN ?_ _ | refine blk_drew ?_ | refine blk_alloc ?_ _)); refine blk_put (cs := #[.int .i64 a2_0, .int .i64 a2_1, .int .u32 a2_2, .int .u32 a2_3, .int .i64 a2_4, .int .i64 a2_5, .string a2_6, .int .u32 a0, .int .u32 0]) ?_ 8 _ rfl; (with_reducible repeat (first | refine blk_drewN ?_ _ | refine blk_drew ?_ | refine blk_alloc ?_ _)); refine blk_put (cs := #[.int .i64 a2_0, .int .i64 a2_1, .int .u32 a2_2, .int .u32 a2_3, .int .i64 a2_4, .int .i64 a2_5, .string a2_6, .int .u32 0, .int .u32 0]) ?_ 7 _ rfl; (with_reducible repeat (first | refine blk_drewN ?_ _ | refine blk_drew ?_ | refine blk_alloc ?_ _)); refine blk_put (cs := #[.int .i64 a2_0, .int .i64 a2_1, .int .u32 a2_2, .int .u32 a2_3, .int .i64 a2_4, .int .i64 a2_5, .string (⟨#[]⟩ : ByteArray), .int .u32 0, .int .u32 0]) ?_ 6 _ rfl; (with_reducible repeat (first | refine blk_drewN ?_ _ | refine blk_drew ?_ | refine blk_alloc ?_ _)); refine blk_put (cs := #[.int .i64 a2_0, .int .i64 a2_1, .int .u32 a2_2, .int .u32 a2_3, .int .i64 a2_4, .int .i64 0, .string (⟨#[]⟩ : ByteArray), .int .u32 0, .int .u32 0]) ?_ 5 _ rfl; (with_reducible repeat (first | refine blk_drewN ?_ _ | refine blk_drew ?_ | refine blk_alloc ?_ _)); refine blk_put (cs := #[.int .i64 a2_0, .int .i64 a2_1, .int .u32 a2_2, .int .u32 a2_3, .int .i64 0, .int .i64 0, .string (⟨#[]⟩ : ByteArray), .int .u32 0, .int .u32 0]) ?_ 4 _ rfl; (with_reducible repeat (first | refine blk_drewN ?_ _ | refine blk_drew ?_ | refine blk_alloc ?_ _)); refine blk_put (cs := #[.int .i64 a2_0, .int .i64 a2_1, .int .u32 a2_2, .int .u32 0, .int .i64 0, .int .i64 0, .string (⟨#[]⟩ : ByteArray), .int .u32 0, .int .u32 0]) ?_ 3 _ rfl; (with_reducible repeat (first | refine blk_drewN ?_ _ | refine blk_drew ?_ | refine blk_alloc ?_ _)); refine blk_put (cs := #[.int .i64 a2_0, .int .i64 a2_1, .int .u32 0, .int .u32 0, .int .i64 0, .int .i64 0, .string (⟨#[]⟩ : ByteArray), .int .u32 0, .int .u32 0]) ?_ 2 _ rfl; (with_reducible repeat (first | refine blk_drewN ?_ _ | refine blk_drew ?_ | refine blk_alloc ?_ _)); refine blk_put (cs := #[.int .i64 a2_0, .int .i64 0, .int .u32 0, .int .u32 0, .int .i64 0, .int .i64 0, .string (⟨#[]⟩ : ByteArray), .int .u32 0, .int .u32 0]) ?_ 1 _ rfl; (with_reducible repeat (first | refine blk_drewN ?_ _ | refine blk_drew ?_ | refine blk_alloc ?_ _)); refine blk_put (cs := #[.int .i64 0, .int .i64 0, .int .u32 0, .int .u32 0, .int .i64 0, .int .i64 0, .string (⟨#[]⟩ : ByteArray), .int .u32 0, .int .u32 0]) ?_ 0 _ rfl; (with_reducible repeat (first | refine blk_drewN ?_ _ | refine blk_drew ?_ | refine blk_alloc ?_ _)); exact BK119.out) hb); have n2_ := Aside0.mk (below_step (by repeat (first | (with_reducible first | exact HB.out | apply below_alloc | apply pw_below_drewN | apply below_drew1 | refine below_set ?_ GE118.out | refine below_set ?_ GE119.out) | exact HB.out)) hb); clear BK118; clear BK119; clear HB; have BK118 := n0_; have BK119 := n1_; have HB := n2_; clear n0_ n1_ n2_; (try clear hb); (try clear hb2); (try clear hk); (try clear hi); have hcz44_0 : w43.cell? ⟨gb118, 0, none⟩ = some (.int .i64 a2_0) := (blk_cell BK118.out 0).trans rfl; have hcz44_1 : w43.cell? ⟨gb118, 1, none⟩ = some (.int .i64 a2_1) := (blk_cell BK118.out 1).trans rfl; have hcz44_2 : w43.cell? ⟨gb118, 2, none⟩ = some (.int .u32 a2_2) := (blk_cell BK118.out 2).trans rfl; have hcz44_3 : w43.cell? ⟨gb118, 3, none⟩ = some (.int .u32 a2_3) := (blk_cell BK118.out 3).trans rfl; have hcz44_4 : w43.cell? ⟨gb118, 4, none⟩ = some (.int .i64 a2_4) := (blk_cell BK118.out 4).trans rfl; have hcz44_5 : w43.cell? ⟨gb118, 5, none⟩ = some (.int .i64 a2_5) := (blk_cell BK118.out 5).trans rfl; have hcz44_6 : w43.cell? ⟨gb118, 6, none⟩ = some (.string a2_6) := (blk_cell BK118.out 6).trans rfl; have hfz44_0 := blk_frozen BK118.out 0; have hfz44_1 := blk_frozen BK118.out 1; have hfz44_2 := blk_frozen BK118.out 2; have hfz44_3 := blk_frozen BK118.out 3; have hfz44_4 := blk_frozen BK118.out 4; have hfz44_5 := blk_frozen BK118.out 5; have hfz44_6 := blk_frozen BK118.out 6) | ((with_reducible refine gate_callee (f := 29) rfl ?_); refine goesL_ (some 25) rfl rfl Try.func29 (by kernel_rfl) rfl #[.agg #[.int .i64 a2_0, .int .i64 a2_1, .int .u32 a2_2, .int .u32 a2_3, .int .i64 a2_4, .int .i64 a2_5, .string a2_6]] rfl (by (try simp only [List.map_toArray, List.map_cons, List.map_nil]); first | done | rfl | (simp only [List.length_drop, List.length_take]; rfl)) ?_; (with_reducible refine (tcp_Check.calls a2_0 a2_1 a2_2 a2_3 a2_4 a2_5 a2_6 true _ A6.out).mono ?_); rintro e w45 ⟨rfl, hb⟩; refine ⟨_, rfl, ?_⟩; have n0_ := Aside0.mk (blk_below (g := gb118) (o := .cells #[.int .i64 a2_0, .int .i64 a2_1, .int .u32 a2_2, .int .u32 a2_3, .int .i64 a2_4, .int .i64 a2_5, .string a2_6] 42 (0, 0)) (by (with_reducible repeat (first | refine blk_drewN ?_ _ | refine blk_drew ?_ | refine blk_alloc ?_ _)); exact BK118.out) hb); have n1_ := Aside0.mk (blk_below (g := gb119) (o := .cells #[.int .i64 a2_0, .int .i64 a2_1, .int .u32 a2_2, .int .u32 a2_3, .int .i64 a2_4, .int .i64 a2_5, .string a2_6, .int .u32 a0, .int .u32 a1] 73 (0, 0)) (by (with_reducible repeat (first | refine blk_drewN ?_ _ | refine blk_drew ?_ | refine blk_alloc ?_ _)); exact BK119.out) hb); have n2_ := Aside0.mk (below_step (by repeat (first | (with_reducible first | exact HB.out | apply below_alloc | apply pw_below_drewN | apply below_drew1 | refine below_set ?_ GE118.out | refine below_set ?_ GE119.out) | exact HB.out)) hb); clear BK118; clear BK119; clear HB; have BK118 := n0_; have BK119 := n1_; have HB := n2_; clear n0_ n1_ n2_; (try clear hb); (try clear hb2); (try clear hk); (try clear hi)))
             have n0_ := Aside0.mk (blk_drew BK118.out)
             have n1_ := Aside0.mk (blk_drew BK119.out)
             have n2_ := Aside0.mk (below_drew1 HB.out)
             clear BK118
             clear BK119
             clear HB
             have BK118 := n0_
             have BK119 := n1_
             have HB := n2_
             clear n0_ n1_ n2_
             refine start_ (n := 38) (S := fun w' => w'.cell? ⟨gb119, 0, none⟩ = some (.int .i64 a2_0) ∧ w'.cell? ⟨gb119, 1, none⟩ = some (.int .i64 a2_1) ∧ w'.cell? ⟨gb119, 2, none⟩ = some (.int .u32 a2_2) ∧ w'.cell? ⟨gb119, 3, none⟩ = some (.int .u32 a2_3) ∧ w'.cell? ⟨gb119, 4, none⟩ = some (.int .i64 a2_4) ∧ w'.cell? ⟨gb119, 5, none⟩ = some (.int .i64 a2_5) ∧ w'.cell? ⟨gb119, 6, none⟩ = some (.string a2_6) ∧ w'.cell? ⟨gb119, 7, none⟩ = some (.int .u32 a0) ∧ w'.cell? ⟨gb119, 8, none⟩ = some (.int .u32 a1)) (ds := []) #[false, false, false, false, false, false, false, false, false, false, false, false, false, false, false, false, false, false, false, false, false, false, false, false, false, false, false, false, false, false, false, false, false, false, false, false, false, false] (by kernel_rfl) rfl rfl ⟨(blk_cell BK119.out 0).trans rfl, (blk_cell BK119.out 1).trans rfl, (blk_cell BK119.out 2).trans rfl, (blk_cell BK119.out 3).trans rfl, (blk_cell BK119.out 4).trans rfl, (blk_cell BK119.out 5).trans rfl, (blk_cell BK119.out 6).trans rfl, (blk_cell BK119.out 7).trans rfl, (blk_cell BK119.out 8).trans rfl⟩ (fun hHeld => ?_); refine with_tabW tcp_Put.tab7 tcp_Put.bits7 (fun HT_ HW_ => ?_)
             generalize w45.drew = w46 at BK118 BK119 HB hHeld ⊢
             refine pure_ (i := 0) (N := some 30) (v := ?_) (a' := ?_) #[true, false, false, false, false, false, false, false, false, false, false, false, false, false, false, false, false, false, false, false, false, false, false, false, false, false, false, false, false, false, false, false, false, false, false, false, false, false] rfl rfl (any_of HT_.out (by kernel_rfl)) (fun _ _ _ h => h) (Or.inl ⟨by rfl, ?_⟩) ?_ ?_
             rotate_left
             ·
              intro w'
              go_simp
              with_reducible rfl
             rotate_left
             ·
              simp only [Act.put, List.setIfInBounds_toArray, List.set_cons_zero, List.set_cons_succ, i64_w, i32_w]
              rfl
             refine pure_ (i := 1) (N := some 31) (v := ?_) (a' := ?_) #[true, true, false, false, false, false, false, false, false, false, false, false, false, false, false, false, false, false, false, false, false, false, false, false, false, false, false, false, false, false, false, false, false, false, false, false, false, false] rfl rfl (any_of HT_.out (by kernel_rfl)) (fun _ _ _ h => h) (Or.inl ⟨by rfl, ?_⟩) ?_ ?_
             rotate_left
             ·
              intro w'
              go_simp
              with_reducible rfl
             rotate_left
             ·
              simp only [Act.put, List.setIfInBounds_toArray, List.set_cons_zero, List.set_cons_succ, i64_w, i32_w]
              rfl
             refine pure_ (i := 4) (N := some 34) (v := ?_) (a' := ?_) #[true, true, false, false, true, false, false, false, false, false, false, false, false, false, false, false, false, false, false, false, false, false, false, false, false, false, false, false, false, false, false, false, false, false, false, false, false, false] rfl rfl (any_of HT_.out (by kernel_rfl)) (fun _ _ _ h => h) (Or.inl ⟨by rfl, ?_⟩) ?_ ?_
             rotate_left
             ·
              intro w'
              go_simp
              with_reducible rfl
             rotate_left
             ·
              simp only [Act.put, List.setIfInBounds_toArray, List.set_cons_zero, List.set_cons_succ, i64_w, i32_w]
              rfl
             refine pure_ (i := 5) (N := some 35) (v := ?_) (a' := ?_) #[true, true, false, false, true, true, false, false, false, false, false, false, false, false, false, false, false, false, false, false, false, false, false, false, false, false, false, false, false, false, false, false, false, false, false, false, false, false] rfl rfl (any_of HT_.out (by kernel_rfl)) (fun _ _ _ h => h) (Or.inl ⟨by rfl, ?_⟩) ?_ ?_
             rotate_left
             ·
              intro w'
              go_simp
              with_reducible rfl
             rotate_left
             ·
              simp only [Act.put, List.setIfInBounds_toArray, List.set_cons_zero, List.set_cons_succ, i64_w, i32_w]
              rfl
             refine pure_ (i := 9) (N := some 39) (v := ?_) (a' := ?_) #[true, true, false, false, true, true, false, false, false, true, false, false, false, false, false, false, false, false, false, false, false, false, false, false, false, false, false, false, false, false, false, false, false, false, false, false, false, false] rfl rfl (any_of HT_.out (by kernel_rfl)) (fun _ _ _ h => h) (Or.inl ⟨by rfl, ?_⟩) ?_ ?_
             rotate_left
             ·
              intro w'
              go_simp
              with_reducible rfl
             rotate_left
             ·
              simp only [Act.put, List.setIfInBounds_toArray, List.set_cons_zero, List.set_cons_succ, i64_w, i32_w]
              rfl
             refine pure_ (i := 10) (N := some 40) (v := ?_) (a' := ?_) #[true, true, false, false, true, true, false, false, false, true, true, false, false, false, false, false, false, false, false, false, false, false, false, false, false, false, false, false, false, false, false, false, false, false, false, false, false, false] rfl rfl (any_of HT_.out (by kernel_rfl)) (fun _ _ _ h => h) (Or.inl ⟨by rfl, ?_⟩) ?_ ?_
             rotate_left
             ·
              intro w'
              go_simp
              with_reducible rfl
             rotate_left
             ·
              simp only [Act.put, List.setIfInBounds_toArray, List.set_cons_zero, List.set_cons_succ, i64_w, i32_w]
              rfl
             refine pure_ (i := 15) (N := some 45) (v := ?_) (a' := ?_) #[true, true, false, false, true, true, false, false, false, true, true, false, false, false, false, true, false, false, false, false, false, false, false, false, false, false, false, false, false, false, false, false, false, false, false, false, false, false] rfl rfl (any_of HT_.out (by kernel_rfl)) (fun _ _ _ h => h) (Or.inl ⟨by rfl, ?_⟩) ?_ ?_
             rotate_left
             ·
              intro w'
              go_simp
              with_reducible rfl
             rotate_left
             ·
              simp only [Act.put, List.setIfInBounds_toArray, List.set_cons_zero, List.set_cons_succ, i64_w, i32_w]
              rfl
             refine pure_ (i := 16) (N := some 46) (v := ?_) (a' := ?_) #[true, true, false, false, true, true, false, false, false, true, true, false, false, false, false, true, true, false, false, false, false, false, false, false, false, false, false, false, false, false, false, false, false, false, false, false, false, false] rfl rfl (any_of HT_.out (by kernel_rfl)) (fun _ _ _ h => h) (Or.inl ⟨by rfl, ?_⟩) ?_ ?_
             rotate_left
             ·
              intro w'
              go_simp
              with_reducible rfl
             rotate_left
             ·
              simp only [Act.put, List.setIfInBounds_toArray, List.set_cons_zero, List.set_cons_succ, i64_w, i32_w]
              rfl
             refine pure_ (i := 27) (N := some 57) (v := ?_) (a' := ?_) #[true, true, false, false, true, true, false, false, false, true, true, false, false, false, false, true, true, false, false, false, false, false, false, false, false, false, false, true, false, false, false, false, false, false, false, false, false, false] rfl rfl (any_of HT_.out (by kernel_rfl)) (fun _ _ _ h => h) (Or.inl ⟨by rfl, ?_⟩) ?_ ?_
             rotate_left
             ·
              intro w'
              go_simp
              with_reducible rfl
             rotate_left
             ·
              simp only [Act.put, List.setIfInBounds_toArray, List.set_cons_zero, List.set_cons_succ, i64_w, i32_w]
              rfl
             refine pure_ (i := 28) (N := some 58) (v := ?_) (a' := ?_) #[true, true, false, false, true, true, false, false, false, true, true, false, false, false, false, true, true, false, false, false, false, false, false, false, false, false, false, true, true, false, false, false, false, false, false, false, false, false] rfl rfl (any_of HT_.out (by kernel_rfl)) (fun _ _ _ h => h) (Or.inl ⟨by rfl, ?_⟩) ?_ ?_
             rotate_left
             ·
              intro w'
              go_simp
              with_reducible rfl
             rotate_left
             ·
              simp only [Act.put, List.setIfInBounds_toArray, List.set_cons_zero, List.set_cons_succ, i64_w, i32_w]
              rfl
             refine pure_ (i := 32) (N := some 62) (v := ?_) (a' := ?_) #[true, true, false, false, true, true, false, false, false, true, true, false, false, false, false, true, true, false, false, false, false, false, false, false, false, false, false, true, true, false, false, false, true, false, false, false, false, false] rfl rfl (any_of HT_.out (by kernel_rfl)) (fun _ _ _ h => h) (Or.inl ⟨by rfl, ?_⟩) ?_ ?_
             rotate_left
             ·
              intro w'
              go_simp
              with_reducible rfl
             rotate_left
             ·
              simp only [Act.put, List.setIfInBounds_toArray, List.set_cons_zero, List.set_cons_succ, i64_w, i32_w]
              rfl
             refine pure_ (i := 33) (N := some 63) (v := ?_) (a' := ?_) #[true, true, false, false, true, true, false, false, false, true, true, false, false, false, false, true, true, false, false, false, false, false, false, false, false, false, false, true, true, false, false, false, true, true, false, false, false, false] rfl rfl (any_of HT_.out (by kernel_rfl)) (fun _ _ _ h => h) (Or.inl ⟨by rfl, ?_⟩) ?_ ?_
             rotate_left
             ·
              intro w'
              go_simp
              with_reducible rfl
             rotate_left
             ·
              simp only [Act.put, List.setIfInBounds_toArray, List.set_cons_zero, List.set_cons_succ, i64_w, i32_w]
              rfl
             refine take_ (i := 2) (N := some 32) (v := ?_) (a' := ?_) #[true, true, true, false, true, true, false, false, false, true, true, false, false, false, false, true, true, false, false, false, false, false, false, false, false, false, false, true, true, false, false, false, true, true, false, false, false, false] rfl rfl (take_ofW HT_.out HW_.out (by kernel_rfl)) (fun _ _ _ h => h) (Or.inl ⟨by rfl, ?_⟩) hHeld ?_ ?_
             rotate_left
             ·
              rintro w' ⟨s0, s1, s2, s3, s4, s5, s6, s7, s8⟩
              go_simp
              with_reducible rfl
             rotate_left
             ·
              simp only [Act.put, List.setIfInBounds_toArray, List.set_cons_zero, List.set_cons_succ, i64_w, i32_w]
              rfl
             refine take_ (i := 6) (N := some 36) (v := ?_) (a' := ?_) #[true, true, true, false, true, true, true, false, false, true, true, false, false, false, false, true, true, false, false, false, false, false, false, false, false, false, false, true, true, false, false, false, true, true, false, false, false, false] rfl rfl (take_ofW HT_.out HW_.out (by kernel_rfl)) (fun _ _ _ h => h) (Or.inl ⟨by rfl, ?_⟩) hHeld ?_ ?_
             rotate_left
             ·
              rintro w' ⟨s0, s1, s2, s3, s4, s5, s6, s7, s8⟩
              go_simp
              with_reducible rfl
             rotate_left
             ·
              simp only [Act.put, List.setIfInBounds_toArray, List.set_cons_zero, List.set_cons_succ, i64_w, i32_w]
              rfl
             refine take_ (i := 11) (N := some 41) (v := ?_) (a' := ?_) #[true, true, true, false, true, true, true, false, false, true, true, true, false, false, false, true, true, false, false, false, false, false, false, false, false, false, false, true, true, false, false, false, true, true, false, false, false, false] rfl rfl (take_ofW HT_.out HW_.out (by kernel_rfl)) (fun _ _ _ h => h) (Or.inl ⟨by rfl, ?_⟩) hHeld ?_ ?_
             rotate_left
             ·
              rintro w' ⟨s0, s1, s2, s3, s4, s5, s6, s7, s8⟩
              go_simp
              with_reducible rfl
             rotate_left
             ·
              simp only [Act.put, List.setIfInBounds_toArray, List.set_cons_zero, List.set_cons_succ, i64_w, i32_w]
              rfl
             refine pure_ (i := 12) (N := some 42) (v := ?_) (a' := ?_) #[true, true, true, false, true, true, true, false, false, true, true, true, true, false, false, true, true, false, false, false, false, false, false, false, false, false, false, true, true, false, false, false, true, true, false, false, false, false] rfl rfl (any_of HT_.out (by kernel_rfl)) (fun _ _ _ h => h) (Or.inl ⟨by rfl, ?_⟩) ?_ ?_
             rotate_left
             ·
              intro w'
              go_simp
              with_reducible rfl
             rotate_left
             ·
              simp only [Act.put, List.setIfInBounds_toArray, List.set_cons_zero, List.set_cons_succ, i64_w, i32_w]
              rfl
             refine take_ (i := 17) (N := some 47) (v := ?_) (a' := ?_) #[true, true, true, false, true, true, true, false, false, true, true, true, true, false, false, true, true, true, false, false, false, false, false, false, false, false, false, true, true, false, false, false, true, true, false, false, false, false] rfl rfl (take_ofW HT_.out HW_.out (by kernel_rfl)) (fun _ _ _ h => h) (Or.inl ⟨by rfl, ?_⟩) hHeld ?_ ?_
             rotate_left
             ·
              rintro w' ⟨s0, s1, s2, s3, s4, s5, s6, s7, s8⟩
              go_simp
              with_reducible rfl
             rotate_left
             ·
              simp only [Act.put, List.setIfInBounds_toArray, List.set_cons_zero, List.set_cons_succ, i64_w, i32_w]
              rfl
             refine pure_ (i := 18) (N := some 48) (v := ?_) (a' := ?_) #[true, true, true, false, true, true, true, false, false, true, true, true, true, false, false, true, true, true, true, false, false, false, false, false, false, false, false, true, true, false, false, false, true, true, false, false, false, false] rfl rfl (any_of HT_.out (by kernel_rfl)) (fun _ _ _ h => h) (Or.inl ⟨by rfl, ?_⟩) ?_ ?_
             rotate_left
             ·
              intro w'
              go_simp
              with_reducible rfl
             rotate_left
             ·
              simp only [Act.put, List.setIfInBounds_toArray, List.set_cons_zero, List.set_cons_succ, i64_w, i32_w]
              rfl
             refine take_ (i := 21) (N := some 51) (v := ?_) (a' := ?_) #[true, true, true, false, true, true, true, false, false, true, true, true, true, false, false, true, true, true, true, false, false, true, false, false, false, false, false, true, true, false, false, false, true, true, false, false, false, false] rfl rfl (take_ofW HT_.out HW_.out (by kernel_rfl)) (fun _ _ _ h => h) (Or.inl ⟨by rfl, ?_⟩) hHeld ?_ ?_
             rotate_left
             ·
              rintro w' ⟨s0, s1, s2, s3, s4, s5, s6, s7, s8⟩
              go_simp
              with_reducible rfl
             rotate_left
             ·
              simp only [Act.put, List.setIfInBounds_toArray, List.set_cons_zero, List.set_cons_succ, i64_w, i32_w]
              rfl
             refine take_ (i := 29) (N := some 59) (v := ?_) (a' := ?_) #[true, true, true, false, true, true, true, false, false, true, true, true, true, false, false, true, true, true, true, false, false, true, false, false, false, false, false, true, true, true, false, false, true, true, false, false, false, false] rfl rfl (take_ofW HT_.out HW_.out (by kernel_rfl)) (fun _ _ _ h => h) (Or.inl ⟨by rfl, ?_⟩) hHeld ?_ ?_
             rotate_left
             ·
              rintro w' ⟨s0, s1, s2, s3, s4, s5, s6, s7, s8⟩
              go_simp
              with_reducible rfl
             rotate_left
             ·
              simp only [Act.put, List.setIfInBounds_toArray, List.set_cons_zero, List.set_cons_succ, i64_w, i32_w]
              rfl
             refine take_ (i := 34) (N := some 64) (v := ?_) (a' := ?_) #[true, true, true, false, true, true, true, false, false, true, true, true, true, false, false, true, true, true, true, false, false, true, false, false, false, false, false, true, true, true, false, false, true, true, true, false, false, false] rfl rfl (take_ofW HT_.out HW_.out (by kernel_rfl)) (fun _ _ _ h => h) (Or.inl ⟨by rfl, ?_⟩) hHeld ?_ ?_
             rotate_left
             ·
              rintro w' ⟨s0, s1, s2, s3, s4, s5, s6, s7, s8⟩
              go_simp
              with_reducible rfl
             rotate_left
             ·
              simp only [Act.put, List.setIfInBounds_toArray, List.set_cons_zero, List.set_cons_succ, i64_w, i32_w]
              rfl
             refine one_ (i := 3) (N := some 33) #[true, true, true, true, true, true, true, false, false, true, true, true, true, false, false, true, true, true, true, false, false, true, false, false, false, false, false, true, true, true, false, false, true, true, true, false, false, false] rfl rfl (one_of HT_.out (by kernel_rfl)) (by decide) (fun K hK => ?_)
             refine goes_ Try.func42 (by kernel_rfl) rfl #[.int .i64 a2_0, .int .i64 2] (by rfl) rfl rfl (by (try simp only [List.map_toArray, List.map_cons, List.map_nil]); first | done | rfl | (simp only [List.length_drop, List.length_take]; rfl)) ?_
             with_reducible refine (sum_Big.calls k a2_0 2 t122 _ A17.out).mono ?_
             rintro e w47 ⟨rfl, hb⟩
             refine ⟨_, rfl, ?_⟩
             have n0_ := Aside0.mk (blk_below (g := gb118) (o := .cells #[.int .i64 a2_0, .int .i64 a2_1, .int .u32 a2_2, .int .u32 a2_3, .int .i64 a2_4, .int .i64 a2_5, .string a2_6] 42 (0, 0)) (by (with_reducible repeat (first | refine blk_drewN ?_ _ | refine blk_drew ?_ | refine blk_alloc ?_ _)); exact BK118.out) hb)
             have n1_ := Aside0.mk (blk_below (g := gb119) (o := .cells #[.int .i64 a2_0, .int .i64 a2_1, .int .u32 a2_2, .int .u32 a2_3, .int .i64 a2_4, .int .i64 a2_5, .string a2_6, .int .u32 a0, .int .u32 a1] 73 (0, 0)) (by (with_reducible repeat (first | refine blk_drewN ?_ _ | refine blk_drew ?_ | refine blk_alloc ?_ _)); exact BK119.out) hb)
             have n2_ := Aside0.mk (below_step (by repeat (first | (with_reducible first | exact HB.out | apply below_alloc | apply pw_below_drewN | apply below_drew1 | refine below_set ?_ GE118.out | refine below_set ?_ GE119.out) | exact HB.out)) hb)
             clear BK118
             clear BK119
             clear HB
             have BK118 := n0_
             have BK119 := n1_
             have HB := n2_
             clear n0_ n1_ n2_
             (try clear hb)
             (try clear hb2)
             (try clear hk)
             (try clear hi)
             refine hK.out _ _ ⟨(blk_cell BK119.out 0).trans rfl, (blk_cell BK119.out 1).trans rfl, (blk_cell BK119.out 2).trans rfl, (blk_cell BK119.out 3).trans rfl, (blk_cell BK119.out 4).trans rfl, (blk_cell BK119.out 5).trans rfl, (blk_cell BK119.out 6).trans rfl, (blk_cell BK119.out 7).trans rfl, (blk_cell BK119.out 8).trans rfl⟩ (fun hHeld => ?_)
             clear hK K
             refine norm_ (a' := ?_) ?_ ?_
             rotate_left
             ·
              show Act.put _ (some 33) _ = _
              simp only [Act.put, List.setIfInBounds_toArray, List.set_cons_zero, List.set_cons_succ, i64_w, i32_w]
              rfl
             refine one_ (i := 7) (N := some 37) #[true, true, true, true, true, true, true, true, false, true, true, true, true, false, false, true, true, true, true, false, false, true, false, false, false, false, false, true, true, true, false, false, true, true, true, false, false, false] rfl rfl (one_of HT_.out (by kernel_rfl)) (by decide) (fun K hK => ?_)
             refine goes_ Try.func42 (by kernel_rfl) rfl #[.int .i64 a2_1, .int .i64 2] (by rfl) rfl rfl (by (try simp only [List.map_toArray, List.map_cons, List.map_nil]); first | done | rfl | (simp only [List.length_drop, List.length_take]; rfl)) ?_
             with_reducible refine (sum_Big.calls k a2_1 2 t123 _ A18.out).mono ?_
             rintro e w48 ⟨rfl, hb⟩
             refine ⟨_, rfl, ?_⟩
             have n0_ := Aside0.mk (blk_below (g := gb118) (o := .cells #[.int .i64 a2_0, .int .i64 a2_1, .int .u32 a2_2, .int .u32 a2_3, .int .i64 a2_4, .int .i64 a2_5, .string a2_6] 42 (0, 0)) (by (with_reducible repeat (first | refine blk_drewN ?_ _ | refine blk_drew ?_ | refine blk_alloc ?_ _)); exact BK118.out) hb)
             have n1_ := Aside0.mk (blk_below (g := gb119) (o := .cells #[.int .i64 a2_0, .int .i64 a2_1, .int .u32 a2_2, .int .u32 a2_3, .int .i64 a2_4, .int .i64 a2_5, .string a2_6, .int .u32 a0, .int .u32 a1] 73 (0, 0)) (by (with_reducible repeat (first | refine blk_drewN ?_ _ | refine blk_drew ?_ | refine blk_alloc ?_ _)); exact BK119.out) hb)
             have n2_ := Aside0.mk (below_step (by repeat (first | (with_reducible first | exact HB.out | apply below_alloc | apply pw_below_drewN | apply below_drew1 | refine below_set ?_ GE118.out | refine below_set ?_ GE119.out) | exact HB.out)) hb)
             clear BK118
             clear BK119
             clear HB
             have BK118 := n0_
             have BK119 := n1_
             have HB := n2_
             clear n0_ n1_ n2_
             (try clear hb)
             (try clear hb2)
             (try clear hk)
             (try clear hi)
             refine hK.out _ _ ⟨(blk_cell BK119.out 0).trans rfl, (blk_cell BK119.out 1).trans rfl, (blk_cell BK119.out 2).trans rfl, (blk_cell BK119.out 3).trans rfl, (blk_cell BK119.out 4).trans rfl, (blk_cell BK119.out 5).trans rfl, (blk_cell BK119.out 6).trans rfl, (blk_cell BK119.out 7).trans rfl, (blk_cell BK119.out 8).trans rfl⟩ (fun hHeld => ?_)
             clear hK K
             refine norm_ (a' := ?_) ?_ ?_
             rotate_left
             ·
              show Act.put _ (some 37) _ = _
              simp only [Act.put, List.setIfInBounds_toArray, List.set_cons_zero, List.set_cons_succ, i64_w, i32_w]
              rfl
             refine pure_ (i := 8) (N := some 38) (v := ?_) (a' := ?_) #[true, true, true, true, true, true, true, true, true, true, true, true, true, false, false, true, true, true, true, false, false, true, false, false, false, false, false, true, true, true, false, false, true, true, true, false, false, false] rfl rfl (any_of HT_.out (by kernel_rfl)) (fun _ _ _ h => h) (Or.inl ⟨by rfl, ?_⟩) ?_ ?_
             rotate_left
             ·
              intro w'
              go_simp
              with_reducible rfl
             rotate_left
             ·
              simp only [Act.put, List.setIfInBounds_toArray, List.set_cons_zero, List.set_cons_succ, i64_w, i32_w]
              rfl
             refine one_ (i := 13) (N := some 43) #[true, true, true, true, true, true, true, true, true, true, true, true, true, true, false, true, true, true, true, false, false, true, false, false, false, false, false, true, true, true, false, false, true, true, true, false, false, false] rfl rfl (one_of HT_.out (by kernel_rfl)) (by decide) (fun K hK => ?_)
             refine goes_ Try.func42 (by kernel_rfl) rfl #[.int .i64 (wrap64 (a2_2)), .int .i64 4] (by rfl) rfl rfl (by (try simp only [List.map_toArray, List.map_cons, List.map_nil]); first | done | rfl | (simp only [List.length_drop, List.length_take]; rfl)) ?_
             with_reducible refine (sum_Big.calls k (wrap64 (a2_2)) 4 t124 _ A20.out).mono ?_
             rintro e w49 ⟨rfl, hb⟩
             refine ⟨_, rfl, ?_⟩
             have n0_ := Aside0.mk (blk_below (g := gb118) (o := .cells #[.int .i64 a2_0, .int .i64 a2_1, .int .u32 a2_2, .int .u32 a2_3, .int .i64 a2_4, .int .i64 a2_5, .string a2_6] 42 (0, 0)) (by (with_reducible repeat (first | refine blk_drewN ?_ _ | refine blk_drew ?_ | refine blk_alloc ?_ _)); exact BK118.out) hb)
             have n1_ := Aside0.mk (blk_below (g := gb119) (o := .cells #[.int .i64 a2_0, .int .i64 a2_1, .int .u32 a2_2, .int .u32 a2_3, .int .i64 a2_4, .int .i64 a2_5, .string a2_6, .int .u32 a0, .int .u32 a1] 73 (0, 0)) (by (with_reducible repeat (first | refine blk_drewN ?_ _ | refine blk_drew ?_ | refine blk_alloc ?_ _)); exact BK119.out) hb)
             have n2_ := Aside0.mk (below_step (by repeat (first | (with_reducible first | exact HB.out | apply below_alloc | apply pw_below_drewN | apply below_drew1 | refine below_set ?_ GE118.out | refine below_set ?_ GE119.out) | exact HB.out)) hb)
             clear BK118
             clear BK119
             clear HB
             have BK118 := n0_
             have BK119 := n1_
             have HB := n2_
             clear n0_ n1_ n2_
             (try clear hb)
             (try clear hb2)
             (try clear hk)
             (try clear hi)
             refine hK.out _ _ ⟨(blk_cell BK119.out 0).trans rfl, (blk_cell BK119.out 1).trans rfl, (blk_cell BK119.out 2).trans rfl, (blk_cell BK119.out 3).trans rfl, (blk_cell BK119.out 4).trans rfl, (blk_cell BK119.out 5).trans rfl, (blk_cell BK119.out 6).trans rfl, (blk_cell BK119.out 7).trans rfl, (blk_cell BK119.out 8).trans rfl⟩ (fun hHeld => ?_)
             clear hK K
             refine norm_ (a' := ?_) ?_ ?_
             rotate_left
             ·
              show Act.put _ (some 43) _ = _
              simp only [Act.put, List.setIfInBounds_toArray, List.set_cons_zero, List.set_cons_succ, i64_w, i32_w]
              rfl
             refine pure_ (i := 14) (N := some 44) (v := ?_) (a' := ?_) #[true, true, true, true, true, true, true, true, true, true, true, true, true, true, true, true, true, true, true, false, false, true, false, false, false, false, false, true, true, true, false, false, true, true, true, false, false, false] rfl rfl (any_of HT_.out (by kernel_rfl)) (fun _ _ _ h => h) (Or.inl ⟨by rfl, ?_⟩) ?_ ?_
             rotate_left
             ·
              intro w'
              go_simp
              with_reducible rfl
             rotate_left
             ·
              simp only [Act.put, List.setIfInBounds_toArray, List.set_cons_zero, List.set_cons_succ, i64_w, i32_w]
              rfl
             refine one_ (i := 19) (N := some 49) #[true, true, true, true, true, true, true, true, true, true, true, true, true, true, true, true, true, true, true, true, false, true, false, false, false, false, false, true, true, true, false, false, true, true, true, false, false, false] rfl rfl (one_of HT_.out (by kernel_rfl)) (by decide) (fun K hK => ?_)
             refine goes_ Try.func42 (by kernel_rfl) rfl #[.int .i64 (wrap64 (a2_3)), .int .i64 4] (by rfl) rfl rfl (by (try simp only [List.map_toArray, List.map_cons, List.map_nil]); first | done | rfl | (simp only [List.length_drop, List.length_take]; rfl)) ?_
             with_reducible refine (sum_Big.calls k (wrap64 (a2_3)) 4 t125 _ A22.out).mono ?_
             rintro e w50 ⟨rfl, hb⟩
             refine ⟨_, rfl, ?_⟩
             have n0_ := Aside0.mk (blk_below (g := gb118) (o := .cells #[.int .i64 a2_0, .int .i64 a2_1, .int .u32 a2_2, .int .u32 a2_3, .int .i64 a2_4, .int .i64 a2_5, .string a2_6] 42 (0, 0)) (by (with_reducible repeat (first | refine blk_drewN ?_ _ | refine blk_drew ?_ | refine blk_alloc ?_ _)); exact BK118.out) hb)
             have n1_ := Aside0.mk (blk_below (g := gb119) (o := .cells #[.int .i64 a2_0, .int .i64 a2_1, .int .u32 a2_2, .int .u32 a2_3, .int .i64 a2_4, .int .i64 a2_5, .string a2_6, .int .u32 a0, .int .u32 a1] 73 (0, 0)) (by (with_reducible repeat (first | refine blk_drewN ?_ _ | refine blk_drew ?_ | refine blk_alloc ?_ _)); exact BK119.out) hb)
             have n2_ := Aside0.mk (below_step (by repeat (first | (with_reducible first | exact HB.out | apply below_alloc | apply pw_below_drewN | apply below_drew1 | refine below_set ?_ GE118.out | refine below_set ?_ GE119.out) | exact HB.out)) hb)
             clear BK118
             clear BK119
             clear HB
             have BK118 := n0_
             have BK119 := n1_
             have HB := n2_
             clear n0_ n1_ n2_
             (try clear hb)
             (try clear hb2)
             (try clear hk)
             (try clear hi)
             refine hK.out _ _ ⟨(blk_cell BK119.out 0).trans rfl, (blk_cell BK119.out 1).trans rfl, (blk_cell BK119.out 2).trans rfl, (blk_cell BK119.out 3).trans rfl, (blk_cell BK119.out 4).trans rfl, (blk_cell BK119.out 5).trans rfl, (blk_cell BK119.out 6).trans rfl, (blk_cell BK119.out 7).trans rfl, (blk_cell BK119.out 8).trans rfl⟩ (fun hHeld => ?_)
             clear hK K
             refine norm_ (a' := ?_) ?_ ?_
             rotate_left
             ·
              show Act.put _ (some 49) _ = _
              simp only [Act.put, List.setIfInBounds_toArray, List.set_cons_zero, List.set_cons_succ, i64_w, i32_w]
              rfl
             refine pure_ (i := 20) (N := some 50) (v := ?_) (a' := ?_) #[true, true, true, true, true, true, true, true, true, true, true, true, true, true, true, true, true, true, true, true, true, true, false, false, false, false, false, true, true, true, false, false, true, true, true, false, false, false] rfl rfl (any_of HT_.out (by kernel_rfl)) (fun _ _ _ h => h) (Or.inl ⟨by rfl, ?_⟩) ?_ ?_
             rotate_left
             ·
              intro w'
              go_simp
              with_reducible rfl
             rotate_left
             ·
              simp only [Act.put, List.setIfInBounds_toArray, List.set_cons_zero, List.set_cons_succ, i64_w, i32_w]
              rfl
             refine one_ (i := 22) (N := some 52) #[true, true, true, true, true, true, true, true, true, true, true, true, true, true, true, true, true, true, true, true, true, true, true, false, false, false, false, true, true, true, false, false, true, true, true, false, false, false] rfl rfl (one_of HT_.out (by kernel_rfl)) (by decide) (fun K hK => ?_)
             refine goes_ Try.func53 (by kernel_rfl) rfl #[.agg #[.int .i64 a2_0, .int .i64 a2_1, .int .u32 a2_2, .int .u32 a2_3, .int .i64 a2_4, .int .i64 a2_5, .string a2_6, .int .u32 a0, .int .u32 a1]] (by rfl) rfl rfl (by (try simp only [List.map_toArray, List.map_cons, List.map_nil]); first | done | rfl | (simp only [List.length_drop, List.length_take]; rfl)) ?_
             with_reducible refine (tcp_head_size.calls a2_0 a2_1 a2_2 a2_3 a2_4 a2_5 a2_6 a0 a1 t126 _ A24.out).mono ?_
             rintro e w51 ⟨rfl, hb⟩
             refine ⟨_, rfl, ?_⟩
             have n0_ := Aside0.mk (blk_below (g := gb118) (o := .cells #[.int .i64 a2_0, .int .i64 a2_1, .int .u32 a2_2, .int .u32 a2_3, .int .i64 a2_4, .int .i64 a2_5, .string a2_6] 42 (0, 0)) (by (with_reducible repeat (first | refine blk_drewN ?_ _ | refine blk_drew ?_ | refine blk_alloc ?_ _)); exact BK118.out) hb)
             have n1_ := Aside0.mk (blk_below (g := gb119) (o := .cells #[.int .i64 a2_0, .int .i64 a2_1, .int .u32 a2_2, .int .u32 a2_3, .int .i64 a2_4, .int .i64 a2_5, .string a2_6, .int .u32 a0, .int .u32 a1] 73 (0, 0)) (by (with_reducible repeat (first | refine blk_drewN ?_ _ | refine blk_drew ?_ | refine blk_alloc ?_ _)); exact BK119.out) hb)
             have n2_ := Aside0.mk (below_step (by repeat (first | (with_reducible first | exact HB.out | apply below_alloc | apply pw_below_drewN | apply below_drew1 | refine below_set ?_ GE118.out | refine below_set ?_ GE119.out) | exact HB.out)) hb)
             clear BK118
             clear BK119
             clear HB
             have BK118 := n0_
             have BK119 := n1_
             have HB := n2_
             clear n0_ n1_ n2_
             (try clear hb)
             (try clear hb2)
             (try clear hk)
             (try clear hi)
             refine hK.out _ _ ⟨(blk_cell BK119.out 0).trans rfl, (blk_cell BK119.out 1).trans rfl, (blk_cell BK119.out 2).trans rfl, (blk_cell BK119.out 3).trans rfl, (blk_cell BK119.out 4).trans rfl, (blk_cell BK119.out 5).trans rfl, (blk_cell BK119.out 6).trans rfl, (blk_cell BK119.out 7).trans rfl, (blk_cell BK119.out 8).trans rfl⟩ (fun hHeld => ?_)
             clear hK K
             refine norm_ (a' := ?_) ?_ ?_
             rotate_left
             ·
              show Act.put _ (some 52) _ = _
              simp only [Act.put, List.setIfInBounds_toArray, List.set_cons_zero, List.set_cons_succ, i64_w, i32_w]
              rfl
             refine pure_ (i := 23) (N := some 53) (v := ?_) (a' := ?_) #[true, true, true, true, true, true, true, true, true, true, true, true, true, true, true, true, true, true, true, true, true, true, true, true, false, false, false, true, true, true, false, false, true, true, true, false, false, false] rfl rfl (any_of HT_.out (by kernel_rfl)) (fun _ _ _ h => h) (Or.inl ⟨by rfl, ?_⟩) ?_ ?_
             rotate_left
             ·
              intro w'
              go_simp
              with_reducible rfl
             rotate_left
             ·
              simp only [Act.put, List.setIfInBounds_toArray, List.set_cons_zero, List.set_cons_succ, i64_w, i32_w]
              rfl
             refine pure_ (i := 24) (N := some 54) (v := ?_) (a' := ?_) #[true, true, true, true, true, true, true, true, true, true, true, true, true, true, true, true, true, true, true, true, true, true, true, true, true, false, false, true, true, true, false, false, true, true, true, false, false, false] rfl rfl (any_of HT_.out (by kernel_rfl)) (fun _ _ _ h => h) (Or.inl ⟨by rfl, ?_⟩) ?_ ?_
             rotate_left
             ·
              intro w'
              go_simp
              with_reducible rfl
             rotate_left
             ·
              simp only [Act.put, List.setIfInBounds_toArray, List.set_cons_zero, List.set_cons_succ, i64_w, i32_w]
              rfl
             refine one_ (i := 25) (N := some 55) #[true, true, true, true, true, true, true, true, true, true, true, true, true, true, true, true, true, true, true, true, true, true, true, true, true, true, false, true, true, true, false, false, true, true, true, false, false, false] rfl rfl (one_of HT_.out (by kernel_rfl)) (by decide) (fun K hK => ?_)
             refine goes_ Try.func42 (by kernel_rfl) rfl #[.int .i64 (wrap64 ((wrap64 (Int.tdiv t126 4)) * 16)), .int .i64 1] (by rfl) rfl rfl (by (try simp only [List.map_toArray, List.map_cons, List.map_nil]); first | done | rfl | (simp only [List.length_drop, List.length_take]; rfl)) ?_
             with_reducible refine (sum_Big.calls k (wrap64 ((wrap64 (Int.tdiv t126 4)) * 16)) 1 t127 _ A25.out).mono ?_
             rintro e w52 ⟨rfl, hb⟩
             refine ⟨_, rfl, ?_⟩
             have n0_ := Aside0.mk (blk_below (g := gb118) (o := .cells #[.int .i64 a2_0, .int .i64 a2_1, .int .u32 a2_2, .int .u32 a2_3, .int .i64 a2_4, .int .i64 a2_5, .string a2_6] 42 (0, 0)) (by (with_reducible repeat (first | refine blk_drewN ?_ _ | refine blk_drew ?_ | refine blk_alloc ?_ _)); exact BK118.out) hb)
             have n1_ := Aside0.mk (blk_below (g := gb119) (o := .cells #[.int .i64 a2_0, .int .i64 a2_1, .int .u32 a2_2, .int .u32 a2_3, .int .i64 a2_4, .int .i64 a2_5, .string a2_6, .int .u32 a0, .int .u32 a1] 73 (0, 0)) (by (with_reducible repeat (first | refine blk_drewN ?_ _ | refine blk_drew ?_ | refine blk_alloc ?_ _)); exact BK119.out) hb)
             have n2_ := Aside0.mk (below_step (by repeat (first | (with_reducible first | exact HB.out | apply below_alloc | apply pw_below_drewN | apply below_drew1 | refine below_set ?_ GE118.out | refine below_set ?_ GE119.out) | exact HB.out)) hb)
             clear BK118
             clear BK119
             clear HB
             have BK118 := n0_
             have BK119 := n1_
             have HB := n2_
             clear n0_ n1_ n2_
             (try clear hb)
             (try clear hb2)
             (try clear hk)
             (try clear hi)
             refine hK.out _ _ ⟨(blk_cell BK119.out 0).trans rfl, (blk_cell BK119.out 1).trans rfl, (blk_cell BK119.out 2).trans rfl, (blk_cell BK119.out 3).trans rfl, (blk_cell BK119.out 4).trans rfl, (blk_cell BK119.out 5).trans rfl, (blk_cell BK119.out 6).trans rfl, (blk_cell BK119.out 7).trans rfl, (blk_cell BK119.out 8).trans rfl⟩ (fun hHeld => ?_)
             clear hK K
             refine norm_ (a' := ?_) ?_ ?_
             rotate_left
             ·
              show Act.put _ (some 55) _ = _
              simp only [Act.put, List.setIfInBounds_toArray, List.set_cons_zero, List.set_cons_succ, i64_w, i32_w]
              rfl
             refine pure_ (i := 26) (N := some 56) (v := ?_) (a' := ?_) #[true, true, true, true, true, true, true, true, true, true, true, true, true, true, true, true, true, true, true, true, true, true, true, true, true, true, true, true, true, true, false, false, true, true, true, false, false, false] rfl rfl (any_of HT_.out (by kernel_rfl)) (fun _ _ _ h => h) (Or.inl ⟨by rfl, ?_⟩) ?_ ?_
             rotate_left
             ·
              intro w'
              go_simp
              with_reducible rfl
             rotate_left
             ·
              simp only [Act.put, List.setIfInBounds_toArray, List.set_cons_zero, List.set_cons_succ, i64_w, i32_w]
              rfl
             refine one_ (i := 30) (N := some 60) #[true, true, true, true, true, true, true, true, true, true, true, true, true, true, true, true, true, true, true, true, true, true, true, true, true, true, true, true, true, true, true, false, true, true, true, false, false, false] rfl rfl (one_of HT_.out (by kernel_rfl)) (by decide) (fun K hK => ?_)
             refine goes_ Try.func42 (by kernel_rfl) rfl #[.int .i64 a2_4, .int .i64 1] (by rfl) rfl rfl (by (try simp only [List.map_toArray, List.map_cons, List.map_nil]); first | done | rfl | (simp only [List.length_drop, List.length_take]; rfl)) ?_
             with_reducible refine (sum_Big.calls k a2_4 1 t128 _ A27.out).mono ?_
             rintro e w53 ⟨rfl, hb⟩
             refine ⟨_, rfl, ?_⟩
             have n0_ := Aside0.mk (blk_below (g := gb118) (o := .cells #[.int .i64 a2_0, .int .i64 a2_1, .int .u32 a2_2, .int .u32 a2_3, .int .i64 a2_4, .int .i64 a2_5, .string a2_6] 42 (0, 0)) (by (with_reducible repeat (first | refine blk_drewN ?_ _ | refine blk_drew ?_ | refine blk_alloc ?_ _)); exact BK118.out) hb)
             have n1_ := Aside0.mk (blk_below (g := gb119) (o := .cells #[.int .i64 a2_0, .int .i64 a2_1, .int .u32 a2_2, .int .u32 a2_3, .int .i64 a2_4, .int .i64 a2_5, .string a2_6, .int .u32 a0, .int .u32 a1] 73 (0, 0)) (by (with_reducible repeat (first | refine blk_drewN ?_ _ | refine blk_drew ?_ | refine blk_alloc ?_ _)); exact BK119.out) hb)
             have n2_ := Aside0.mk (below_step (by repeat (first | (with_reducible first | exact HB.out | apply below_alloc | apply pw_below_drewN | apply below_drew1 | refine below_set ?_ GE118.out | refine below_set ?_ GE119.out) | exact HB.out)) hb)
             clear BK118
             clear BK119
             clear HB
             have BK118 := n0_
             have BK119 := n1_
             have HB := n2_
             clear n0_ n1_ n2_
             (try clear hb)
             (try clear hb2)
             (try clear hk)
             (try clear hi)
             refine hK.out _ _ ⟨(blk_cell BK119.out 0).trans rfl, (blk_cell BK119.out 1).trans rfl, (blk_cell BK119.out 2).trans rfl, (blk_cell BK119.out 3).trans rfl, (blk_cell BK119.out 4).trans rfl, (blk_cell BK119.out 5).trans rfl, (blk_cell BK119.out 6).trans rfl, (blk_cell BK119.out 7).trans rfl, (blk_cell BK119.out 8).trans rfl⟩ (fun hHeld => ?_)
             clear hK K
             refine norm_ (a' := ?_) ?_ ?_
             rotate_left
             ·
              show Act.put _ (some 60) _ = _
              simp only [Act.put, List.setIfInBounds_toArray, List.set_cons_zero, List.set_cons_succ, i64_w, i32_w]
              rfl
             refine pure_ (i := 31) (N := some 61) (v := ?_) (a' := ?_) #[true, true, true, true, true, true, true, true, true, true, true, true, true, true, true, true, true, true, true, true, true, true, true, true, true, true, true, true, true, true, true, true, true, true, true, false, false, false] rfl rfl (any_of HT_.out (by kernel_rfl)) (fun _ _ _ h => h) (Or.inl ⟨by rfl, ?_⟩) ?_ ?_
             rotate_left
             ·
              intro w'
              go_simp
              with_reducible rfl
             rotate_left
             ·
              simp only [Act.put, List.setIfInBounds_toArray, List.set_cons_zero, List.set_cons_succ, i64_w, i32_w]
              rfl
             refine one_ (i := 35) (N := some 65) #[true, true, true, true, true, true, true, true, true, true, true, true, true, true, true, true, true, true, true, true, true, true, true, true, true, true, true, true, true, true, true, true, true, true, true, true, false, false] rfl rfl (one_of HT_.out (by kernel_rfl)) (by decide) (fun K hK => ?_)
             refine goes_ Try.func42 (by kernel_rfl) rfl #[.int .i64 a2_5, .int .i64 2] (by rfl) rfl rfl (by (try simp only [List.map_toArray, List.map_cons, List.map_nil]); first | done | rfl | (simp only [List.length_drop, List.length_take]; rfl)) ?_
             with_reducible refine (sum_Big.calls k a2_5 2 t129 _ A29.out).mono ?_
             rintro e w54 ⟨rfl, hb⟩
             refine ⟨_, rfl, ?_⟩
             have n0_ := Aside0.mk (blk_below (g := gb118) (o := .cells #[.int .i64 a2_0, .int .i64 a2_1, .int .u32 a2_2, .int .u32 a2_3, .int .i64 a2_4, .int .i64 a2_5, .string a2_6] 42 (0, 0)) (by (with_reducible repeat (first | refine blk_drewN ?_ _ | refine blk_drew ?_ | refine blk_alloc ?_ _)); exact BK118.out) hb)
             have n1_ := Aside0.mk (blk_below (g := gb119) (o := .cells #[.int .i64 a2_0, .int .i64 a2_1, .int .u32 a2_2, .int .u32 a2_3, .int .i64 a2_4, .int .i64 a2_5, .string a2_6, .int .u32 a0, .int .u32 a1] 73 (0, 0)) (by (with_reducible repeat (first | refine blk_drewN ?_ _ | refine blk_drew ?_ | refine blk_alloc ?_ _)); exact BK119.out) hb)
             have n2_ := Aside0.mk (below_step (by repeat (first | (with_reducible first | exact HB.out | apply below_alloc | apply pw_below_drewN | apply below_drew1 | refine below_set ?_ GE118.out | refine below_set ?_ GE119.out) | exact HB.out)) hb)
             clear BK118
             clear BK119
             clear HB
             have BK118 := n0_
             have BK119 := n1_
             have HB := n2_
             clear n0_ n1_ n2_
             (try clear hb)
             (try clear hb2)
             (try clear hk)
             (try clear hi)
             refine hK.out _ _ ⟨(blk_cell BK119.out 0).trans rfl, (blk_cell BK119.out 1).trans rfl, (blk_cell BK119.out 2).trans rfl, (blk_cell BK119.out 3).trans rfl, (blk_cell BK119.out 4).trans rfl, (blk_cell BK119.out 5).trans rfl, (blk_cell BK119.out 6).trans rfl, (blk_cell BK119.out 7).trans rfl, (blk_cell BK119.out 8).trans rfl⟩ (fun hHeld => ?_)
             clear hK K
             refine norm_ (a' := ?_) ?_ ?_
             rotate_left
             ·
              show Act.put _ (some 65) _ = _
              simp only [Act.put, List.setIfInBounds_toArray, List.set_cons_zero, List.set_cons_succ, i64_w, i32_w]
              rfl
             refine pure_ (i := 36) (N := some 66) (v := ?_) (a' := ?_) #[true, true, true, true, true, true, true, true, true, true, true, true, true, true, true, true, true, true, true, true, true, true, true, true, true, true, true, true, true, true, true, true, true, true, true, true, true, false] rfl rfl (any_of HT_.out (by kernel_rfl)) (fun _ _ _ h => h) (Or.inl ⟨by rfl, ?_⟩) ?_ ?_
             rotate_left
             ·
              intro w'
              go_simp
              with_reducible rfl
             rotate_left
             ·
              simp only [Act.put, List.setIfInBounds_toArray, List.set_cons_zero, List.set_cons_succ, i64_w, i32_w]
              rfl
             refine pure_ (i := 37) (N := some 12) (v := ?_) (a' := ?_) #[true, true, true, true, true, true, true, true, true, true, true, true, true, true, true, true, true, true, true, true, true, true, true, true, true, true, true, true, true, true, true, true, true, true, true, true, true, true] rfl rfl (any_of HT_.out (by kernel_rfl)) (fun _ _ _ h => h) (Or.inl ⟨by rfl, ?_⟩) ?_ ?_
             rotate_left
             ·
              intro w'
              go_simp
              with_reducible rfl
             rotate_left
             ·
              simp only [Act.put, List.setIfInBounds_toArray, List.set_cons_zero, List.set_cons_succ, i64_w, i32_w]
              rfl
             refine done_ (done_of HT_.out (by kernel_rfl)) ?_
             have hcz55_0 : w54.cell? ⟨gb119, 0, none⟩ = some (.int .i64 a2_0) := (blk_cell BK119.out 0).trans rfl
             have hcz55_1 : w54.cell? ⟨gb119, 1, none⟩ = some (.int .i64 a2_1) := (blk_cell BK119.out 1).trans rfl
             have hcz55_2 : w54.cell? ⟨gb119, 2, none⟩ = some (.int .u32 a2_2) := (blk_cell BK119.out 2).trans rfl
             have hcz55_3 : w54.cell? ⟨gb119, 3, none⟩ = some (.int .u32 a2_3) := (blk_cell BK119.out 3).trans rfl
             have hcz55_4 : w54.cell? ⟨gb119, 4, none⟩ = some (.int .i64 a2_4) := (blk_cell BK119.out 4).trans rfl
             have hcz55_5 : w54.cell? ⟨gb119, 5, none⟩ = some (.int .i64 a2_5) := (blk_cell BK119.out 5).trans rfl
             have hcz55_6 : w54.cell? ⟨gb119, 6, none⟩ = some (.string a2_6) := (blk_cell BK119.out 6).trans rfl
             have hcz55_7 : w54.cell? ⟨gb119, 7, none⟩ = some (.int .u32 a0) := (blk_cell BK119.out 7).trans rfl
             have hcz55_8 : w54.cell? ⟨gb119, 8, none⟩ = some (.int .u32 a1) := (blk_cell BK119.out 8).trans rfl
             have hfz55_0 := blk_frozen BK119.out 0
             have hfz55_1 := blk_frozen BK119.out 1
             have hfz55_2 := blk_frozen BK119.out 2
             have hfz55_3 := blk_frozen BK119.out 3
             have hfz55_4 := blk_frozen BK119.out 4
             have hfz55_5 := blk_frozen BK119.out 5
             have hfz55_6 := blk_frozen BK119.out 6
             have hfz55_7 := blk_frozen BK119.out 7
             have hfz55_8 := blk_frozen BK119.out 8
             try go_wp2_with (first | ((with_reducible refine gate_callee (f := 54) rfl ?_); refine goesL_ (some 76) rfl rfl Try.func54 (by kernel_rfl) rfl #[.agg #[.int .i64 a2_0, .int .i64 a2_1, .int .u32 a2_2, .int .u32 a2_3, .int .i64 a2_4, .int .i64 a2_5, .string a2_6, .int .u32 a0, .int .u32 a1], .int .i64 (wrap64 (t120 + (a3.size : Int)))] rfl (by (try simp only [List.map_toArray, List.map_cons, List.map_nil]); first | done | rfl | (simp only [List.length_drop, List.length_take]; rfl)) ?_; (with_reducible refine (tcp_head_pseudo.calls k a2_0 a2_1 a2_2 a2_3 a2_4 a2_5 a2_6 a0 a1 (wrap64 (t120 + (a3.size : Int))) t130 _ A33.out).mono ?_); rintro e w56 ⟨rfl, hb⟩; refine ⟨_, rfl, ?_⟩; have n0_ := Aside0.mk (blk_below (g := gb118) (o := .cells #[.int .i64 a2_0, .int .i64 a2_1, .int .u32 a2_2, .int .u32 a2_3, .int .i64 a2_4, .int .i64 a2_5, .string a2_6] 42 (0, 0)) (by (with_reducible repeat (first | refine blk_drewN ?_ _ | refine blk_drew ?_ | refine blk_alloc ?_ _)); exact BK118.out) hb); have n1_ := Aside0.mk (blk_below (g := gb119) (o := .cells #[.int .i64 a2_0, .int .i64 a2_1, .int .u32 a2_2, .int .u32 a2_3, .int .i64 a2_4, .int .i64 a2_5, .string a2_6, .int .u32 a0, .int .u32 a1] 73 (0, 0)) (by (with_reducible repeat (first | refine blk_drewN ?_ _ | refine blk_drew ?_ | refine blk_alloc ?_ _)); exact BK119.out) hb); have n2_ := Aside0.mk (below_step (by repeat (first | (with_reducible first | exact HB.out | apply below_alloc | apply pw_below_drewN | apply below_drew1 | refine below_set ?_ GE118.out | refine below_set ?_ GE119.out) | exact HB.out)) hb); clear BK118; clear BK119; clear HB; have BK118 := n0_; have BK119 := n1_; have HB := n2_; clear n0_ n1_ n2_; (try clear hb); (try clear hb2); (try clear hk); (try clear hi)) | ((with_reducible refine gate_dst (N := 79) rfl ?_); refine Kd.R_lit Kd.string _ 9 ?hg (N := 79) ?hd (xs := ([t130, (((((t122 ++ t123) ++ t124) ++ t125) ++ t127) ++ t128) ++ t129, (⟨#[0, 0]⟩ : ByteArray), ((⟨#[0, 0]⟩ : ByteArray) ++ a2_6) ++ a3] : List ByteArray)) (inner := [.string t130, .string ((((((t122 ++ t123) ++ t124) ++ t125) ++ t127) ++ t128) ++ t129), .string (⟨#[0, 0]⟩ : ByteArray), .string (((⟨#[0, 0]⟩ : ByteArray) ++ a2_6) ++ a3)]) (ok := fun _ => True) (okp := fun _ => True) ?hr ?hp (fun _ hk => hk) trivial (Below.refl _ _) (Nat.le_refl _) (by simp) ?_; (case hd => rfl); (case hg => rfl); (case hr => first | (go_simp; done) | (go_simp; rfl)); (case hp => exact (Reps.one (show Kd.M Kd.string _ _ _ t130 [.string t130] from rfl) (Reps.one (show Kd.M Kd.string _ _ _ ((((((t122 ++ t123) ++ t124) ++ t125) ++ t127) ++ t128) ++ t129) [.string ((((((t122 ++ t123) ++ t124) ++ t125) ++ t127) ++ t128) ++ t129)] from rfl) (Reps.one (show Kd.M Kd.string _ _ _ (⟨#[0, 0]⟩ : ByteArray) [.string (⟨#[0, 0]⟩ : ByteArray)] from rfl) (Reps.one (show Kd.M Kd.string _ _ _ (((⟨#[0, 0]⟩ : ByteArray) ++ a2_6) ++ a3) [.string (((⟨#[0, 0]⟩ : ByteArray) ++ a2_6) ++ a3)] from rfl) (Reps.none _ _)))))); intro v132 w57 ho58 hb hg_ hnew_; clear hg_ hnew_; (first | rw [← Ny131.out] at ho58 | (simp only [Int.reduceToNat] at ho58; rw [← Ny131.out] at ho58)); have n0_ := Aside0.mk (Kd.R_lower ho58 (below_size (by repeat (first | (with_reducible first | exact HB.out | apply below_alloc | apply pw_below_drewN | apply below_drew1 | refine below_set ?_ GE118.out | refine below_set ?_ GE119.out) | exact HB.out)))); have n1_ := Aside0.mk (blk_below (g := gb118) (o := .cells #[.int .i64 a2_0, .int .i64 a2_1, .int .u32 a2_2, .int .u32 a2_3, .int .i64 a2_4, .int .i64 a2_5, .string a2_6] 42 (0, 0)) (by (with_reducible repeat (first | refine blk_drewN ?_ _ | refine blk_drew ?_ | refine blk_alloc ?_ _)); exact BK118.out) hb); have n2_ := Aside0.mk (blk_below (g := gb119) (o := .cells #[.int .i64 a2_0, .int .i64 a2_1, .int .u32 a2_2, .int .u32 a2_3, .int .i64 a2_4, .int .i64 a2_5, .string a2_6, .int .u32 a0, .int .u32 a1] 73 (0, 0)) (by (with_reducible repeat (first | refine blk_drewN ?_ _ | refine blk_drew ?_ | refine blk_alloc ?_ _)); exact BK119.out) hb); have n3_ := Aside0.mk (below_step (by repeat (first | (with_reducible first | exact HB.out | apply below_alloc | apply pw_below_drewN | apply below_drew1 | refine below_set ?_ GE118.out | refine below_set ?_ GE119.out) | exact HB.out)) hb); clear BK118; clear BK119; clear HB; have HO133 := n0_; have BK118 := n1_; have BK119 := n2_; have HB := n3_; clear n0_ n1_ n2_ n3_; clear hb ho58; obtain ⟨Ao59, co59, eo59⟩ := Kd.R_slice HO133.out; subst eo59) | ((with_reducible refine gate_callee (f := 44) rfl ?_); refine goesL_ (some 80) rfl rfl Try.func44 (by kernel_rfl) rfl #[.slice Ao59 y131.length co59] rfl (by (try simp only [List.map_toArray, List.map_cons, List.map_nil]); first | done | rfl | (simp only [List.length_drop, List.length_take]; rfl)) ?_; (with_reducible refine (sum_Of.calls k _ _ y131 t134 _ ?side1 ?side2 A34.out).mono ?_); (case side1 => repeat (first | exact (Kd.R_reads' HO133.out).2.2 | (with_reducible refine Kd.C_alloc ?_ _) | (with_reducible refine Kd.C_drewN ?_ _) | (with_reducible refine Kd.C_drew ?_))); (case side2 => exact (Kd.R_reads' HO133.out).2.1); rintro e w' ⟨rfl, ⟨nd, rfl⟩⟩; refine ⟨_, rfl, ?_⟩) | ((with_reducible refine gate_callee (f := 42) rfl ?_); refine goesL_ (some 81) rfl rfl Try.func42 (by kernel_rfl) rfl #[.int .i64 t134, .int .i64 2] rfl (by (try simp only [List.map_toArray, List.map_cons, List.map_nil]); first | done | rfl | (simp only [List.length_drop, List.length_take]; rfl)) ?_; (with_reducible refine (sum_Big.calls k t134 2 t135 _ A35.out).mono ?_); rintro e w60 ⟨rfl, hb⟩; refine ⟨_, rfl, ?_⟩; have n0_ := Aside0.mk (Kd.R_below (by (with_reducible repeat (first | apply Kd.R_alloc | apply Kd.R_drewN | apply Kd.R_drew)); exact HO133.out) hb); have n1_ := Aside0.mk (blk_below (g := gb118) (o := .cells #[.int .i64 a2_0, .int .i64 a2_1, .int .u32 a2_2, .int .u32 a2_3, .int .i64 a2_4, .int .i64 a2_5, .string a2_6] 42 (0, 0)) (by (with_reducible repeat (first | refine blk_drewN ?_ _ | refine blk_drew ?_ | refine blk_alloc ?_ _)); exact BK118.out) hb); have n2_ := Aside0.mk (blk_below (g := gb119) (o := .cells #[.int .i64 a2_0, .int .i64 a2_1, .int .u32 a2_2, .int .u32 a2_3, .int .i64 a2_4, .int .i64 a2_5, .string a2_6, .int .u32 a0, .int .u32 a1] 73 (0, 0)) (by (with_reducible repeat (first | refine blk_drewN ?_ _ | refine blk_drew ?_ | refine blk_alloc ?_ _)); exact BK119.out) hb); have n3_ := Aside0.mk (below_step (by repeat (first | (with_reducible first | exact HB.out | apply below_alloc | apply pw_below_drewN | apply below_drew1 | refine below_set ?_ GE118.out | refine below_set ?_ GE119.out) | exact HB.out)) hb); clear HO133; clear BK118; clear BK119; clear HB; have HO133 := n0_; have BK118 := n1_; have BK119 := n2_; have HB := n3_; clear n0_ n1_ n2_ n3_; (try clear hb); (try clear hb2); (try clear hk); (try clear hi)))
             go_ret2
             exact ⟨by first | rfl | (simp [errW_none, errW_some] <;> rfl) | (simp [*, errW_none, errW_some] <;> rfl), by repeat (first | (with_reducible first | exact HB.out | apply below_alloc | apply pw_below_drewN | apply below_drew1 | refine below_set ?_ GE118.out | refine below_set ?_ GE119.out) | exact HB.out)⟩
            ·
             rw [if_neg c37] at H
             exact absurd H (by simp)
           ·
            rw [if_neg c36] at H
            exact absurd H (by simp)
          ·
           rw [if_neg c32] at H
           exact absurd H (by simp)
         ·
          rw [if_neg c31] at H
          exact absurd H (by simp)
        ·
         rw [if_neg c30] at H
         exact absurd H (by simp)
       ·
        rw [if_neg c28] at H
        exact absurd H (by simp)
      ·
       rw [if_neg c26] at H
       exact absurd H (by simp)
     ·
      rw [if_neg c23] at H
      exact absurd H (by simp)
    ·
     rw [if_neg c21] at H
     exact absurd H (by simp)
   ·
    rw [if_neg c19] at H
    exact absurd H (by simp)
 ·
  replace c7 := Bool.eq_false_iff.mpr c7
  subst c7
  have H1 : (some ((⟨#[]⟩ : ByteArray), 1)) = some (r1, r2) := by rw [if_neg (show ¬ (false = true) by decide)] at H; exact H
  clear H
  have H := H1
  clear H1
  simp only [Option.some.injEq, Prod.mk.injEq] at H
  obtain ⟨rfl, rfl⟩ := H
  go_enter Try.func25, Try.ntmps25
  go_wp2_with (first | ((with_reducible refine gate_dst (N := 6) rfl ?_); refine box_event ?hg (N := 6) ?hd (cs := #[.int .i64 a2_0, .int .i64 a2_1, .int .u32 a2_2, .int .u32 a2_3, .int .i64 a2_4, .int .i64 a2_5, .string a2_6]) (t := 42) ?hr ?_; (case hd => rfl); (case hg => rfl); (case hr => first | (go_simp; done) | (go_simp; rfl)); intro gb118 hg w61 hbox hb; have n0_ := Aside0.mk (below_step (by repeat (first | (with_reducible first | exact HB.out | apply below_alloc | apply pw_below_drewN | apply below_drew1) | exact HB.out)) hb); have n1_ := Aside0.mk (hbox); have n2_ := Aside0.mk ((by rw [hg]; exact (below_size (by repeat (first | (with_reducible first | exact HB.out | apply below_alloc | apply pw_below_drewN | apply below_drew1) | exact HB.out))) : w.heap.size ≤ gb118)); have n3_ := Aside0.mk ((by rw [hg]; exact (below_size (by repeat (first | (with_reducible first | exact HB.out | apply below_alloc | apply pw_below_drewN | apply below_drew1) | exact HB.out))) : w.heap.size ≤ gb118)); clear HB; have HB := n0_; have BK118 := n1_; have GW118 := n2_; have GE118 := n3_; clear n0_ n1_ n2_ n3_; clear hb hbox hg; have hcz62_0 : w61.cell? ⟨gb118, 0, none⟩ = some (.int .i64 a2_0) := (blk_cell BK118.out 0).trans rfl; have hcz62_1 : w61.cell? ⟨gb118, 1, none⟩ = some (.int .i64 a2_1) := (blk_cell BK118.out 1).trans rfl; have hcz62_2 : w61.cell? ⟨gb118, 2, none⟩ = some (.int .u32 a2_2) := (blk_cell BK118.out 2).trans rfl; have hcz62_3 : w61.cell? ⟨gb118, 3, none⟩ = some (.int .u32 a2_3) := (blk_cell BK118.out 3).trans rfl; have hcz62_4 : w61.cell? ⟨gb118, 4, none⟩ = some (.int .i64 a2_4) := (blk_cell BK118.out 4).trans rfl; have hcz62_5 : w61.cell? ⟨gb118, 5, none⟩ = some (.int .i64 a2_5) := (blk_cell BK118.out 5).trans rfl; have hcz62_6 : w61.cell? ⟨gb118, 6, none⟩ = some (.string a2_6) := (blk_cell BK118.out 6).trans rfl; have hfz62_0 := blk_frozen BK118.out 0; have hfz62_1 := blk_frozen BK118.out 1; have hfz62_2 := blk_frozen BK118.out 2; have hfz62_3 := blk_frozen BK118.out 3; have hfz62_4 := blk_frozen BK118.out 4; have hfz62_5 := blk_frozen BK118.out 5; have hfz62_6 := blk_frozen BK118.out 6) | ((with_reducible refine gate_dst (N := 10) rfl ?_); refine box_event ?hg (N := 10) ?hd (cs := #[.int .i64 0, .int .i64 0, .int .u32 0, .int .u32 0, .int .i64 0, .int .i64 0, .string (⟨#[]⟩ : ByteArray), .int .u32 0, .int .u32 0]) (t := 73) ?hr ?_; (case hd => rfl); (case hg => rfl); (case hr => first | (go_simp; done) | (go_simp; rfl)); intro gb119 hg w63 hbox hb; have n0_ := Aside0.mk (blk_below (g := gb118) (o := .cells #[.int .i64 a2_0, .int .i64 a2_1, .int .u32 a2_2, .int .u32 a2_3, .int .i64 a2_4, .int .i64 a2_5, .string a2_6] 42 (0, 0)) (by (with_reducible repeat (first | refine blk_drewN ?_ _ | refine blk_drew ?_ | refine blk_alloc ?_ _)); exact BK118.out) hb); have n1_ := Aside0.mk (below_step (by repeat (first | (with_reducible first | exact HB.out | apply below_alloc | apply pw_below_drewN | apply below_drew1 | refine below_set ?_ GE118.out) | exact HB.out)) hb); have n2_ := Aside0.mk (hbox); have n3_ := Aside0.mk ((by rw [hg]; exact (below_size (by repeat (first | (with_reducible first | exact HB.out | apply below_alloc | apply pw_below_drewN | apply below_drew1 | refine below_set ?_ GE118.out) | exact HB.out))) : w.heap.size ≤ gb119)); have n4_ := Aside0.mk ((by rw [hg]; exact (below_size (by repeat (first | (with_reducible first | exact HB.out | apply below_alloc | apply pw_below_drewN | apply below_drew1 | refine below_set ?_ GE118.out) | exact HB.out))) : w.heap.size ≤ gb119)); have n5_ := Aside0.mk ((by rw [hg]; exact Nat.ne_of_lt (blk_lt (g := gb118) (o := .cells #[.int .i64 a2_0, .int .i64 a2_1, .int .u32 a2_2, .int .u32 a2_3, .int .i64 a2_4, .int .i64 a2_5, .string a2_6] 42 (0, 0)) (by (with_reducible repeat (first | refine blk_drewN ?_ _ | refine blk_drew ?_ | refine blk_alloc ?_ _)); exact BK118.out)) : gb118 ≠ gb119)); have n6_ := Aside0.mk ((by rw [hg]; exact Nat.ne_of_gt (blk_lt (g := gb118) (o := .cells #[.int .i64 a2_0, .int .i64 a2_1, .int .u32 a2_2, .int .u32 a2_3, .int .i64 a2_4, .int .i64 a2_5, .string a2_6] 42 (0, 0)) (by (with_reducible repeat (first | refine blk_drewN ?_ _ | refine blk_drew ?_ | refine blk_alloc ?_ _)); exact BK118.out)) : gb119 ≠ gb118)); clear BK118; clear HB; have BK118 := n0_; have HB := n1_; have BK119 := n2_; have GW119 := n3_; have GE119 := n4_; have NB118_119 := n5_; have NB119_118 := n6_; clear n0_ n1_ n2_ n3_ n4_ n5_ n6_; clear hb hbox hg; have hnb64 := NB119_118.out; have hnc64 := NB118_119.out; have hcz65_0 : w63.cell? ⟨gb119, 0, none⟩ = some (.int .i64 0) := (blk_cell BK119.out 0).trans rfl; have hcz65_1 : w63.cell? ⟨gb119, 1, none⟩ = some (.int .i64 0) := (blk_cell BK119.out 1).trans rfl; have hcz65_2 : w63.cell? ⟨gb119, 2, none⟩ = some (.int .u32 0) := (blk_cell BK119.out 2).trans rfl; have hcz65_3 : w63.cell? ⟨gb119, 3, none⟩ = some (.int .u32 0) := (blk_cell BK119.out 3).trans rfl; have hcz65_4 : w63.cell? ⟨gb119, 4, none⟩ = some (.int .i64 0) := (blk_cell BK119.out 4).trans rfl; have hcz65_5 : w63.cell? ⟨gb119, 5, none⟩ = some (.int .i64 0) := (blk_cell BK119.out 5).trans rfl; have hcz65_6 : w63.cell? ⟨gb119, 6, none⟩ = some (.string (⟨#[]⟩ : ByteArray)) := (blk_cell BK119.out 6).trans rfl; have hcz65_7 : w63.cell? ⟨gb119, 7, none⟩ = some (.int .u32 0) := (blk_cell BK119.out 7).trans rfl; have hcz65_8 : w63.cell? ⟨gb119, 8, none⟩ = some (.int .u32 0) := (blk_cell BK119.out 8).trans rfl; have hfz65_0 := blk_frozen BK119.out 0; have hfz65_1 := blk_frozen BK119.out 1; have hfz65_2 := blk_frozen BK119.out 2; have hfz65_3 := blk_frozen BK119.out 3; have hfz65_4 := blk_frozen BK119.out 4; have hfz65_5 := blk_frozen BK119.out 5; have hfz65_6 := blk_frozen BK119.out 6; have hfz65_7 := blk_frozen BK119.out 7; have hfz65_8 := blk_frozen BK119.out 8) | ((with_reducible refine gate_callee (f := 53) rfl ?_); refine goesL_ (some 19) rfl rfl Try.func53 (by kernel_rfl) rfl #[.agg #[.int .i64 a2_0, .int .i64 a2_1, .int .u32 a2_2, .int .u32 a2_3, .int .i64 a2_4, .int .i64 a2_5, .string a2_6, .int .u32 a0, .int .u32 a1]] rfl (by (try simp only [List.map_toArray, List.map_cons, List.map_nil]); first | done | rfl | (simp only [List.length_drop, List.length_take]; rfl)) ?_; (with_reducible refine (tcp_head_size.calls a2_0 a2_1 a2_2 a2_3 a2_4 a2_5 a2_6 a0 a1 t120 _ A5.out).mono ?_); rintro e w66 ⟨rfl, hb⟩; refine ⟨_, rfl, ?_⟩; have n0_ := Aside0.mk (blk_below (g := gb118) (o := .cells #[.int .i64 a2_0, .int .i64 a2_1, .int .u32 a2_2, .int .u32 a2_3, .int .i64 a2_4, .int .i64 a2_5, .string a2_6] 42 (0, 0)) (by (with_reducible repeat (first | refine blk_drewN ?_ _ | refine blk_drew ?_ | refine blk_alloc ?_ _)); refine blk_far ?_ NB118_119.out _; (with_reducible repeat (first | refine blk_drewN ?_ _ | refine blk_drew ?_ | refine blk_alloc ?_ _)); refine blk_far ?_ NB118_119.out _; (with_reducible repeat (first | refine blk_drewN ?_ _ | refine blk_drew ?_ | refine blk_alloc ?_ _)); refine blk_far ?_ NB118_119.out _; (with_reducible repeat (first | refine blk_drewN ?_ _ | refine blk_drew ?_ | refine blk_alloc ?_ _)); refine blk_far ?_ NB118_119.out _; (with_reducible repeat (first | refine blk_drewN ?_ _ | refine blk_drew ?_ | refine blk_alloc ?_ _)); refine blk_far ?_ NB118_119.out _; (with_reducible repeat (first | refine blk_drewN ?_ _ | refine blk_drew ?_ | refine blk_alloc ?_ _)); refine blk_far ?_ NB118_119.out _; (with_reducible repeat (first | refine blk_drewN ?_ _ | refine blk_drew ?_ | refine blk_alloc ?_ _)); refine blk_far ?_ NB118_119.out _; (with_reducible repeat (first | refine blk_drewN ?_ _ | refine blk_drew ?_ | refine blk_alloc ?_ _)); refine blk_far ?_ NB118_119.out _; (with_reducible repeat (first | refine blk_drewN ?_ _ | refine blk_drew ?_ | refine blk_alloc ?_ _)); refine blk_far ?_ NB118_119.out _; (with_reducible repeat (first | refine blk_drewN ?_ _ | refine blk_drew ?_ | refine blk_alloc ?_ _)); exact BK118.out) hb); have n1_ := Aside0.mk (blk_below (g := gb119) (o := .cells #[.int .i64 a2_0, .int .i64 a2_1, .int .u32 a2_2, .int .u32 a2_3, .int .i64 a2_4, .int .i64 a2_5, .string a2_6, .int .u32 a0, .int .u32 a1] 73 (0, 0)) (by (with_reducible repeat (first | refine blk_drewN ?_ _ | refine blk_drew ?_ | refine blk_alloc ?_ _)); refine blk_put (cs := #[.int .i64 a2_0, .int .i64 a2_1, .int .u32 a2_2, .int .u32 a2_3, .int .i64 a2_4, .int .i64 a2_5, .string a2_6, .int .u32 a0, .int .u32 0]) ?_ 8 _ rfl; (with_reducible repeat (first | refine blk_drewN ?_ _ | refine blk_drew ?_ | refine blk_alloc ?_ _)); refine blk_put (cs := #[.int .i64 a2_0, .int .i64 a2_1, .int .u32 a2_2, .int .u32 a2_3, .int .i64 a2_4, .int .i64 a2_5, .string a2_6, .int .u32 0, .int .u32 0]) ?_ 7 _ rfl; (with_reducible repeat (first | refine blk_drewN ?_ _ | refine blk_drew ?_ | refine blk_alloc ?_ _)); refine blk_put (cs := #[.int .i64 a2_0, .int .i64 a2_1, .int .u32 a2_2, .int .u32 a2_3, .int .i64 a2_4, .int .i64 a2_5, .string (⟨#[]⟩ : ByteArray), .int .u32 0, .int .u32 0]) ?_ 6 _ rfl; (with_reducible repeat (first | refine blk_drewN ?_ _ | refine blk_drew ?_ | refine blk_alloc ?_ _)); refine blk_put (cs := #[.int .i64 a2_0, .int .i64 a2_1, .int .u32 a2_2, .int .u32 a2_3, .int .i64 a2_4, .int .i64 0, .string (⟨#[]⟩ : ByteArray), .int .u32 0, .int .u32 0]) ?_ 5 _ rfl; (with_reducible repeat (first | refine blk_drewN ?_ _ | refine blk_drew ?_ | refine blk_alloc ?_ _)); refine blk_put (cs := #[.int .i64 a2_0, .int .i64 a2_1, .int .u32 a2_2, .int .u32 a2_3, .int .i64 0, .int .i64 0, .string (⟨#[]⟩ : ByteArray), .int .u32 0, .int .u32 0]) ?_ 4 _ rfl; (with_reducible repeat (first | refine blk_drewN ?_ _ | refine blk_drew ?_ | refine blk_alloc ?_ _)); refine blk_put (cs := #[.int .i64 a2_0, .int .i64 a2_1, .int .u32 a2_2, .int .u32 0, .int .i64 0, .int .i64 0, .string (⟨#[]⟩ : ByteArray), .int .u32 0, .int .u32 0]) ?_ 3 _ rfl; (with_reducible repeat (first | refine blk_drewN ?_ _ | refine blk_drew ?_ | refine blk_alloc ?_ _)); refine blk_put (cs := #[.int .i64 a2_0, .int .i64 a2_1, .int .u32 0, .int .u32 0, .int .i64 0, .int .i64 0, .string (⟨#[]⟩ : ByteArray), .int .u32 0, .int .u32 0]) ?_ 2 _ rfl; (with_reducible repeat (first | refine blk_drewN ?_ _ | refine blk_drew ?_ | refine blk_alloc ?_ _)); refine blk_put (cs := #[.int .i64 a2_0, .int .i64 0, .int .u32 0, .int .u32 0, .int .i64 0, .int .i64 0, .string (⟨#[]⟩ : ByteArray), .int .u32 0, .int .u32 0]) ?_ 1 _ rfl; (with_reducible repeat (first | refine blk_drewN ?_ _ | refine blk_drew ?_ | refine blk_alloc ?_ _)); refine blk_put (cs := #[.int .i64 0, .int .i64 0, .int .u32 0, .int .u32 0, .int .i64 0, .int .i64 0, .string (⟨#[]⟩ : ByteArray), .int .u32 0, .int .u32 0]) ?_ 0 _ rfl; (with_reducible repeat (first | refine blk_drewN ?_ _ | refine blk_drew ?_ | refine blk_alloc ?_ _)); exact BK119.out) hb); have n2_ := Aside0.mk (below_step (by repeat (first | (with_reducible first | exact HB.out | apply below_alloc | apply pw_below_drewN | apply below_drew1 | refine below_set ?_ GE118.out | refine below_set ?_ GE119.out) | exact HB.out)) hb); clear BK118; clear BK119; clear HB; have BK118 := n0_; have BK119 := n1_; have HB := n2_; clear n0_ n1_ n2_; (try clear hb); (try clear hb2); (try clear hk); (try clear hi); have hcz67_0 : w66.cell? ⟨gb118, 0, none⟩ = some (.int .i64 a2_0) := (blk_cell BK118.out 0).trans rfl; have hcz67_1 : w66.cell? ⟨gb118, 1, none⟩ = some (.int .i64 a2_1) := (blk_cell BK118.out 1).trans rfl; have hcz67_2 : w66.cell? ⟨gb118, 2, none⟩ = some (.int .u32 a2_2) := (blk_cell BK118.out 2).trans rfl; have hcz67_3 : w66.cell? ⟨gb118, 3, none⟩ = some (.int .u32 a2_3) := (blk_cell BK118.out 3).trans rfl; have hcz67_4 : w66.cell? ⟨gb118, 4, none⟩ = some (.int .i64 a2_4) := (blk_cell BK118.out 4).trans rfl; have hcz67_5 : w66.cell? ⟨gb118, 5, none⟩ = some (.int .i64 a2_5) := (blk_cell BK118.out 5).trans rfl; have hcz67_6 : w66.cell? ⟨gb118, 6, none⟩ = some (.string a2_6) := (blk_cell BK118.out 6).trans rfl; have hfz67_0 := blk_frozen BK118.out 0; have hfz67_1 := blk_frozen BK118.out 1; have hfz67_2 := blk_frozen BK118.out 2; have hfz67_3 := blk_frozen BK118.out 3; have hfz67_4 := blk_frozen BK118.out 4; have hfz67_5 := blk_frozen BK118.out 5; have hfz67_6 := blk_frozen BK118.out 6) | ((with_reducible refine gate_callee (f := 29) rfl ?_); refine goesL_ (some 25) rfl rfl Try.func29 (by kernel_rfl) rfl #[.agg #[.int .i64 a2_0, .int .i64 a2_1, .int .u32 a2_2, .int .u32 a2_3, .int .i64 a2_4, .int .i64 a2_5, .string a2_6]] rfl (by (try simp only [List.map_toArray, List.map_cons, List.map_nil]); first | done | rfl | (simp only [List.length_drop, List.length_take]; rfl)) ?_; (with_reducible refine (tcp_Check.calls a2_0 a2_1 a2_2 a2_3 a2_4 a2_5 a2_6 false _ A6.out).mono ?_); rintro e w68 ⟨rfl, hb⟩; refine ⟨_, rfl, ?_⟩; have n0_ := Aside0.mk (blk_below (g := gb118) (o := .cells #[.int .i64 a2_0, .int .i64 a2_1, .int .u32 a2_2, .int .u32 a2_3, .int .i64 a2_4, .int .i64 a2_5, .string a2_6] 42 (0, 0)) (by (with_reducible repeat (first | refine blk_drewN ?_ _ | refine blk_drew ?_ | refine blk_alloc ?_ _)); exact BK118.out) hb); have n1_ := Aside0.mk (blk_below (g := gb119) (o := .cells #[.int .i64 a2_0, .int .i64 a2_1, .int .u32 a2_2, .int .u32 a2_3, .int .i64 a2_4, .int .i64 a2_5, .string a2_6, .int .u32 a0, .int .u32 a1] 73 (0, 0)) (by (with_reducible repeat (first | refine blk_drewN ?_ _ | refine blk_drew ?_ | refine blk_alloc ?_ _)); exact BK119.out) hb); have n2_ := Aside0.mk (below_step (by repeat (first | (with_reducible first | exact HB.out | apply below_alloc | apply pw_below_drewN | apply below_drew1 | refine below_set ?_ GE118.out | refine below_set ?_ GE119.out) | exact HB.out)) hb); clear BK118; clear BK119; clear HB; have BK118 := n0_; have BK119 := n1_; have HB := n2_; clear n0_ n1_ n2_; (try clear hb); (try clear hb2); (try clear hk); (try clear hi)))
  go_ret2
  exact ⟨by first | rfl | (simp [errW_none, errW_some] <;> rfl) | (simp [*, errW_none, errW_some] <;> rfl), by repeat (first | (with_reducible first | exact HB.out | apply below_alloc | apply pw_below_drewN | apply below_drew1 | refine below_set ?_ GE118.out | refine below_set ?_ GE119.out) | exact HB.out)⟩

end Go.Proofs.Ytgolimfljndnmaa.HW
