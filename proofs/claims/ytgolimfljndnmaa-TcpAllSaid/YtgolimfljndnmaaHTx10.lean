/- What is proved: each Go function of this text answers as the plain Lean function beside it (a law: its given row, out of the plain statement). Conditions: those that stand in each theorem. Written by my drive.py, which calls the printer of the kit for what that covers. -/
import Derived.Test.YtgolimfljndnmaaHTx0
import Derived.Test.YtgolimfljndnmaaHTx8
import Derived.Test.YtgolimfljndnmaaHTx9
namespace Go.Proofs.Ytgolimfljndnmaa.HT
open Go.RowKit Go.Proofs.YtgolimfljndnmaaW.PrintWords Go.Proofs.YtgolimfljndnmaaW.PrintLast Go.Proofs.YtgolimfljndnmaaW.PrintMore
attribute [local go_sem] max2_int min2_int max_two min_two max_three min_three max_four min_four   -- for this text's walks alone
set_option linter.unusedVariables false
set_option linter.unusedSimpArgs false

/-! ### rampartref04_Put: function 26 -/
def rampartref04_Put.f (k : Nat) (a0 : Int) (a1 : Int) (a2_0 : Int) (a2_1 : Int) (a2_2 : Int) (a2_3 : Int) (a2_4 : Int) (a2_5 : Int) (a2_6 : ByteArray) (a3 : ByteArray) : Option (ByteArray × Int) := (rampartref04_Check.f a2_0 a2_1 a2_2 a2_3 a2_4 a2_5 a2_6).bind fun t175 => (if t175 = true then (if (a3.size : Int) > (wrap64 (1980 - (a2_6.size : Int))) then (some ((⟨#[]⟩ : ByteArray), 5)) else ((rampartref01_Big.f k a2_0 2).bind fun t176 => ((rampartref01_Big.f k a2_1 2).bind fun t177 => (if t176.size + t177.size ≤ 9223372036854775807 then ((rampartref01_Big.f k (wrap64 (a2_2)) 4).bind fun t178 => (if (t176 ++ t177).size + t178.size ≤ 9223372036854775807 then ((rampartref01_Big.f k (wrap64 (a2_3)) 4).bind fun t179 => (if ((t176 ++ t177) ++ t178).size + t179.size ≤ 9223372036854775807 then ((rampartref01_Big.f k (wrap64 ((wrap64 (Int.tdiv (wrap64 (20 + (a2_6.size : Int))) 4)) * 16)) 1).bind fun t180 => (if (((t176 ++ t177) ++ t178) ++ t179).size + t180.size ≤ 9223372036854775807 then ((rampartref01_Big.f k a2_4 1).bind fun t181 => (if ((((t176 ++ t177) ++ t178) ++ t179) ++ t180).size + t181.size ≤ 9223372036854775807 then ((rampartref01_Big.f k a2_5 2).bind fun t182 => (if (((((t176 ++ t177) ++ t178) ++ t179) ++ t180) ++ t181).size + t182.size ≤ 9223372036854775807 then (if 2 + a2_6.size ≤ 9223372036854775807 then (if ((⟨#[0, 0]⟩ : ByteArray) ++ a2_6).size + a3.size ≤ 9223372036854775807 then (if ((((((t176 ++ t177) ++ t178) ++ t179) ++ t180) ++ t181) ++ t182).size + 2 ≤ 9223372036854775807 then (if (((((((t176 ++ t177) ++ t178) ++ t179) ++ t180) ++ t181) ++ t182) ++ (⟨#[0, 0]⟩ : ByteArray)).size + (((⟨#[0, 0]⟩ : ByteArray) ++ a2_6) ++ a3).size ≤ 9223372036854775807 then ((rampartref04_Sum.f k a0 a1 6 ((((((((t176 ++ t177) ++ t178) ++ t179) ++ t180) ++ t181) ++ t182) ++ (⟨#[0, 0]⟩ : ByteArray)) ++ (((⟨#[0, 0]⟩ : ByteArray) ++ a2_6) ++ a3))).bind fun t183 => ((rampartref01_Big.f k t183 2).bind fun t184 => (if ((((((t176 ++ t177) ++ t178) ++ t179) ++ t180) ++ t181) ++ t182).size + t184.size ≤ 9223372036854775807 then (if (((((((t176 ++ t177) ++ t178) ++ t179) ++ t180) ++ t181) ++ t182) ++ t184).size + (((⟨#[0, 0]⟩ : ByteArray) ++ a2_6) ++ a3).size ≤ 9223372036854775807 then (some ((((((((t176 ++ t177) ++ t178) ++ t179) ++ t180) ++ t181) ++ t182) ++ t184) ++ (((⟨#[0, 0]⟩ : ByteArray) ++ a2_6) ++ a3), 0)) else (none)) else (none)))) else (none)) else (none)) else (none)) else (none)) else (none))) else (none))) else (none))) else (none))) else (none))) else (none))))) else (some ((⟨#[]⟩ : ByteArray), 1)))
theorem rampartref04_Put.mono : ∀ a0 a1 a2 a3 a4 a5 a6 a7 a8 a9 k, LeO (rampartref04_Put.f k a0 a1 a2 a3 a4 a5 a6 a7 a8 a9) (rampartref04_Put.f (k + 1) a0 a1 a2 a3 a4 a5 a6 a7 a8 a9) := by
 intro a0 a1 a2 a3 a4 a5 a6 a7 a8 a9 k
 unfold rampartref04_Put.f
 repeat' first
   | (with_reducible exact rampartref01_Big.mono _ _ _)
   | (with_reducible exact rampartref04_Sum.mono _ _ _ _ _)
   | (with_reducible exact LeO.refl _)
   | (with_reducible exact LeO.none _)
   | (with_reducible refine LeO.ite ?_ ?_)
   | (with_reducible refine LeO.bind ?_ (fun _ => ?_))
   | exact rampartref01_Big.mono _ _ _
   | exact rampartref04_Sum.mono _ _ _ _ _
   | exact LeO.none _
   | refine LeO.ite ?_ ?_
   | refine LeO.bind ?_ (fun _ => ?_)
def rampartref04_Put.T5 : Bool × List (List Nat × List Nat) := (true, [([], []), ([0], [0]), ([1], [1]), ([], []), ([3], [3]), ([4, 2], [4]), ([2, 5], [2, 5]), ([], []), ([7], [7]), ([8], [8]), ([9, 5], [9]), ([6, 10], [6, 10]), ([], []), ([12], [12]), ([13], [13]), ([14, 10], [14]), ([11, 15], [11, 15]), ([], []), ([17], [17]), ([18], [18]), ([19], [19]), ([20], [20]), ([21], [21]), ([22, 15], [22]), ([16, 23], [16, 23]), ([], []), ([25], [25]), ([26, 23], [26]), ([24, 27], [24, 27]), ([], []), ([29], [29]), ([30, 27], [30]), ([28, 31], [28, 31]), ([32, 31, 0, 1, 2, 3, 4, 5, 6, 7, 8, 9, 10, 11, 12, 13, 14, 15, 16, 17, 18, 19, 20, 21, 22, 23, 24, 25, 26, 27, 28, 29, 30, 31, 32], [32])])
def rampartref04_Put.B5 : List Nat := [0, 1, 3, 0, 8, 31, 63, 0, 128, 384, 959, 2047, 0, 4096, 12288, 30655, 65535, 0, 131072, 393216, 917504, 1966080, 4063232, 8320959, 16777215, 0, 33554432, 117372863, 268435455, 0, 536870912, 1862203327, 4294967295, 8589934591]
theorem rampartref04_Put.tab5 : rtab .any (opsOf Try.f26 5) = rampartref04_Put.T5 := by kernel_rfl
theorem rampartref04_Put.bits5 : waitsOk rampartref04_Put.T5.2 rampartref04_Put.B5 = true := by kernel_rfl
set_option maxHeartbeats 8000000 in
set_option maxRecDepth 100000 in
theorem rampartref04_Put.calls (k : Nat) (a0 : Int) (a1 : Int) (a2_0 : Int) (a2_1 : Int) (a2_2 : Int) (a2_3 : Int) (a2_4 : Int) (a2_5 : Int) (a2_6 : ByteArray) (a3 : ByteArray) (r1 : ByteArray) (r2 : Int) (w : World) (h : rampartref04_Put.f k a0 a1 a2_0 a2_1 a2_2 a2_3 a2_4 a2_5 a2_6 a3 = some (r1, r2)) :
  Calls Try.prog 26 #[.int .u32 a0, .int .u32 a1, .agg #[.int .i64 a2_0, .int .i64 a2_1, .int .u32 a2_2, .int .u32 a2_3, .int .i64 a2_4, .int .i64 a2_5, .string a2_6], .string a3] w fun e w' => e = .returned (.tuple #[.string r1, .int .i64 r2]) ∧ Below w.heap.size w w' := by
 have hu42 := Try.underlying42
 have HB := Aside0.mk (Below.refl w.heap.size w)
 have H : ((rampartref04_Check.f a2_0 a2_1 a2_2 a2_3 a2_4 a2_5 a2_6).bind fun t175 => (if t175 = true then (if (a3.size : Int) > (wrap64 (1980 - (a2_6.size : Int))) then (some ((⟨#[]⟩ : ByteArray), 5)) else ((rampartref01_Big.f k a2_0 2).bind fun t176 => ((rampartref01_Big.f k a2_1 2).bind fun t177 => (if t176.size + t177.size ≤ 9223372036854775807 then ((rampartref01_Big.f k (wrap64 (a2_2)) 4).bind fun t178 => (if (t176 ++ t177).size + t178.size ≤ 9223372036854775807 then ((rampartref01_Big.f k (wrap64 (a2_3)) 4).bind fun t179 => (if ((t176 ++ t177) ++ t178).size + t179.size ≤ 9223372036854775807 then ((rampartref01_Big.f k (wrap64 ((wrap64 (Int.tdiv (wrap64 (20 + (a2_6.size : Int))) 4)) * 16)) 1).bind fun t180 => (if (((t176 ++ t177) ++ t178) ++ t179).size + t180.size ≤ 9223372036854775807 then ((rampartref01_Big.f k a2_4 1).bind fun t181 => (if ((((t176 ++ t177) ++ t178) ++ t179) ++ t180).size + t181.size ≤ 9223372036854775807 then ((rampartref01_Big.f k a2_5 2).bind fun t182 => (if (((((t176 ++ t177) ++ t178) ++ t179) ++ t180) ++ t181).size + t182.size ≤ 9223372036854775807 then (if 2 + a2_6.size ≤ 9223372036854775807 then (if ((⟨#[0, 0]⟩ : ByteArray) ++ a2_6).size + a3.size ≤ 9223372036854775807 then (if ((((((t176 ++ t177) ++ t178) ++ t179) ++ t180) ++ t181) ++ t182).size + 2 ≤ 9223372036854775807 then (if (((((((t176 ++ t177) ++ t178) ++ t179) ++ t180) ++ t181) ++ t182) ++ (⟨#[0, 0]⟩ : ByteArray)).size + (((⟨#[0, 0]⟩ : ByteArray) ++ a2_6) ++ a3).size ≤ 9223372036854775807 then ((rampartref04_Sum.f k a0 a1 6 ((((((((t176 ++ t177) ++ t178) ++ t179) ++ t180) ++ t181) ++ t182) ++ (⟨#[0, 0]⟩ : ByteArray)) ++ (((⟨#[0, 0]⟩ : ByteArray) ++ a2_6) ++ a3))).bind fun t183 => ((rampartref01_Big.f k t183 2).bind fun t184 => (if ((((((t176 ++ t177) ++ t178) ++ t179) ++ t180) ++ t181) ++ t182).size + t184.size ≤ 9223372036854775807 then (if (((((((t176 ++ t177) ++ t178) ++ t179) ++ t180) ++ t181) ++ t182) ++ t184).size + (((⟨#[0, 0]⟩ : ByteArray) ++ a2_6) ++ a3).size ≤ 9223372036854775807 then (some ((((((((t176 ++ t177) ++ t178) ++ t179) ++ t180) ++ t181) ++ t182) ++ t184) ++ (((⟨#[0, 0]⟩ : ByteArray) ++ a2_6) ++ a3), 0)) else (none)) else (none)))) else (none)) else (none)) else (none)) else (none)) else (none))) else (none))) else (none))) else (none))) else (none))) else (none))))) else (some ((⟨#[]⟩ : ByteArray), 1)))) = some (r1, r2) := h
 clear h
 replace H := Option.bind_eq_some_iff.mp H
 obtain ⟨t175, A50, H⟩ := H
 replace H : (if t175 = true then (if (a3.size : Int) > (wrap64 (1980 - (a2_6.size : Int))) then (some ((⟨#[]⟩ : ByteArray), 5)) else ((rampartref01_Big.f k a2_0 2).bind fun t176 => ((rampartref01_Big.f k a2_1 2).bind fun t177 => (if t176.size + t177.size ≤ 9223372036854775807 then ((rampartref01_Big.f k (wrap64 (a2_2)) 4).bind fun t178 => (if (t176 ++ t177).size + t178.size ≤ 9223372036854775807 then ((rampartref01_Big.f k (wrap64 (a2_3)) 4).bind fun t179 => (if ((t176 ++ t177) ++ t178).size + t179.size ≤ 9223372036854775807 then ((rampartref01_Big.f k (wrap64 ((wrap64 (Int.tdiv (wrap64 (20 + (a2_6.size : Int))) 4)) * 16)) 1).bind fun t180 => (if (((t176 ++ t177) ++ t178) ++ t179).size + t180.size ≤ 9223372036854775807 then ((rampartref01_Big.f k a2_4 1).bind fun t181 => (if ((((t176 ++ t177) ++ t178) ++ t179) ++ t180).size + t181.size ≤ 9223372036854775807 then ((rampartref01_Big.f k a2_5 2).bind fun t182 => (if (((((t176 ++ t177) ++ t178) ++ t179) ++ t180) ++ t181).size + t182.size ≤ 9223372036854775807 then (if 2 + a2_6.size ≤ 9223372036854775807 then (if ((⟨#[0, 0]⟩ : ByteArray) ++ a2_6).size + a3.size ≤ 9223372036854775807 then (if ((((((t176 ++ t177) ++ t178) ++ t179) ++ t180) ++ t181) ++ t182).size + 2 ≤ 9223372036854775807 then (if (((((((t176 ++ t177) ++ t178) ++ t179) ++ t180) ++ t181) ++ t182) ++ (⟨#[0, 0]⟩ : ByteArray)).size + (((⟨#[0, 0]⟩ : ByteArray) ++ a2_6) ++ a3).size ≤ 9223372036854775807 then ((rampartref04_Sum.f k a0 a1 6 ((((((((t176 ++ t177) ++ t178) ++ t179) ++ t180) ++ t181) ++ t182) ++ (⟨#[0, 0]⟩ : ByteArray)) ++ (((⟨#[0, 0]⟩ : ByteArray) ++ a2_6) ++ a3))).bind fun t183 => ((rampartref01_Big.f k t183 2).bind fun t184 => (if ((((((t176 ++ t177) ++ t178) ++ t179) ++ t180) ++ t181) ++ t182).size + t184.size ≤ 9223372036854775807 then (if (((((((t176 ++ t177) ++ t178) ++ t179) ++ t180) ++ t181) ++ t182) ++ t184).size + (((⟨#[0, 0]⟩ : ByteArray) ++ a2_6) ++ a3).size ≤ 9223372036854775807 then (some ((((((((t176 ++ t177) ++ t178) ++ t179) ++ t180) ++ t181) ++ t182) ++ t184) ++ (((⟨#[0, 0]⟩ : ByteArray) ++ a2_6) ++ a3), 0)) else (none)) else (none)))) else (none)) else (none)) else (none)) else (none)) else (none))) else (none))) else (none))) else (none))) else (none))) else (none))))) else (some ((⟨#[]⟩ : ByteArray), 1))) = some (r1, r2) := H
 have A5 := Aside0.mk A50
 clear A50
 by_cases c6 : t175 = true
 ·
  subst c6
  have H1 : (if (a3.size : Int) > (wrap64 (1980 - (a2_6.size : Int))) then (some ((⟨#[]⟩ : ByteArray), 5)) else ((rampartref01_Big.f k a2_0 2).bind fun t176 => ((rampartref01_Big.f k a2_1 2).bind fun t177 => (if t176.size + t177.size ≤ 9223372036854775807 then ((rampartref01_Big.f k (wrap64 (a2_2)) 4).bind fun t178 => (if (t176 ++ t177).size + t178.size ≤ 9223372036854775807 then ((rampartref01_Big.f k (wrap64 (a2_3)) 4).bind fun t179 => (if ((t176 ++ t177) ++ t178).size + t179.size ≤ 9223372036854775807 then ((rampartref01_Big.f k (wrap64 ((wrap64 (Int.tdiv (wrap64 (20 + (a2_6.size : Int))) 4)) * 16)) 1).bind fun t180 => (if (((t176 ++ t177) ++ t178) ++ t179).size + t180.size ≤ 9223372036854775807 then ((rampartref01_Big.f k a2_4 1).bind fun t181 => (if ((((t176 ++ t177) ++ t178) ++ t179) ++ t180).size + t181.size ≤ 9223372036854775807 then ((rampartref01_Big.f k a2_5 2).bind fun t182 => (if (((((t176 ++ t177) ++ t178) ++ t179) ++ t180) ++ t181).size + t182.size ≤ 9223372036854775807 then (if 2 + a2_6.size ≤ 9223372036854775807 then (if ((⟨#[0, 0]⟩ : ByteArray) ++ a2_6).size + a3.size ≤ 9223372036854775807 then (if ((((((t176 ++ t177) ++ t178) ++ t179) ++ t180) ++ t181) ++ t182).size + 2 ≤ 9223372036854775807 then (if (((((((t176 ++ t177) ++ t178) ++ t179) ++ t180) ++ t181) ++ t182) ++ (⟨#[0, 0]⟩ : ByteArray)).size + (((⟨#[0, 0]⟩ : ByteArray) ++ a2_6) ++ a3).size ≤ 9223372036854775807 then ((rampartref04_Sum.f k a0 a1 6 ((((((((t176 ++ t177) ++ t178) ++ t179) ++ t180) ++ t181) ++ t182) ++ (⟨#[0, 0]⟩ : ByteArray)) ++ (((⟨#[0, 0]⟩ : ByteArray) ++ a2_6) ++ a3))).bind fun t183 => ((rampartref01_Big.f k t183 2).bind fun t184 => (if ((((((t176 ++ t177) ++ t178) ++ t179) ++ t180) ++ t181) ++ t182).size + t184.size ≤ 9223372036854775807 then (if (((((((t176 ++ t177) ++ t178) ++ t179) ++ t180) ++ t181) ++ t182) ++ t184).size + (((⟨#[0, 0]⟩ : ByteArray) ++ a2_6) ++ a3).size ≤ 9223372036854775807 then (some ((((((((t176 ++ t177) ++ t178) ++ t179) ++ t180) ++ t181) ++ t182) ++ t184) ++ (((⟨#[0, 0]⟩ : ByteArray) ++ a2_6) ++ a3), 0)) else (none)) else (none)))) else (none)) else (none)) else (none)) else (none)) else (none))) else (none))) else (none))) else (none))) else (none))) else (none))))) = some (r1, r2) := by rw [if_pos rfl] at H; exact H
  clear H
  have H := H1
  clear H1
  by_cases c7 : (a3.size : Int) > (wrap64 (1980 - (a2_6.size : Int)))
  ·
   rw [if_pos c7] at H
   have c7b0 : decide ((wrap64 (1980 - (a2_6.size : Int))) < (a3.size : Int)) = true := decide_eq_true c7
   clear c7
   simp only [Option.some.injEq, Prod.mk.injEq] at H
   obtain ⟨rfl, rfl⟩ := H
   (try have c7w_ : decide (1980 - (a2_6.size : Int) < (a3.size : Int)) = false := by (have e_ : wrap64 (1980 - (a2_6.size : Int)) = 1980 - (a2_6.size : Int) := by (unfold wrap64; omega)); rw [← e_]; exact c7b0)
   go_enter Try.func26, Try.ntmps26
   go_wp2_with (first | ((with_reducible refine gate_dst (N := 6) rfl ?_); refine box_event ?hg (N := 6) ?hd (cs := #[.int .i64 a2_0, .int .i64 a2_1, .int .u32 a2_2, .int .u32 a2_3, .int .i64 a2_4, .int .i64 a2_5, .string a2_6]) (t := 42) ?hr ?_; (case hd => rfl); (case hg => rfl); (case hr => first | (go_simp; done) | (go_simp; rfl)); intro gb174 hg w8 hbox hb; have n0_ := Aside0.mk (below_step (by repeat (first | (with_reducible first | exact HB.out | apply below_alloc | apply pw_below_drewN | apply below_drew1) | exact HB.out)) hb); have n1_ := Aside0.mk (hbox); have n2_ := Aside0.mk ((by rw [hg]; exact (below_size (by repeat (first | (with_reducible first | exact HB.out | apply below_alloc | apply pw_below_drewN | apply below_drew1) | exact HB.out))) : w.heap.size ≤ gb174)); have n3_ := Aside0.mk ((by rw [hg]; exact (below_size (by repeat (first | (with_reducible first | exact HB.out | apply below_alloc | apply pw_below_drewN | apply below_drew1) | exact HB.out))) : w.heap.size ≤ gb174)); clear HB; have HB := n0_; have BK174 := n1_; have GW174 := n2_; have GE174 := n3_; clear n0_ n1_ n2_ n3_; clear hb hbox hg; have hcz9_0 : w8.cell? ⟨gb174, 0, none⟩ = some (.int .i64 a2_0) := (blk_cell BK174.out 0).trans rfl; have hcz9_1 : w8.cell? ⟨gb174, 1, none⟩ = some (.int .i64 a2_1) := (blk_cell BK174.out 1).trans rfl; have hcz9_2 : w8.cell? ⟨gb174, 2, none⟩ = some (.int .u32 a2_2) := (blk_cell BK174.out 2).trans rfl; have hcz9_3 : w8.cell? ⟨gb174, 3, none⟩ = some (.int .u32 a2_3) := (blk_cell BK174.out 3).trans rfl; have hcz9_4 : w8.cell? ⟨gb174, 4, none⟩ = some (.int .i64 a2_4) := (blk_cell BK174.out 4).trans rfl; have hcz9_5 : w8.cell? ⟨gb174, 5, none⟩ = some (.int .i64 a2_5) := (blk_cell BK174.out 5).trans rfl; have hcz9_6 : w8.cell? ⟨gb174, 6, none⟩ = some (.string a2_6) := (blk_cell BK174.out 6).trans rfl; have hfz9_0 := blk_frozen BK174.out 0; have hfz9_1 := blk_frozen BK174.out 1; have hfz9_2 := blk_frozen BK174.out 2; have hfz9_3 := blk_frozen BK174.out 3; have hfz9_4 := blk_frozen BK174.out 4; have hfz9_5 := blk_frozen BK174.out 5; have hfz9_6 := blk_frozen BK174.out 6) | ((with_reducible refine gate_callee (f := 30) rfl ?_); refine goesL_ (some 14) rfl rfl Try.func30 (by kernel_rfl) rfl #[.agg #[.int .i64 a2_0, .int .i64 a2_1, .int .u32 a2_2, .int .u32 a2_3, .int .i64 a2_4, .int .i64 a2_5, .string a2_6]] rfl (by (try simp only [List.map_toArray, List.map_cons, List.map_nil]); first | done | rfl | (simp only [List.length_drop, List.length_take]; rfl)) ?_; (with_reducible refine (rampartref04_Check.calls a2_0 a2_1 a2_2 a2_3 a2_4 a2_5 a2_6 true _ A5.out).mono ?_); rintro e w10 ⟨rfl, hb⟩; refine ⟨_, rfl, ?_⟩; have n0_ := Aside0.mk (blk_below (g := gb174) (o := .cells #[.int .i64 a2_0, .int .i64 a2_1, .int .u32 a2_2, .int .u32 a2_3, .int .i64 a2_4, .int .i64 a2_5, .string a2_6] 42 (0, 0)) (by (with_reducible repeat (first | refine blk_drewN ?_ _ | refine blk_drew ?_ | refine blk_alloc ?_ _)); exact BK174.out) hb); have n1_ := Aside0.mk (below_step (by repeat (first | (with_reducible first | exact HB.out | apply below_alloc | apply pw_below_drewN | apply below_drew1 | refine below_set ?_ GE174.out) | exact HB.out)) hb); clear BK174; clear HB; have BK174 := n0_; have HB := n1_; clear n0_ n1_; (try clear hb); (try clear hb2); (try clear hk); (try clear hi); have hcz11_0 : w10.cell? ⟨gb174, 0, none⟩ = some (.int .i64 a2_0) := (blk_cell BK174.out 0).trans rfl; have hcz11_1 : w10.cell? ⟨gb174, 1, none⟩ = some (.int .i64 a2_1) := (blk_cell BK174.out 1).trans rfl; have hcz11_2 : w10.cell? ⟨gb174, 2, none⟩ = some (.int .u32 a2_2) := (blk_cell BK174.out 2).trans rfl; have hcz11_3 : w10.cell? ⟨gb174, 3, none⟩ = some (.int .u32 a2_3) := (blk_cell BK174.out 3).trans rfl; have hcz11_4 : w10.cell? ⟨gb174, 4, none⟩ = some (.int .i64 a2_4) := (blk_cell BK174.out 4).trans rfl; have hcz11_5 : w10.cell? ⟨gb174, 5, none⟩ = some (.int .i64 a2_5) := (blk_cell BK174.out 5).trans rfl; have hcz11_6 : w10.cell? ⟨gb174, 6, none⟩ = some (.string a2_6) := (blk_cell BK174.out 6).trans rfl; have hfz11_0 := blk_frozen BK174.out 0; have hfz11_1 := blk_frozen BK174.out 1; have hfz11_2 := blk_frozen BK174.out 2; have hfz11_3 := blk_frozen BK174.out 3; have hfz11_4 := blk_frozen BK174.out 4; have hfz11_5 := blk_frozen BK174.out 5; have hfz11_6 := blk_frozen BK174.out 6))
   go_ret2
   exact ⟨by first | rfl | (simp [errW_none, errW_some] <;> rfl) | (simp [*, errW_none, errW_some] <;> rfl), by repeat (first | (with_reducible first | exact HB.out | apply below_alloc | apply pw_below_drewN | apply below_drew1 | refine below_set ?_ GE174.out) | exact HB.out)⟩
  ·
   rw [if_neg c7] at H
   have c7b0 : decide ((wrap64 (1980 - (a2_6.size : Int))) < (a3.size : Int)) = false := decide_eq_false c7
   clear c7
   replace H := Option.bind_eq_some_iff.mp H
   obtain ⟨t176, A120, H⟩ := H
   replace H : ((rampartref01_Big.f k a2_1 2).bind fun t177 => (if t176.size + t177.size ≤ 9223372036854775807 then ((rampartref01_Big.f k (wrap64 (a2_2)) 4).bind fun t178 => (if (t176 ++ t177).size + t178.size ≤ 9223372036854775807 then ((rampartref01_Big.f k (wrap64 (a2_3)) 4).bind fun t179 => (if ((t176 ++ t177) ++ t178).size + t179.size ≤ 9223372036854775807 then ((rampartref01_Big.f k (wrap64 ((wrap64 (Int.tdiv (wrap64 (20 + (a2_6.size : Int))) 4)) * 16)) 1).bind fun t180 => (if (((t176 ++ t177) ++ t178) ++ t179).size + t180.size ≤ 9223372036854775807 then ((rampartref01_Big.f k a2_4 1).bind fun t181 => (if ((((t176 ++ t177) ++ t178) ++ t179) ++ t180).size + t181.size ≤ 9223372036854775807 then ((rampartref01_Big.f k a2_5 2).bind fun t182 => (if (((((t176 ++ t177) ++ t178) ++ t179) ++ t180) ++ t181).size + t182.size ≤ 9223372036854775807 then (if 2 + a2_6.size ≤ 9223372036854775807 then (if ((⟨#[0, 0]⟩ : ByteArray) ++ a2_6).size + a3.size ≤ 9223372036854775807 then (if ((((((t176 ++ t177) ++ t178) ++ t179) ++ t180) ++ t181) ++ t182).size + 2 ≤ 9223372036854775807 then (if (((((((t176 ++ t177) ++ t178) ++ t179) ++ t180) ++ t181) ++ t182) ++ (⟨#[0, 0]⟩ : ByteArray)).size + (((⟨#[0, 0]⟩ : ByteArray) ++ a2_6) ++ a3).size ≤ 9223372036854775807 then ((rampartref04_Sum.f k a0 a1 6 ((((((((t176 ++ t177) ++ t178) ++ t179) ++ t180) ++ t181) ++ t182) ++ (⟨#[0, 0]⟩ : ByteArray)) ++ (((⟨#[0, 0]⟩ : ByteArray) ++ a2_6) ++ a3))).bind fun t183 => ((rampartref01_Big.f k t183 2).bind fun t184 => (if ((((((t176 ++ t177) ++ t178) ++ t179) ++ t180) ++ t181) ++ t182).size + t184.size ≤ 9223372036854775807 then (if (((((((t176 ++ t177) ++ t178) ++ t179) ++ t180) ++ t181) ++ t182) ++ t184).size + (((⟨#[0, 0]⟩ : ByteArray) ++ a2_6) ++ a3).size ≤ 9223372036854775807 then (some ((((((((t176 ++ t177) ++ t178) ++ t179) ++ t180) ++ t181) ++ t182) ++ t184) ++ (((⟨#[0, 0]⟩ : ByteArray) ++ a2_6) ++ a3), 0)) else (none)) else (none)))) else (none)) else (none)) else (none)) else (none)) else (none))) else (none))) else (none))) else (none))) else (none))) else (none))) = some (r1, r2) := H
   have A12 := Aside0.mk A120
   clear A120
   replace H := Option.bind_eq_some_iff.mp H
   obtain ⟨t177, A130, H⟩ := H
   replace H : (if t176.size + t177.size ≤ 9223372036854775807 then ((rampartref01_Big.f k (wrap64 (a2_2)) 4).bind fun t178 => (if (t176 ++ t177).size + t178.size ≤ 9223372036854775807 then ((rampartref01_Big.f k (wrap64 (a2_3)) 4).bind fun t179 => (if ((t176 ++ t177) ++ t178).size + t179.size ≤ 9223372036854775807 then ((rampartref01_Big.f k (wrap64 ((wrap64 (Int.tdiv (wrap64 (20 + (a2_6.size : Int))) 4)) * 16)) 1).bind fun t180 => (if (((t176 ++ t177) ++ t178) ++ t179).size + t180.size ≤ 9223372036854775807 then ((rampartref01_Big.f k a2_4 1).bind fun t181 => (if ((((t176 ++ t177) ++ t178) ++ t179) ++ t180).size + t181.size ≤ 9223372036854775807 then ((rampartref01_Big.f k a2_5 2).bind fun t182 => (if (((((t176 ++ t177) ++ t178) ++ t179) ++ t180) ++ t181).size + t182.size ≤ 9223372036854775807 then (if 2 + a2_6.size ≤ 9223372036854775807 then (if ((⟨#[0, 0]⟩ : ByteArray) ++ a2_6).size + a3.size ≤ 9223372036854775807 then (if ((((((t176 ++ t177) ++ t178) ++ t179) ++ t180) ++ t181) ++ t182).size + 2 ≤ 9223372036854775807 then (if (((((((t176 ++ t177) ++ t178) ++ t179) ++ t180) ++ t181) ++ t182) ++ (⟨#[0, 0]⟩ : ByteArray)).size + (((⟨#[0, 0]⟩ : ByteArray) ++ a2_6) ++ a3).size ≤ 9223372036854775807 then ((rampartref04_Sum.f k a0 a1 6 ((((((((t176 ++ t177) ++ t178) ++ t179) ++ t180) ++ t181) ++ t182) ++ (⟨#[0, 0]⟩ : ByteArray)) ++ (((⟨#[0, 0]⟩ : ByteArray) ++ a2_6) ++ a3))).bind fun t183 => ((rampartref01_Big.f k t183 2).bind fun t184 => (if ((((((t176 ++ t177) ++ t178) ++ t179) ++ t180) ++ t181) ++ t182).size + t184.size ≤ 9223372036854775807 then (if (((((((t176 ++ t177) ++ t178) ++ t179) ++ t180) ++ t181) ++ t182) ++ t184).size + (((⟨#[0, 0]⟩ : ByteArray) ++ a2_6) ++ a3).size ≤ 9223372036854775807 then (some ((((((((t176 ++ t177) ++ t178) ++ t179) ++ t180) ++ t181) ++ t182) ++ t184) ++ (((⟨#[0, 0]⟩ : ByteArray) ++ a2_6) ++ a3), 0)) else (none)) else (none)))) else (none)) else (none)) else (none)) else (none)) else (none))) else (none))) else (none))) else (none))) else (none))) else (none)) = some (r1, r2) := H
   have A13 := Aside0.mk A130
   clear A130
   by_cases c14 : t176.size + t177.size ≤ 9223372036854775807
   ·
    rw [if_pos c14] at H
    have c14b0 := eq_true c14
    have c14b1 : decide (t176.size + t177.size ≤ 9223372036854775807) = true := decide_eq_true c14
    try have c14b2 : (9223372036854775807 < t176.size + t177.size) = False := eq_false (Nat.not_lt.2 c14)
    replace H := Option.bind_eq_some_iff.mp H
    obtain ⟨t178, A150, H⟩ := H
    replace H : (if (t176 ++ t177).size + t178.size ≤ 9223372036854775807 then ((rampartref01_Big.f k (wrap64 (a2_3)) 4).bind fun t179 => (if ((t176 ++ t177) ++ t178).size + t179.size ≤ 9223372036854775807 then ((rampartref01_Big.f k (wrap64 ((wrap64 (Int.tdiv (wrap64 (20 + (a2_6.size : Int))) 4)) * 16)) 1).bind fun t180 => (if (((t176 ++ t177) ++ t178) ++ t179).size + t180.size ≤ 9223372036854775807 then ((rampartref01_Big.f k a2_4 1).bind fun t181 => (if ((((t176 ++ t177) ++ t178) ++ t179) ++ t180).size + t181.size ≤ 9223372036854775807 then ((rampartref01_Big.f k a2_5 2).bind fun t182 => (if (((((t176 ++ t177) ++ t178) ++ t179) ++ t180) ++ t181).size + t182.size ≤ 9223372036854775807 then (if 2 + a2_6.size ≤ 9223372036854775807 then (if ((⟨#[0, 0]⟩ : ByteArray) ++ a2_6).size + a3.size ≤ 9223372036854775807 then (if ((((((t176 ++ t177) ++ t178) ++ t179) ++ t180) ++ t181) ++ t182).size + 2 ≤ 9223372036854775807 then (if (((((((t176 ++ t177) ++ t178) ++ t179) ++ t180) ++ t181) ++ t182) ++ (⟨#[0, 0]⟩ : ByteArray)).size + (((⟨#[0, 0]⟩ : ByteArray) ++ a2_6) ++ a3).size ≤ 9223372036854775807 then ((rampartref04_Sum.f k a0 a1 6 ((((((((t176 ++ t177) ++ t178) ++ t179) ++ t180) ++ t181) ++ t182) ++ (⟨#[0, 0]⟩ : ByteArray)) ++ (((⟨#[0, 0]⟩ : ByteArray) ++ a2_6) ++ a3))).bind fun t183 => ((rampartref01_Big.f k t183 2).bind fun t184 => (if ((((((t176 ++ t177) ++ t178) ++ t179) ++ t180) ++ t181) ++ t182).size + t184.size ≤ 9223372036854775807 then (if (((((((t176 ++ t177) ++ t178) ++ t179) ++ t180) ++ t181) ++ t182) ++ t184).size + (((⟨#[0, 0]⟩ : ByteArray) ++ a2_6) ++ a3).size ≤ 9223372036854775807 then (some ((((((((t176 ++ t177) ++ t178) ++ t179) ++ t180) ++ t181) ++ t182) ++ t184) ++ (((⟨#[0, 0]⟩ : ByteArray) ++ a2_6) ++ a3), 0)) else (none)) else (none)))) else (none)) else (none)) else (none)) else (none)) else (none))) else (none))) else (none))) else (none))) else (none)) = some (r1, r2) := H
    have A15 := Aside0.mk A150
    clear A150
    by_cases c16 : (t176 ++ t177).size + t178.size ≤ 9223372036854775807
    ·
     rw [if_pos c16] at H
     have c16b0 := eq_true c16
     have c16b1 : decide ((t176 ++ t177).size + t178.size ≤ 9223372036854775807) = true := decide_eq_true c16
     try have c16b2 : (9223372036854775807 < (t176 ++ t177).size + t178.size) = False := eq_false (Nat.not_lt.2 c16)
     have c16b3 : (9223372036854775807 < t176.size + t177.size + t178.size) = False := eq_false (Nat.not_lt.2 (by have z_ := c16; simp only [ByteArray.size_append] at z_; exact z_))
     replace H := Option.bind_eq_some_iff.mp H
     obtain ⟨t179, A170, H⟩ := H
     replace H : (if ((t176 ++ t177) ++ t178).size + t179.size ≤ 9223372036854775807 then ((rampartref01_Big.f k (wrap64 ((wrap64 (Int.tdiv (wrap64 (20 + (a2_6.size : Int))) 4)) * 16)) 1).bind fun t180 => (if (((t176 ++ t177) ++ t178) ++ t179).size + t180.size ≤ 9223372036854775807 then ((rampartref01_Big.f k a2_4 1).bind fun t181 => (if ((((t176 ++ t177) ++ t178) ++ t179) ++ t180).size + t181.size ≤ 9223372036854775807 then ((rampartref01_Big.f k a2_5 2).bind fun t182 => (if (((((t176 ++ t177) ++ t178) ++ t179) ++ t180) ++ t181).size + t182.size ≤ 9223372036854775807 then (if 2 + a2_6.size ≤ 9223372036854775807 then (if ((⟨#[0, 0]⟩ : ByteArray) ++ a2_6).size + a3.size ≤ 9223372036854775807 then (if ((((((t176 ++ t177) ++ t178) ++ t179) ++ t180) ++ t181) ++ t182).size + 2 ≤ 9223372036854775807 then (if (((((((t176 ++ t177) ++ t178) ++ t179) ++ t180) ++ t181) ++ t182) ++ (⟨#[0, 0]⟩ : ByteArray)).size + (((⟨#[0, 0]⟩ : ByteArray) ++ a2_6) ++ a3).size ≤ 9223372036854775807 then ((rampartref04_Sum.f k a0 a1 6 ((((((((t176 ++ t177) ++ t178) ++ t179) ++ t180) ++ t181) ++ t182) ++ (⟨#[0, 0]⟩ : ByteArray)) ++ (((⟨#[0, 0]⟩ : ByteArray) ++ a2_6) ++ a3))).bind fun t183 => ((rampartref01_Big.f k t183 2).bind fun t184 => (if ((((((t176 ++ t177) ++ t178) ++ t179) ++ t180) ++ t181) ++ t182).size + t184.size ≤ 9223372036854775807 then (if (((((((t176 ++ t177) ++ t178) ++ t179) ++ t180) ++ t181) ++ t182) ++ t184).size + (((⟨#[0, 0]⟩ : ByteArray) ++ a2_6) ++ a3).size ≤ 9223372036854775807 then (some ((((((((t176 ++ t177) ++ t178) ++ t179) ++ t180) ++ t181) ++ t182) ++ t184) ++ (((⟨#[0, 0]⟩ : ByteArray) ++ a2_6) ++ a3), 0)) else (none)) else (none)))) else (none)) else (none)) else (none)) else (none)) else (none))) else (none))) else (none))) else (none)) = some (r1, r2) := H
     have A17 := Aside0.mk A170
     clear A170
     by_cases c18 : ((t176 ++ t177) ++ t178).size + t179.size ≤ 9223372036854775807
     ·
      rw [if_pos c18] at H
      have c18b0 := eq_true c18
      have c18b1 : decide (((t176 ++ t177) ++ t178).size + t179.size ≤ 9223372036854775807) = true := decide_eq_true c18
      try have c18b2 : (9223372036854775807 < ((t176 ++ t177) ++ t178).size + t179.size) = False := eq_false (Nat.not_lt.2 c18)
      have c18b3 : (9223372036854775807 < t176.size + t177.size + t178.size + t179.size) = False := eq_false (Nat.not_lt.2 (by have z_ := c18; simp only [ByteArray.size_append] at z_; exact z_))
      replace H := Option.bind_eq_some_iff.mp H
      obtain ⟨t180, A190, H⟩ := H
      replace H : (if (((t176 ++ t177) ++ t178) ++ t179).size + t180.size ≤ 9223372036854775807 then ((rampartref01_Big.f k a2_4 1).bind fun t181 => (if ((((t176 ++ t177) ++ t178) ++ t179) ++ t180).size + t181.size ≤ 9223372036854775807 then ((rampartref01_Big.f k a2_5 2).bind fun t182 => (if (((((t176 ++ t177) ++ t178) ++ t179) ++ t180) ++ t181).size + t182.size ≤ 9223372036854775807 then (if 2 + a2_6.size ≤ 9223372036854775807 then (if ((⟨#[0, 0]⟩ : ByteArray) ++ a2_6).size + a3.size ≤ 9223372036854775807 then (if ((((((t176 ++ t177) ++ t178) ++ t179) ++ t180) ++ t181) ++ t182).size + 2 ≤ 9223372036854775807 then (if (((((((t176 ++ t177) ++ t178) ++ t179) ++ t180) ++ t181) ++ t182) ++ (⟨#[0, 0]⟩ : ByteArray)).size + (((⟨#[0, 0]⟩ : ByteArray) ++ a2_6) ++ a3).size ≤ 9223372036854775807 then ((rampartref04_Sum.f k a0 a1 6 ((((((((t176 ++ t177) ++ t178) ++ t179) ++ t180) ++ t181) ++ t182) ++ (⟨#[0, 0]⟩ : ByteArray)) ++ (((⟨#[0, 0]⟩ : ByteArray) ++ a2_6) ++ a3))).bind fun t183 => ((rampartref01_Big.f k t183 2).bind fun t184 => (if ((((((t176 ++ t177) ++ t178) ++ t179) ++ t180) ++ t181) ++ t182).size + t184.size ≤ 9223372036854775807 then (if (((((((t176 ++ t177) ++ t178) ++ t179) ++ t180) ++ t181) ++ t182) ++ t184).size + (((⟨#[0, 0]⟩ : ByteArray) ++ a2_6) ++ a3).size ≤ 9223372036854775807 then (some ((((((((t176 ++ t177) ++ t178) ++ t179) ++ t180) ++ t181) ++ t182) ++ t184) ++ (((⟨#[0, 0]⟩ : ByteArray) ++ a2_6) ++ a3), 0)) else (none)) else (none)))) else (none)) else (none)) else (none)) else (none)) else (none))) else (none))) else (none)) = some (r1, r2) := H
      have A19 := Aside0.mk A190
      clear A190
      by_cases c20 : (((t176 ++ t177) ++ t178) ++ t179).size + t180.size ≤ 9223372036854775807
      ·
       rw [if_pos c20] at H
       have c20b0 := eq_true c20
       have c20b1 : decide ((((t176 ++ t177) ++ t178) ++ t179).size + t180.size ≤ 9223372036854775807) = true := decide_eq_true c20
       try have c20b2 : (9223372036854775807 < (((t176 ++ t177) ++ t178) ++ t179).size + t180.size) = False := eq_false (Nat.not_lt.2 c20)
       have c20b3 : (9223372036854775807 < t176.size + t177.size + t178.size + t179.size + t180.size) = False := eq_false (Nat.not_lt.2 (by have z_ := c20; simp only [ByteArray.size_append] at z_; exact z_))
       replace H := Option.bind_eq_some_iff.mp H
       obtain ⟨t181, A210, H⟩ := H
       replace H : (if ((((t176 ++ t177) ++ t178) ++ t179) ++ t180).size + t181.size ≤ 9223372036854775807 then ((rampartref01_Big.f k a2_5 2).bind fun t182 => (if (((((t176 ++ t177) ++ t178) ++ t179) ++ t180) ++ t181).size + t182.size ≤ 9223372036854775807 then (if 2 + a2_6.size ≤ 9223372036854775807 then (if ((⟨#[0, 0]⟩ : ByteArray) ++ a2_6).size + a3.size ≤ 9223372036854775807 then (if ((((((t176 ++ t177) ++ t178) ++ t179) ++ t180) ++ t181) ++ t182).size + 2 ≤ 9223372036854775807 then (if (((((((t176 ++ t177) ++ t178) ++ t179) ++ t180) ++ t181) ++ t182) ++ (⟨#[0, 0]⟩ : ByteArray)).size + (((⟨#[0, 0]⟩ : ByteArray) ++ a2_6) ++ a3).size ≤ 9223372036854775807 then ((rampartref04_Sum.f k a0 a1 6 ((((((((t176 ++ t177) ++ t178) ++ t179) ++ t180) ++ t181) ++ t182) ++ (⟨#[0, 0]⟩ : ByteArray)) ++ (((⟨#[0, 0]⟩ : ByteArray) ++ a2_6) ++ a3))).bind fun t183 => ((rampartref01_Big.f k t183 2).bind fun t184 => (if ((((((t176 ++ t177) ++ t178) ++ t179) ++ t180) ++ t181) ++ t182).size + t184.size ≤ 9223372036854775807 then (if (((((((t176 ++ t177) ++ t178) ++ t179) ++ t180) ++ t181) ++ t182) ++ t184).size + (((⟨#[0, 0]⟩ : ByteArray) ++ a2_6) ++ a3).size ≤ 9223372036854775807 then (some ((((((((t176 ++ t177) ++ t178) ++ t179) ++ t180) ++ t181) ++ t182) ++ t184) ++ (((⟨#[0, 0]⟩ : ByteArray) ++ a2_6) ++ a3), 0)) else (none)) else (none)))) else (none)) else (none)) else (none)) else (none)) else (none))) else (none)) = some (r1, r2) := H
       have A21 := Aside0.mk A210
       clear A210
       by_cases c22 : ((((t176 ++ t177) ++ t178) ++ t179) ++ t180).size + t181.size ≤ 9223372036854775807
       ·
        rw [if_pos c22] at H
        have c22b0 := eq_true c22
        have c22b1 : decide (((((t176 ++ t177) ++ t178) ++ t179) ++ t180).size + t181.size ≤ 9223372036854775807) = true := decide_eq_true c22
        try have c22b2 : (9223372036854775807 < ((((t176 ++ t177) ++ t178) ++ t179) ++ t180).size + t181.size) = False := eq_false (Nat.not_lt.2 c22)
        have c22b3 : (9223372036854775807 < t176.size + t177.size + t178.size + t179.size + t180.size + t181.size) = False := eq_false (Nat.not_lt.2 (by have z_ := c22; simp only [ByteArray.size_append] at z_; exact z_))
        replace H := Option.bind_eq_some_iff.mp H
        obtain ⟨t182, A230, H⟩ := H
        replace H : (if (((((t176 ++ t177) ++ t178) ++ t179) ++ t180) ++ t181).size + t182.size ≤ 9223372036854775807 then (if 2 + a2_6.size ≤ 9223372036854775807 then (if ((⟨#[0, 0]⟩ : ByteArray) ++ a2_6).size + a3.size ≤ 9223372036854775807 then (if ((((((t176 ++ t177) ++ t178) ++ t179) ++ t180) ++ t181) ++ t182).size + 2 ≤ 9223372036854775807 then (if (((((((t176 ++ t177) ++ t178) ++ t179) ++ t180) ++ t181) ++ t182) ++ (⟨#[0, 0]⟩ : ByteArray)).size + (((⟨#[0, 0]⟩ : ByteArray) ++ a2_6) ++ a3).size ≤ 9223372036854775807 then ((rampartref04_Sum.f k a0 a1 6 ((((((((t176 ++ t177) ++ t178) ++ t179) ++ t180) ++ t181) ++ t182) ++ (⟨#[0, 0]⟩ : ByteArray)) ++ (((⟨#[0, 0]⟩ : ByteArray) ++ a2_6) ++ a3))).bind fun t183 => ((rampartref01_Big.f k t183 2).bind fun t184 => (if ((((((t176 ++ t177) ++ t178) ++ t179) ++ t180) ++ t181) ++ t182).size + t184.size ≤ 9223372036854775807 then (if (((((((t176 ++ t177) ++ t178) ++ t179) ++ t180) ++ t181) ++ t182) ++ t184).size + (((⟨#[0, 0]⟩ : ByteArray) ++ a2_6) ++ a3).size ≤ 9223372036854775807 then (some ((((((((t176 ++ t177) ++ t178) ++ t179) ++ t180) ++ t181) ++ t182) ++ t184) ++ (((⟨#[0, 0]⟩ : ByteArray) ++ a2_6) ++ a3), 0)) else (none)) else (none)))) else (none)) else (none)) else (none)) else (none)) else (none)) = some (r1, r2) := H
        have A23 := Aside0.mk A230
        clear A230
        by_cases c24 : (((((t176 ++ t177) ++ t178) ++ t179) ++ t180) ++ t181).size + t182.size ≤ 9223372036854775807
        ·
         rw [if_pos c24] at H
         have c24b0 := eq_true c24
         have c24b1 : decide ((((((t176 ++ t177) ++ t178) ++ t179) ++ t180) ++ t181).size + t182.size ≤ 9223372036854775807) = true := decide_eq_true c24
         try have c24b2 : (9223372036854775807 < (((((t176 ++ t177) ++ t178) ++ t179) ++ t180) ++ t181).size + t182.size) = False := eq_false (Nat.not_lt.2 c24)
         have c24b3 : (9223372036854775807 < t176.size + t177.size + t178.size + t179.size + t180.size + t181.size + t182.size) = False := eq_false (Nat.not_lt.2 (by have z_ := c24; simp only [ByteArray.size_append] at z_; exact z_))
         by_cases c25 : 2 + a2_6.size ≤ 9223372036854775807
         ·
          rw [if_pos c25] at H
          have c25b0 := eq_true c25
          have c25b1 : decide (2 + a2_6.size ≤ 9223372036854775807) = true := decide_eq_true c25
          try have c25b2 : (9223372036854775807 < 2 + a2_6.size) = False := eq_false (Nat.not_lt.2 c25)
          by_cases c26 : ((⟨#[0, 0]⟩ : ByteArray) ++ a2_6).size + a3.size ≤ 9223372036854775807
          ·
           rw [if_pos c26] at H
           have c26b0 := eq_true c26
           have c26b1 : decide (((⟨#[0, 0]⟩ : ByteArray) ++ a2_6).size + a3.size ≤ 9223372036854775807) = true := decide_eq_true c26
           try have c26b2 : (9223372036854775807 < ((⟨#[0, 0]⟩ : ByteArray) ++ a2_6).size + a3.size) = False := eq_false (Nat.not_lt.2 c26)
           have c26b3 : (9223372036854775807 < 2 + a2_6.size + a3.size) = False := eq_false (Nat.not_lt.2 (by have z_ := c26; simp only [ByteArray.size_append] at z_; exact z_))
           by_cases c27 : ((((((t176 ++ t177) ++ t178) ++ t179) ++ t180) ++ t181) ++ t182).size + 2 ≤ 9223372036854775807
           ·
            rw [if_pos c27] at H
            have c27b0 := eq_true c27
            have c27b1 : decide (((((((t176 ++ t177) ++ t178) ++ t179) ++ t180) ++ t181) ++ t182).size + 2 ≤ 9223372036854775807) = true := decide_eq_true c27
            try have c27b2 : (9223372036854775807 < ((((((t176 ++ t177) ++ t178) ++ t179) ++ t180) ++ t181) ++ t182).size + 2) = False := eq_false (Nat.not_lt.2 c27)
            have c27b3 : (9223372036854775807 < t176.size + t177.size + t178.size + t179.size + t180.size + t181.size + t182.size + 2) = False := eq_false (Nat.not_lt.2 (by have z_ := c27; simp only [ByteArray.size_append] at z_; exact z_))
            by_cases c28 : (((((((t176 ++ t177) ++ t178) ++ t179) ++ t180) ++ t181) ++ t182) ++ (⟨#[0, 0]⟩ : ByteArray)).size + (((⟨#[0, 0]⟩ : ByteArray) ++ a2_6) ++ a3).size ≤ 9223372036854775807
            ·
             rw [if_pos c28] at H
             have c28b0 := eq_true c28
             have c28b1 : decide ((((((((t176 ++ t177) ++ t178) ++ t179) ++ t180) ++ t181) ++ t182) ++ (⟨#[0, 0]⟩ : ByteArray)).size + (((⟨#[0, 0]⟩ : ByteArray) ++ a2_6) ++ a3).size ≤ 9223372036854775807) = true := decide_eq_true c28
             try have c28b2 : (9223372036854775807 < (((((((t176 ++ t177) ++ t178) ++ t179) ++ t180) ++ t181) ++ t182) ++ (⟨#[0, 0]⟩ : ByteArray)).size + (((⟨#[0, 0]⟩ : ByteArray) ++ a2_6) ++ a3).size) = False := eq_false (Nat.not_lt.2 c28)
             have c28b3 : (9223372036854775807 < t176.size + t177.size + t178.size + t179.size + t180.size + t181.size + t182.size + 2 + (2 + a2_6.size + a3.size)) = False := eq_false (Nat.not_lt.2 (by have z_ := c28; simp only [ByteArray.size_append] at z_; exact z_))
             replace H := Option.bind_eq_some_iff.mp H
             obtain ⟨t183, A290, H⟩ := H
             replace H : ((rampartref01_Big.f k t183 2).bind fun t184 => (if ((((((t176 ++ t177) ++ t178) ++ t179) ++ t180) ++ t181) ++ t182).size + t184.size ≤ 9223372036854775807 then (if (((((((t176 ++ t177) ++ t178) ++ t179) ++ t180) ++ t181) ++ t182) ++ t184).size + (((⟨#[0, 0]⟩ : ByteArray) ++ a2_6) ++ a3).size ≤ 9223372036854775807 then (some ((((((((t176 ++ t177) ++ t178) ++ t179) ++ t180) ++ t181) ++ t182) ++ t184) ++ (((⟨#[0, 0]⟩ : ByteArray) ++ a2_6) ++ a3), 0)) else (none)) else (none))) = some (r1, r2) := H
             have A29 := Aside0.mk A290
             clear A290
             replace H := Option.bind_eq_some_iff.mp H
             obtain ⟨t184, A300, H⟩ := H
             replace H : (if ((((((t176 ++ t177) ++ t178) ++ t179) ++ t180) ++ t181) ++ t182).size + t184.size ≤ 9223372036854775807 then (if (((((((t176 ++ t177) ++ t178) ++ t179) ++ t180) ++ t181) ++ t182) ++ t184).size + (((⟨#[0, 0]⟩ : ByteArray) ++ a2_6) ++ a3).size ≤ 9223372036854775807 then (some ((((((((t176 ++ t177) ++ t178) ++ t179) ++ t180) ++ t181) ++ t182) ++ t184) ++ (((⟨#[0, 0]⟩ : ByteArray) ++ a2_6) ++ a3), 0)) else (none)) else (none)) = some (r1, r2) := H
             have A30 := Aside0.mk A300
             clear A300
             by_cases c31 : ((((((t176 ++ t177) ++ t178) ++ t179) ++ t180) ++ t181) ++ t182).size + t184.size ≤ 9223372036854775807
             ·
              rw [if_pos c31] at H
              have c31b0 := eq_true c31
              have c31b1 : decide (((((((t176 ++ t177) ++ t178) ++ t179) ++ t180) ++ t181) ++ t182).size + t184.size ≤ 9223372036854775807) = true := decide_eq_true c31
              try have c31b2 : (9223372036854775807 < ((((((t176 ++ t177) ++ t178) ++ t179) ++ t180) ++ t181) ++ t182).size + t184.size) = False := eq_false (Nat.not_lt.2 c31)
              have c31b3 : (9223372036854775807 < t176.size + t177.size + t178.size + t179.size + t180.size + t181.size + t182.size + t184.size) = False := eq_false (Nat.not_lt.2 (by have z_ := c31; simp only [ByteArray.size_append] at z_; exact z_))
              by_cases c32 : (((((((t176 ++ t177) ++ t178) ++ t179) ++ t180) ++ t181) ++ t182) ++ t184).size + (((⟨#[0, 0]⟩ : ByteArray) ++ a2_6) ++ a3).size ≤ 9223372036854775807
              ·
               rw [if_pos c32] at H
               have c32b0 := eq_true c32
               have c32b1 : decide ((((((((t176 ++ t177) ++ t178) ++ t179) ++ t180) ++ t181) ++ t182) ++ t184).size + (((⟨#[0, 0]⟩ : ByteArray) ++ a2_6) ++ a3).size ≤ 9223372036854775807) = true := decide_eq_true c32
               try have c32b2 : (9223372036854775807 < (((((((t176 ++ t177) ++ t178) ++ t179) ++ t180) ++ t181) ++ t182) ++ t184).size + (((⟨#[0, 0]⟩ : ByteArray) ++ a2_6) ++ a3).size) = False := eq_false (Nat.not_lt.2 c32)
               have c32b3 : (9223372036854775807 < t176.size + t177.size + t178.size + t179.size + t180.size + t181.size + t182.size + t184.size + (2 + a2_6.size + a3.size)) = False := eq_false (Nat.not_lt.2 (by have z_ := c32; simp only [ByteArray.size_append] at z_; exact z_))
               simp only [Option.some.injEq, Prod.mk.injEq] at H
               obtain ⟨rfl, rfl⟩ := H
               (try have c7w_ : decide (1980 - (a2_6.size : Int) < (a3.size : Int)) = false := by (have e_ : wrap64 (1980 - (a2_6.size : Int)) = 1980 - (a2_6.size : Int) := by (unfold wrap64; omega)); rw [← e_]; exact c7b0)
               go_enter Try.func26, Try.ntmps26
               try go_wp2_with (first | ((with_reducible refine gate_dst (N := 6) rfl ?_); refine box_event ?hg (N := 6) ?hd (cs := #[.int .i64 a2_0, .int .i64 a2_1, .int .u32 a2_2, .int .u32 a2_3, .int .i64 a2_4, .int .i64 a2_5, .string a2_6]) (t := 42) ?hr ?_; (case hd => rfl); (case hg => rfl); (case hr => first | (go_simp; done) | (go_simp; rfl)); intro gb174 hg w33 hbox hb; have n0_ := Aside0.mk (below_step (by repeat (first | (with_reducible first | exact HB.out | apply below_alloc | apply pw_below_drewN | apply below_drew1) | exact HB.out)) hb); have n1_ := Aside0.mk (hbox); have n2_ := Aside0.mk ((by rw [hg]; exact (below_size (by repeat (first | (with_reducible first | exact HB.out | apply below_alloc | apply pw_below_drewN | apply below_drew1) | exact HB.out))) : w.heap.size ≤ gb174)); have n3_ := Aside0.mk ((by rw [hg]; exact (below_size (by repeat (first | (with_reducible first | exact HB.out | apply below_alloc | apply pw_below_drewN | apply below_drew1) | exact HB.out))) : w.heap.size ≤ gb174)); clear HB; have HB := n0_; have BK174 := n1_; have GW174 := n2_; have GE174 := n3_; clear n0_ n1_ n2_ n3_; clear hb hbox hg; have hcz34_0 : w33.cell? ⟨gb174, 0, none⟩ = some (.int .i64 a2_0) := (blk_cell BK174.out 0).trans rfl; have hcz34_1 : w33.cell? ⟨gb174, 1, none⟩ = some (.int .i64 a2_1) := (blk_cell BK174.out 1).trans rfl; have hcz34_2 : w33.cell? ⟨gb174, 2, none⟩ = some (.int .u32 a2_2) := (blk_cell BK174.out 2).trans rfl; have hcz34_3 : w33.cell? ⟨gb174, 3, none⟩ = some (.int .u32 a2_3) := (blk_cell BK174.out 3).trans rfl; have hcz34_4 : w33.cell? ⟨gb174, 4, none⟩ = some (.int .i64 a2_4) := (blk_cell BK174.out 4).trans rfl; have hcz34_5 : w33.cell? ⟨gb174, 5, none⟩ = some (.int .i64 a2_5) := (blk_cell BK174.out 5).trans rfl; have hcz34_6 : w33.cell? ⟨gb174, 6, none⟩ = some (.string a2_6) := (blk_cell BK174.out 6).trans rfl; have hfz34_0 := blk_frozen BK174.out 0; have hfz34_1 := blk_frozen BK174.out 1; have hfz34_2 := blk_frozen BK174.out 2; have hfz34_3 := blk_frozen BK174.out 3; have hfz34_4 := blk_frozen BK174.out 4; have hfz34_5 := blk_frozen BK174.out 5; have hfz34_6 := blk_frozen BK174.out 6) | ((with_reducible refine gate_callee (f := 30) rfl ?_); refine goesL_ (some 14) rfl rfl Try.func30 (by kernel_rfl) rfl #[.agg #[.int .i64 a2_0, .int .i64 a2_1, .int .u32 a2_2, .int .u32 a2_3, .int .i64 a2_4, .int .i64 a2_5, .string a2_6]] rfl (by (try simp only [List.map_toArray, List.map_cons, List.map_nil]); first | done | rfl | (simp only [List.length_drop, List.length_take]; rfl)) ?_; (with_reducible refine (rampartref04_Check.calls a2_0 a2_1 a2_2 a2_3 a2_4 a2_5 a2_6 true _ A5.out).mono ?_); rintro e w35 ⟨rfl, hb⟩; refine ⟨_, rfl, ?_⟩; have n0_ := Aside0.mk (blk_below (g := gb174) (o := .cells #[.int .i64 a2_0, .int .i64 a2_1, .int .u32 a2_2, .int .u32 a2_3, .int .i64 a2_4, .int .i64 a2_5, .string a2_6] 42 (0, 0)) (by (with_reducible repeat (first | refine blk_drewN ?_ _ | refine blk_drew ?_ | refine blk_alloc ?_ _)); exact BK174.out) hb); have n1_ := Aside0.mk (below_step (by repeat (first | (with_reducible first | exact HB.out | apply below_alloc | apply pw_below_drewN | apply below_drew1 | refine below_set ?_ GE174.out) | exact HB.out)) hb); clear BK174; clear HB; have BK174 := n0_; have HB := n1_; clear n0_ n1_; (try clear hb); (try clear hb2); (try clear hk); (try clear hi); have hcz36_0 : w35.cell? ⟨gb174, 0, none⟩ = some (.int .i64 a2_0) := (blk_cell BK174.out 0).trans rfl; have hcz36_1 : w35.cell? ⟨gb174, 1, none⟩ = some (.int .i64 a2_1) := (blk_cell BK174.out 1).trans rfl; have hcz36_2 : w35.cell? ⟨gb174, 2, none⟩ = some (.int .u32 a2_2) := (blk_cell BK174.out 2).trans rfl; have hcz36_3 : w35.cell? ⟨gb174, 3, none⟩ = some (.int .u32 a2_3) := (blk_cell BK174.out 3).trans rfl; have hcz36_4 : w35.cell? ⟨gb174, 4, none⟩ = some (.int .i64 a2_4) := (blk_cell BK174.out 4).trans rfl; have hcz36_5 : w35.cell? ⟨gb174, 5, none⟩ = some (.int .i64 a2_5) := (blk_cell BK174.out 5).trans rfl; have hcz36_6 : w35.cell? ⟨gb174, 6, none⟩ = some (.string a2_6) := (blk_cell BK174.out 6).trans rfl; have hfz36_0 := blk_frozen BK174.out 0; have hfz36_1 := blk_frozen BK174.out 1; have hfz36_2 := blk_frozen BK174.out 2; have hfz36_3 := blk_frozen BK174.out 3; have hfz36_4 := blk_frozen BK174.out 4; have hfz36_5 := blk_frozen BK174.out 5; have hfz36_6 := blk_frozen BK174.out 6))
               have n0_ := Aside0.mk (blk_drew BK174.out)
               have n1_ := Aside0.mk (below_drew1 HB.out)
               clear BK174
               clear HB
               have BK174 := n0_
               have HB := n1_
               clear n0_ n1_
               refine start_ (n := 34) (S := fun w' => w'.cell? ⟨gb174, 0, none⟩ = some (.int .i64 a2_0) ∧ w'.cell? ⟨gb174, 1, none⟩ = some (.int .i64 a2_1) ∧ w'.cell? ⟨gb174, 2, none⟩ = some (.int .u32 a2_2) ∧ w'.cell? ⟨gb174, 3, none⟩ = some (.int .u32 a2_3) ∧ w'.cell? ⟨gb174, 4, none⟩ = some (.int .i64 a2_4) ∧ w'.cell? ⟨gb174, 5, none⟩ = some (.int .i64 a2_5) ∧ w'.cell? ⟨gb174, 6, none⟩ = some (.string a2_6)) (ds := []) #[false, false, false, false, false, false, false, false, false, false, false, false, false, false, false, false, false, false, false, false, false, false, false, false, false, false, false, false, false, false, false, false, false, false] (by kernel_rfl) rfl rfl ⟨(blk_cell BK174.out 0).trans rfl, (blk_cell BK174.out 1).trans rfl, (blk_cell BK174.out 2).trans rfl, (blk_cell BK174.out 3).trans rfl, (blk_cell BK174.out 4).trans rfl, (blk_cell BK174.out 5).trans rfl, (blk_cell BK174.out 6).trans rfl⟩ (fun hHeld => ?_); refine with_tabW rampartref04_Put.tab5 rampartref04_Put.bits5 (fun HT_ HW_ => ?_)
               generalize w35.drew = w37 at BK174 HB hHeld ⊢
               refine pure_ (i := 0) (N := some 24) (v := ?_) (a' := ?_) #[true, false, false, false, false, false, false, false, false, false, false, false, false, false, false, false, false, false, false, false, false, false, false, false, false, false, false, false, false, false, false, false, false, false] rfl rfl (any_of HT_.out (by kernel_rfl)) (fun _ _ _ h => h) (Or.inl ⟨by rfl, ?_⟩) ?_ ?_
               rotate_left
               ·
                intro w'
                go_simp
                with_reducible rfl
               rotate_left
               ·
                simp only [Act.put, List.setIfInBounds_toArray, List.set_cons_zero, List.set_cons_succ, i64_w, i32_w]
                rfl
               refine pure_ (i := 3) (N := some 27) (v := ?_) (a' := ?_) #[true, false, false, true, false, false, false, false, false, false, false, false, false, false, false, false, false, false, false, false, false, false, false, false, false, false, false, false, false, false, false, false, false, false] rfl rfl (any_of HT_.out (by kernel_rfl)) (fun _ _ _ h => h) (Or.inl ⟨by rfl, ?_⟩) ?_ ?_
               rotate_left
               ·
                intro w'
                go_simp
                with_reducible rfl
               rotate_left
               ·
                simp only [Act.put, List.setIfInBounds_toArray, List.set_cons_zero, List.set_cons_succ, i64_w, i32_w]
                rfl
               refine pure_ (i := 7) (N := some 31) (v := ?_) (a' := ?_) #[true, false, false, true, false, false, false, true, false, false, false, false, false, false, false, false, false, false, false, false, false, false, false, false, false, false, false, false, false, false, false, false, false, false] rfl rfl (any_of HT_.out (by kernel_rfl)) (fun _ _ _ h => h) (Or.inl ⟨by rfl, ?_⟩) ?_ ?_
               rotate_left
               ·
                intro w'
                go_simp
                with_reducible rfl
               rotate_left
               ·
                simp only [Act.put, List.setIfInBounds_toArray, List.set_cons_zero, List.set_cons_succ, i64_w, i32_w]
                rfl
               refine pure_ (i := 12) (N := some 36) (v := ?_) (a' := ?_) #[true, false, false, true, false, false, false, true, false, false, false, false, true, false, false, false, false, false, false, false, false, false, false, false, false, false, false, false, false, false, false, false, false, false] rfl rfl (any_of HT_.out (by kernel_rfl)) (fun _ _ _ h => h) (Or.inl ⟨by rfl, ?_⟩) ?_ ?_
               rotate_left
               ·
                intro w'
                go_simp
                with_reducible rfl
               rotate_left
               ·
                simp only [Act.put, List.setIfInBounds_toArray, List.set_cons_zero, List.set_cons_succ, i64_w, i32_w]
                rfl
               refine pure_ (i := 17) (N := some 41) (v := ?_) (a' := ?_) #[true, false, false, true, false, false, false, true, false, false, false, false, true, false, false, false, false, true, false, false, false, false, false, false, false, false, false, false, false, false, false, false, false, false] rfl rfl (any_of HT_.out (by kernel_rfl)) (fun _ _ _ h => h) (Or.inl ⟨by rfl, ?_⟩) ?_ ?_
               rotate_left
               ·
                intro w'
                go_simp
                with_reducible rfl
               rotate_left
               ·
                simp only [Act.put, List.setIfInBounds_toArray, List.set_cons_zero, List.set_cons_succ, i64_w, i32_w]
                rfl
               refine pure_ (i := 25) (N := some 49) (v := ?_) (a' := ?_) #[true, false, false, true, false, false, false, true, false, false, false, false, true, false, false, false, false, true, false, false, false, false, false, false, false, true, false, false, false, false, false, false, false, false] rfl rfl (any_of HT_.out (by kernel_rfl)) (fun _ _ _ h => h) (Or.inl ⟨by rfl, ?_⟩) ?_ ?_
               rotate_left
               ·
                intro w'
                go_simp
                with_reducible rfl
               rotate_left
               ·
                simp only [Act.put, List.setIfInBounds_toArray, List.set_cons_zero, List.set_cons_succ, i64_w, i32_w]
                rfl
               refine pure_ (i := 29) (N := some 53) (v := ?_) (a' := ?_) #[true, false, false, true, false, false, false, true, false, false, false, false, true, false, false, false, false, true, false, false, false, false, false, false, false, true, false, false, false, true, false, false, false, false] rfl rfl (any_of HT_.out (by kernel_rfl)) (fun _ _ _ h => h) (Or.inl ⟨by rfl, ?_⟩) ?_ ?_
               rotate_left
               ·
                intro w'
                go_simp
                with_reducible rfl
               rotate_left
               ·
                simp only [Act.put, List.setIfInBounds_toArray, List.set_cons_zero, List.set_cons_succ, i64_w, i32_w]
                rfl
               refine take_ (i := 1) (N := some 25) (v := ?_) (a' := ?_) #[true, true, false, true, false, false, false, true, false, false, false, false, true, false, false, false, false, true, false, false, false, false, false, false, false, true, false, false, false, true, false, false, false, false] rfl rfl (take_ofW HT_.out HW_.out (by kernel_rfl)) (fun _ _ _ h => h) (Or.inl ⟨by rfl, ?_⟩) hHeld ?_ ?_
               rotate_left
               ·
                rintro w' ⟨s0, s1, s2, s3, s4, s5, s6⟩
                go_simp
                with_reducible rfl
               rotate_left
               ·
                simp only [Act.put, List.setIfInBounds_toArray, List.set_cons_zero, List.set_cons_succ, i64_w, i32_w]
                rfl
               refine take_ (i := 4) (N := some 28) (v := ?_) (a' := ?_) #[true, true, false, true, true, false, false, true, false, false, false, false, true, false, false, false, false, true, false, false, false, false, false, false, false, true, false, false, false, true, false, false, false, false] rfl rfl (take_ofW HT_.out HW_.out (by kernel_rfl)) (fun _ _ _ h => h) (Or.inl ⟨by rfl, ?_⟩) hHeld ?_ ?_
               rotate_left
               ·
                rintro w' ⟨s0, s1, s2, s3, s4, s5, s6⟩
                go_simp
                with_reducible rfl
               rotate_left
               ·
                simp only [Act.put, List.setIfInBounds_toArray, List.set_cons_zero, List.set_cons_succ, i64_w, i32_w]
                rfl
               refine take_ (i := 8) (N := some 32) (v := ?_) (a' := ?_) #[true, true, false, true, true, false, false, true, true, false, false, false, true, false, false, false, false, true, false, false, false, false, false, false, false, true, false, false, false, true, false, false, false, false] rfl rfl (take_ofW HT_.out HW_.out (by kernel_rfl)) (fun _ _ _ h => h) (Or.inl ⟨by rfl, ?_⟩) hHeld ?_ ?_
               rotate_left
               ·
                rintro w' ⟨s0, s1, s2, s3, s4, s5, s6⟩
                go_simp
                with_reducible rfl
               rotate_left
               ·
                simp only [Act.put, List.setIfInBounds_toArray, List.set_cons_zero, List.set_cons_succ, i64_w, i32_w]
                rfl
               refine pure_ (i := 9) (N := some 33) (v := ?_) (a' := ?_) #[true, true, false, true, true, false, false, true, true, true, false, false, true, false, false, false, false, true, false, false, false, false, false, false, false, true, false, false, false, true, false, false, false, false] rfl rfl (any_of HT_.out (by kernel_rfl)) (fun _ _ _ h => h) (Or.inl ⟨by rfl, ?_⟩) ?_ ?_
               rotate_left
               ·
                intro w'
                go_simp
                with_reducible rfl
               rotate_left
               ·
                simp only [Act.put, List.setIfInBounds_toArray, List.set_cons_zero, List.set_cons_succ, i64_w, i32_w]
                rfl
               refine take_ (i := 13) (N := some 37) (v := ?_) (a' := ?_) #[true, true, false, true, true, false, false, true, true, true, false, false, true, true, false, false, false, true, false, false, false, false, false, false, false, true, false, false, false, true, false, false, false, false] rfl rfl (take_ofW HT_.out HW_.out (by kernel_rfl)) (fun _ _ _ h => h) (Or.inl ⟨by rfl, ?_⟩) hHeld ?_ ?_
               rotate_left
               ·
                rintro w' ⟨s0, s1, s2, s3, s4, s5, s6⟩
                go_simp
                with_reducible rfl
               rotate_left
               ·
                simp only [Act.put, List.setIfInBounds_toArray, List.set_cons_zero, List.set_cons_succ, i64_w, i32_w]
                rfl
               refine pure_ (i := 14) (N := some 38) (v := ?_) (a' := ?_) #[true, true, false, true, true, false, false, true, true, true, false, false, true, true, true, false, false, true, false, false, false, false, false, false, false, true, false, false, false, true, false, false, false, false] rfl rfl (any_of HT_.out (by kernel_rfl)) (fun _ _ _ h => h) (Or.inl ⟨by rfl, ?_⟩) ?_ ?_
               rotate_left
               ·
                intro w'
                go_simp
                with_reducible rfl
               rotate_left
               ·
                simp only [Act.put, List.setIfInBounds_toArray, List.set_cons_zero, List.set_cons_succ, i64_w, i32_w]
                rfl
               refine take_ (i := 18) (N := some 42) (v := ?_) (a' := ?_) #[true, true, false, true, true, false, false, true, true, true, false, false, true, true, true, false, false, true, true, false, false, false, false, false, false, true, false, false, false, true, false, false, false, false] rfl rfl (take_ofW HT_.out HW_.out (by kernel_rfl)) (fun _ _ _ h => h) (Or.inl ⟨by rfl, ?_⟩) hHeld ?_ ?_
               rotate_left
               ·
                rintro w' ⟨s0, s1, s2, s3, s4, s5, s6⟩
                go_simp
                with_reducible rfl
               rotate_left
               ·
                simp only [Act.put, List.setIfInBounds_toArray, List.set_cons_zero, List.set_cons_succ, i64_w, i32_w]
                rfl
               refine pure_ (i := 19) (N := some 43) (v := ?_) (a' := ?_) #[true, true, false, true, true, false, false, true, true, true, false, false, true, true, true, false, false, true, true, true, false, false, false, false, false, true, false, false, false, true, false, false, false, false] rfl rfl (any_of HT_.out (by kernel_rfl)) (fun _ _ _ h => h) (Or.inl ⟨by rfl, ?_⟩) ?_ ?_
               rotate_left
               ·
                intro w'
                go_simp
                with_reducible rfl
               rotate_left
               ·
                simp only [Act.put, List.setIfInBounds_toArray, List.set_cons_zero, List.set_cons_succ, i64_w, i32_w]
                rfl
               refine pure_ (i := 20) (N := some 44) (v := ?_) (a' := ?_) #[true, true, false, true, true, false, false, true, true, true, false, false, true, true, true, false, false, true, true, true, true, false, false, false, false, true, false, false, false, true, false, false, false, false] rfl rfl (any_of HT_.out (by kernel_rfl)) (fun _ _ _ h => h) (Or.inl ⟨by rfl, ?_⟩) ?_ ?_
               rotate_left
               ·
                intro w'
                go_simp
                with_reducible rfl
               rotate_left
               ·
                simp only [Act.put, List.setIfInBounds_toArray, List.set_cons_zero, List.set_cons_succ, i64_w, i32_w]
                rfl
               refine pure_ (i := 21) (N := some 45) (v := ?_) (a' := ?_) #[true, true, false, true, true, false, false, true, true, true, false, false, true, true, true, false, false, true, true, true, true, true, false, false, false, true, false, false, false, true, false, false, false, false] rfl rfl (any_of HT_.out (by kernel_rfl)) (fun _ _ _ h => h) (Or.inl ⟨by rfl, ?_⟩) ?_ ?_
               rotate_left
               ·
                intro w'
                go_simp
                with_reducible rfl
               rotate_left
               ·
                simp only [Act.put, List.setIfInBounds_toArray, List.set_cons_zero, List.set_cons_succ, i64_w, i32_w]
                rfl
               refine pure_ (i := 22) (N := some 46) (v := ?_) (a' := ?_) #[true, true, false, true, true, false, false, true, true, true, false, false, true, true, true, false, false, true, true, true, true, true, true, false, false, true, false, false, false, true, false, false, false, false] rfl rfl (any_of HT_.out (by kernel_rfl)) (fun _ _ _ h => h) (Or.inl ⟨by rfl, ?_⟩) ?_ ?_
               rotate_left
               ·
                intro w'
                go_simp
                with_reducible rfl
               rotate_left
               ·
                simp only [Act.put, List.setIfInBounds_toArray, List.set_cons_zero, List.set_cons_succ, i64_w, i32_w]
                rfl
               refine take_ (i := 26) (N := some 50) (v := ?_) (a' := ?_) #[true, true, false, true, true, false, false, true, true, true, false, false, true, true, true, false, false, true, true, true, true, true, true, false, false, true, true, false, false, true, false, false, false, false] rfl rfl (take_ofW HT_.out HW_.out (by kernel_rfl)) (fun _ _ _ h => h) (Or.inl ⟨by rfl, ?_⟩) hHeld ?_ ?_
               rotate_left
               ·
                rintro w' ⟨s0, s1, s2, s3, s4, s5, s6⟩
                go_simp
                with_reducible rfl
               rotate_left
               ·
                simp only [Act.put, List.setIfInBounds_toArray, List.set_cons_zero, List.set_cons_succ, i64_w, i32_w]
                rfl
               refine take_ (i := 30) (N := some 54) (v := ?_) (a' := ?_) #[true, true, false, true, true, false, false, true, true, true, false, false, true, true, true, false, false, true, true, true, true, true, true, false, false, true, true, false, false, true, true, false, false, false] rfl rfl (take_ofW HT_.out HW_.out (by kernel_rfl)) (fun _ _ _ h => h) (Or.inl ⟨by rfl, ?_⟩) hHeld ?_ ?_
               rotate_left
               ·
                rintro w' ⟨s0, s1, s2, s3, s4, s5, s6⟩
                go_simp
                with_reducible rfl
               rotate_left
               ·
                simp only [Act.put, List.setIfInBounds_toArray, List.set_cons_zero, List.set_cons_succ, i64_w, i32_w]
                rfl
               refine one_ (i := 2) (N := some 26) #[true, true, true, true, true, false, false, true, true, true, false, false, true, true, true, false, false, true, true, true, true, true, true, false, false, true, true, false, false, true, true, false, false, false] rfl rfl (one_of HT_.out (by kernel_rfl)) (by decide) (fun K hK => ?_)
               refine goes_ Try.func45 (by kernel_rfl) rfl #[.int .i64 a2_0, .int .i64 2] (by rfl) rfl rfl (by (try simp only [List.map_toArray, List.map_cons, List.map_nil]); first | done | rfl | (simp only [List.length_drop, List.length_take]; rfl)) ?_
               with_reducible refine (rampartref01_Big.calls k a2_0 2 t176 _ A12.out).mono ?_
               rintro e w38 ⟨rfl, hb⟩
               refine ⟨_, rfl, ?_⟩
               have n0_ := Aside0.mk (blk_below (g := gb174) (o := .cells #[.int .i64 a2_0, .int .i64 a2_1, .int .u32 a2_2, .int .u32 a2_3, .int .i64 a2_4, .int .i64 a2_5, .string a2_6] 42 (0, 0)) (by (with_reducible repeat (first | refine blk_drewN ?_ _ | refine blk_drew ?_ | refine blk_alloc ?_ _)); exact BK174.out) hb)
               have n1_ := Aside0.mk (below_step (by repeat (first | (with_reducible first | exact HB.out | apply below_alloc | apply pw_below_drewN | apply below_drew1 | refine below_set ?_ GE174.out) | exact HB.out)) hb)
               clear BK174
               clear HB
               have BK174 := n0_
               have HB := n1_
               clear n0_ n1_
               (try clear hb)
               (try clear hb2)
               (try clear hk)
               (try clear hi)
               refine hK.out _ _ ⟨(blk_cell BK174.out 0).trans rfl, (blk_cell BK174.out 1).trans rfl, (blk_cell BK174.out 2).trans rfl, (blk_cell BK174.out 3).trans rfl, (blk_cell BK174.out 4).trans rfl, (blk_cell BK174.out 5).trans rfl, (blk_cell BK174.out 6).trans rfl⟩ (fun hHeld => ?_)
               clear hK K
               refine norm_ (a' := ?_) ?_ ?_
               rotate_left
               ·
                show Act.put _ (some 26) _ = _
                simp only [Act.put, List.setIfInBounds_toArray, List.set_cons_zero, List.set_cons_succ, i64_w, i32_w]
                rfl
               refine one_ (i := 5) (N := some 29) #[true, true, true, true, true, true, false, true, true, true, false, false, true, true, true, false, false, true, true, true, true, true, true, false, false, true, true, false, false, true, true, false, false, false] rfl rfl (one_of HT_.out (by kernel_rfl)) (by decide) (fun K hK => ?_)
               refine goes_ Try.func45 (by kernel_rfl) rfl #[.int .i64 a2_1, .int .i64 2] (by rfl) rfl rfl (by (try simp only [List.map_toArray, List.map_cons, List.map_nil]); first | done | rfl | (simp only [List.length_drop, List.length_take]; rfl)) ?_
               with_reducible refine (rampartref01_Big.calls k a2_1 2 t177 _ A13.out).mono ?_
               rintro e w39 ⟨rfl, hb⟩
               refine ⟨_, rfl, ?_⟩
               have n0_ := Aside0.mk (blk_below (g := gb174) (o := .cells #[.int .i64 a2_0, .int .i64 a2_1, .int .u32 a2_2, .int .u32 a2_3, .int .i64 a2_4, .int .i64 a2_5, .string a2_6] 42 (0, 0)) (by (with_reducible repeat (first | refine blk_drewN ?_ _ | refine blk_drew ?_ | refine blk_alloc ?_ _)); exact BK174.out) hb)
               have n1_ := Aside0.mk (below_step (by repeat (first | (with_reducible first | exact HB.out | apply below_alloc | apply pw_below_drewN | apply below_drew1 | refine below_set ?_ GE174.out) | exact HB.out)) hb)
               clear BK174
               clear HB
               have BK174 := n0_
               have HB := n1_
               clear n0_ n1_
               (try clear hb)
               (try clear hb2)
               (try clear hk)
               (try clear hi)
               refine hK.out _ _ ⟨(blk_cell BK174.out 0).trans rfl, (blk_cell BK174.out 1).trans rfl, (blk_cell BK174.out 2).trans rfl, (blk_cell BK174.out 3).trans rfl, (blk_cell BK174.out 4).trans rfl, (blk_cell BK174.out 5).trans rfl, (blk_cell BK174.out 6).trans rfl⟩ (fun hHeld => ?_)
               clear hK K
               refine norm_ (a' := ?_) ?_ ?_
               rotate_left
               ·
                show Act.put _ (some 29) _ = _
                simp only [Act.put, List.setIfInBounds_toArray, List.set_cons_zero, List.set_cons_succ, i64_w, i32_w]
                rfl
               refine pure_ (i := 6) (N := some 30) (v := ?_) (a' := ?_) #[true, true, true, true, true, true, true, true, true, true, false, false, true, true, true, false, false, true, true, true, true, true, true, false, false, true, true, false, false, true, true, false, false, false] rfl rfl (any_of HT_.out (by kernel_rfl)) (fun _ _ _ h => h) (Or.inl ⟨by rfl, ?_⟩) ?_ ?_
               rotate_left
               ·
                intro w'
                go_simp
                with_reducible rfl
               rotate_left
               ·
                simp only [Act.put, List.setIfInBounds_toArray, List.set_cons_zero, List.set_cons_succ, i64_w, i32_w]
                rfl
               refine one_ (i := 10) (N := some 34) #[true, true, true, true, true, true, true, true, true, true, true, false, true, true, true, false, false, true, true, true, true, true, true, false, false, true, true, false, false, true, true, false, false, false] rfl rfl (one_of HT_.out (by kernel_rfl)) (by decide) (fun K hK => ?_)
               refine goes_ Try.func45 (by kernel_rfl) rfl #[.int .i64 (wrap64 (a2_2)), .int .i64 4] (by rfl) rfl rfl (by (try simp only [List.map_toArray, List.map_cons, List.map_nil]); first | done | rfl | (simp only [List.length_drop, List.length_take]; rfl)) ?_
               with_reducible refine (rampartref01_Big.calls k (wrap64 (a2_2)) 4 t178 _ A15.out).mono ?_
               rintro e w40 ⟨rfl, hb⟩
               refine ⟨_, rfl, ?_⟩
               have n0_ := Aside0.mk (blk_below (g := gb174) (o := .cells #[.int .i64 a2_0, .int .i64 a2_1, .int .u32 a2_2, .int .u32 a2_3, .int .i64 a2_4, .int .i64 a2_5, .string a2_6] 42 (0, 0)) (by (with_reducible repeat (first | refine blk_drewN ?_ _ | refine blk_drew ?_ | refine blk_alloc ?_ _)); exact BK174.out) hb)
               have n1_ := Aside0.mk (below_step (by repeat (first | (with_reducible first | exact HB.out | apply below_alloc | apply pw_below_drewN | apply below_drew1 | refine below_set ?_ GE174.out) | exact HB.out)) hb)
               clear BK174
               clear HB
               have BK174 := n0_
               have HB := n1_
               clear n0_ n1_
               (try clear hb)
               (try clear hb2)
               (try clear hk)
               (try clear hi)
               refine hK.out _ _ ⟨(blk_cell BK174.out 0).trans rfl, (blk_cell BK174.out 1).trans rfl, (blk_cell BK174.out 2).trans rfl, (blk_cell BK174.out 3).trans rfl, (blk_cell BK174.out 4).trans rfl, (blk_cell BK174.out 5).trans rfl, (blk_cell BK174.out 6).trans rfl⟩ (fun hHeld => ?_)
               clear hK K
               refine norm_ (a' := ?_) ?_ ?_
               rotate_left
               ·
                show Act.put _ (some 34) _ = _
                simp only [Act.put, List.setIfInBounds_toArray, List.set_cons_zero, List.set_cons_succ, i64_w, i32_w]
                rfl
               refine pure_ (i := 11) (N := some 35) (v := ?_) (a' := ?_) #[true, true, true, true, true, true, true, true, true, true, true, true, true, true, true, false, false, true, true, true, true, true, true, false, false, true, true, false, false, true, true, false, false, false] rfl rfl (any_of HT_.out (by kernel_rfl)) (fun _ _ _ h => h) (Or.inl ⟨by rfl, ?_⟩) ?_ ?_
               rotate_left
               ·
                intro w'
                go_simp
                with_reducible rfl
               rotate_left
               ·
                simp only [Act.put, List.setIfInBounds_toArray, List.set_cons_zero, List.set_cons_succ, i64_w, i32_w]
                rfl
               refine one_ (i := 15) (N := some 39) #[true, true, true, true, true, true, true, true, true, true, true, true, true, true, true, true, false, true, true, true, true, true, true, false, false, true, true, false, false, true, true, false, false, false] rfl rfl (one_of HT_.out (by kernel_rfl)) (by decide) (fun K hK => ?_)
               refine goes_ Try.func45 (by kernel_rfl) rfl #[.int .i64 (wrap64 (a2_3)), .int .i64 4] (by rfl) rfl rfl (by (try simp only [List.map_toArray, List.map_cons, List.map_nil]); first | done | rfl | (simp only [List.length_drop, List.length_take]; rfl)) ?_
               with_reducible refine (rampartref01_Big.calls k (wrap64 (a2_3)) 4 t179 _ A17.out).mono ?_
               rintro e w41 ⟨rfl, hb⟩
               refine ⟨_, rfl, ?_⟩
               have n0_ := Aside0.mk (blk_below (g := gb174) (o := .cells #[.int .i64 a2_0, .int .i64 a2_1, .int .u32 a2_2, .int .u32 a2_3, .int .i64 a2_4, .int .i64 a2_5, .string a2_6] 42 (0, 0)) (by (with_reducible repeat (first | refine blk_drewN ?_ _ | refine blk_drew ?_ | refine blk_alloc ?_ _)); exact BK174.out) hb)
               have n1_ := Aside0.mk (below_step (by repeat (first | (with_reducible first | exact HB.out | apply below_alloc | apply pw_below_drewN | apply below_drew1 | refine below_set ?_ GE174.out) | exact HB.out)) hb)
               clear BK174
               clear HB
               have BK174 := n0_
               have HB := n1_
               clear n0_ n1_
               (try clear hb)
               (try clear hb2)
               (try clear hk)
               (try clear hi)
               refine hK.out _ _ ⟨(blk_cell BK174.out 0).trans rfl, (blk_cell BK174.out 1).trans rfl, (blk_cell BK174.out 2).trans rfl, (blk_cell BK174.out 3).trans rfl, (blk_cell BK174.out 4).trans rfl, (blk_cell BK174.out 5).trans rfl, (blk_cell BK174.out 6).trans rfl⟩ (fun hHeld => ?_)
               clear hK K
               refine norm_ (a' := ?_) ?_ ?_
               rotate_left
               ·
                show Act.put _ (some 39) _ = _
                simp only [Act.put, List.setIfInBounds_toArray, List.set_cons_zero, List.set_cons_succ, i64_w, i32_w]
                rfl
               refine pure_ (i := 16) (N := some 40) (v := ?_) (a' := ?_) #[true, true, true, true, true, true, true, true, true, true, true, true, true, true, true, true, true, true, true, true, true, true, true, false, false, true, true, false, false, true, true, false, false, false] rfl rfl (any_of HT_.out (by kernel_rfl)) (fun _ _ _ h => h) (Or.inl ⟨by rfl, ?_⟩) ?_ ?_
               rotate_left
               ·
                intro w'
                go_simp
                with_reducible rfl
               rotate_left
               ·
                simp only [Act.put, List.setIfInBounds_toArray, List.set_cons_zero, List.set_cons_succ, i64_w, i32_w]
                rfl
               refine one_ (i := 23) (N := some 47) #[true, true, true, true, true, true, true, true, true, true, true, true, true, true, true, true, true, true, true, true, true, true, true, true, false, true, true, false, false, true, true, false, false, false] rfl rfl (one_of HT_.out (by kernel_rfl)) (by decide) (fun K hK => ?_)
               refine goes_ Try.func45 (by kernel_rfl) rfl #[.int .i64 (wrap64 ((wrap64 (Int.tdiv (wrap64 (20 + (a2_6.size : Int))) 4)) * 16)), .int .i64 1] (by rfl) rfl rfl (by (try simp only [List.map_toArray, List.map_cons, List.map_nil]); first | done | rfl | (simp only [List.length_drop, List.length_take]; rfl)) ?_
               with_reducible refine (rampartref01_Big.calls k (wrap64 ((wrap64 (Int.tdiv (wrap64 (20 + (a2_6.size : Int))) 4)) * 16)) 1 t180 _ A19.out).mono ?_
               rintro e w42 ⟨rfl, hb⟩
               refine ⟨_, rfl, ?_⟩
               have n0_ := Aside0.mk (blk_below (g := gb174) (o := .cells #[.int .i64 a2_0, .int .i64 a2_1, .int .u32 a2_2, .int .u32 a2_3, .int .i64 a2_4, .int .i64 a2_5, .string a2_6] 42 (0, 0)) (by (with_reducible repeat (first | refine blk_drewN ?_ _ | refine blk_drew ?_ | refine blk_alloc ?_ _)); exact BK174.out) hb)
               have n1_ := Aside0.mk (below_step (by repeat (first | (with_reducible first | exact HB.out | apply below_alloc | apply pw_below_drewN | apply below_drew1 | refine below_set ?_ GE174.out) | exact HB.out)) hb)
               clear BK174
               clear HB
               have BK174 := n0_
               have HB := n1_
               clear n0_ n1_
               (try clear hb)
               (try clear hb2)
               (try clear hk)
               (try clear hi)
               refine hK.out _ _ ⟨(blk_cell BK174.out 0).trans rfl, (blk_cell BK174.out 1).trans rfl, (blk_cell BK174.out 2).trans rfl, (blk_cell BK174.out 3).trans rfl, (blk_cell BK174.out 4).trans rfl, (blk_cell BK174.out 5).trans rfl, (blk_cell BK174.out 6).trans rfl⟩ (fun hHeld => ?_)
               clear hK K
               refine norm_ (a' := ?_) ?_ ?_
               rotate_left
               ·
                show Act.put _ (some 47) _ = _
                simp only [Act.put, List.setIfInBounds_toArray, List.set_cons_zero, List.set_cons_succ, i64_w, i32_w]
                rfl
               refine pure_ (i := 24) (N := some 48) (v := ?_) (a' := ?_) #[true, true, true, true, true, true, true, true, true, true, true, true, true, true, true, true, true, true, true, true, true, true, true, true, true, true, true, false, false, true, true, false, false, false] rfl rfl (any_of HT_.out (by kernel_rfl)) (fun _ _ _ h => h) (Or.inl ⟨by rfl, ?_⟩) ?_ ?_
               rotate_left
               ·
                intro w'
                go_simp
                with_reducible rfl
               rotate_left
               ·
                simp only [Act.put, List.setIfInBounds_toArray, List.set_cons_zero, List.set_cons_succ, i64_w, i32_w]
                rfl
               refine one_ (i := 27) (N := some 51) #[true, true, true, true, true, true, true, true, true, true, true, true, true, true, true, true, true, true, true, true, true, true, true, true, true, true, true, true, false, true, true, false, false, false] rfl rfl (one_of HT_.out (by kernel_rfl)) (by decide) (fun K hK => ?_)
               refine goes_ Try.func45 (by kernel_rfl) rfl #[.int .i64 a2_4, .int .i64 1] (by rfl) rfl rfl (by (try simp only [List.map_toArray, List.map_cons, List.map_nil]); first | done | rfl | (simp only [List.length_drop, List.length_take]; rfl)) ?_
               with_reducible refine (rampartref01_Big.calls k a2_4 1 t181 _ A21.out).mono ?_
               rintro e w43 ⟨rfl, hb⟩
               refine ⟨_, rfl, ?_⟩
               have n0_ := Aside0.mk (blk_below (g := gb174) (o := .cells #[.int .i64 a2_0, .int .i64 a2_1, .int .u32 a2_2, .int .u32 a2_3, .int .i64 a2_4, .int .i64 a2_5, .string a2_6] 42 (0, 0)) (by (with_reducible repeat (first | refine blk_drewN ?_ _ | refine blk_drew ?_ | refine blk_alloc ?_ _)); exact BK174.out) hb)
               have n1_ := Aside0.mk (below_step (by repeat (first | (with_reducible first | exact HB.out | apply below_alloc | apply pw_below_drewN | apply below_drew1 | refine below_set ?_ GE174.out) | exact HB.out)) hb)
               clear BK174
               clear HB
               have BK174 := n0_
               have HB := n1_
               clear n0_ n1_
               (try clear hb)
               (try clear hb2)
               (try clear hk)
               (try clear hi)
               refine hK.out _ _ ⟨(blk_cell BK174.out 0).trans rfl, (blk_cell BK174.out 1).trans rfl, (blk_cell BK174.out 2).trans rfl, (blk_cell BK174.out 3).trans rfl, (blk_cell BK174.out 4).trans rfl, (blk_cell BK174.out 5).trans rfl, (blk_cell BK174.out 6).trans rfl⟩ (fun hHeld => ?_)
               clear hK K
               refine norm_ (a' := ?_) ?_ ?_
               rotate_left
               ·
                show Act.put _ (some 51) _ = _
                simp only [Act.put, List.setIfInBounds_toArray, List.set_cons_zero, List.set_cons_succ, i64_w, i32_w]
                rfl
               refine pure_ (i := 28) (N := some 52) (v := ?_) (a' := ?_) #[true, true, true, true, true, true, true, true, true, true, true, true, true, true, true, true, true, true, true, true, true, true, true, true, true, true, true, true, true, true, true, false, false, false] rfl rfl (any_of HT_.out (by kernel_rfl)) (fun _ _ _ h => h) (Or.inl ⟨by rfl, ?_⟩) ?_ ?_
               rotate_left
               ·
                intro w'
                go_simp
                with_reducible rfl
               rotate_left
               ·
                simp only [Act.put, List.setIfInBounds_toArray, List.set_cons_zero, List.set_cons_succ, i64_w, i32_w]
                rfl
               refine one_ (i := 31) (N := some 55) #[true, true, true, true, true, true, true, true, true, true, true, true, true, true, true, true, true, true, true, true, true, true, true, true, true, true, true, true, true, true, true, true, false, false] rfl rfl (one_of HT_.out (by kernel_rfl)) (by decide) (fun K hK => ?_)
               refine goes_ Try.func45 (by kernel_rfl) rfl #[.int .i64 a2_5, .int .i64 2] (by rfl) rfl rfl (by (try simp only [List.map_toArray, List.map_cons, List.map_nil]); first | done | rfl | (simp only [List.length_drop, List.length_take]; rfl)) ?_
               with_reducible refine (rampartref01_Big.calls k a2_5 2 t182 _ A23.out).mono ?_
               rintro e w44 ⟨rfl, hb⟩
               refine ⟨_, rfl, ?_⟩
               have n0_ := Aside0.mk (blk_below (g := gb174) (o := .cells #[.int .i64 a2_0, .int .i64 a2_1, .int .u32 a2_2, .int .u32 a2_3, .int .i64 a2_4, .int .i64 a2_5, .string a2_6] 42 (0, 0)) (by (with_reducible repeat (first | refine blk_drewN ?_ _ | refine blk_drew ?_ | refine blk_alloc ?_ _)); exact BK174.out) hb)
               have n1_ := Aside0.mk (below_step (by repeat (first | (with_reducible first | exact HB.out | apply below_alloc | apply pw_below_drewN | apply below_drew1 | refine below_set ?_ GE174.out) | exact HB.out)) hb)
               clear BK174
               clear HB
               have BK174 := n0_
               have HB := n1_
               clear n0_ n1_
               (try clear hb)
               (try clear hb2)
               (try clear hk)
               (try clear hi)
               refine hK.out _ _ ⟨(blk_cell BK174.out 0).trans rfl, (blk_cell BK174.out 1).trans rfl, (blk_cell BK174.out 2).trans rfl, (blk_cell BK174.out 3).trans rfl, (blk_cell BK174.out 4).trans rfl, (blk_cell BK174.out 5).trans rfl, (blk_cell BK174.out 6).trans rfl⟩ (fun hHeld => ?_)
               clear hK K
               refine norm_ (a' := ?_) ?_ ?_
               rotate_left
               ·
                show Act.put _ (some 55) _ = _
                simp only [Act.put, List.setIfInBounds_toArray, List.set_cons_zero, List.set_cons_succ, i64_w, i32_w]
                rfl
               refine pure_ (i := 32) (N := some 56) (v := ?_) (a' := ?_) #[true, true, true, true, true, true, true, true, true, true, true, true, true, true, true, true, true, true, true, true, true, true, true, true, true, true, true, true, true, true, true, true, true, false] rfl rfl (any_of HT_.out (by kernel_rfl)) (fun _ _ _ h => h) (Or.inl ⟨by rfl, ?_⟩) ?_ ?_
               rotate_left
               ·
                intro w'
                go_simp
                with_reducible rfl
               rotate_left
               ·
                simp only [Act.put, List.setIfInBounds_toArray, List.set_cons_zero, List.set_cons_succ, i64_w, i32_w]
                rfl
               refine pure_ (i := 33) (N := some 10) (v := ?_) (a' := ?_) #[true, true, true, true, true, true, true, true, true, true, true, true, true, true, true, true, true, true, true, true, true, true, true, true, true, true, true, true, true, true, true, true, true, true] rfl rfl (any_of HT_.out (by kernel_rfl)) (fun _ _ _ h => h) (Or.inl ⟨by rfl, ?_⟩) ?_ ?_
               rotate_left
               ·
                intro w'
                go_simp
                with_reducible rfl
               rotate_left
               ·
                simp only [Act.put, List.setIfInBounds_toArray, List.set_cons_zero, List.set_cons_succ, i64_w, i32_w]
                rfl
               refine done_ (done_of HT_.out (by kernel_rfl)) ?_
               have hcz45_0 : w44.cell? ⟨gb174, 0, none⟩ = some (.int .i64 a2_0) := (blk_cell BK174.out 0).trans rfl
               have hcz45_1 : w44.cell? ⟨gb174, 1, none⟩ = some (.int .i64 a2_1) := (blk_cell BK174.out 1).trans rfl
               have hcz45_2 : w44.cell? ⟨gb174, 2, none⟩ = some (.int .u32 a2_2) := (blk_cell BK174.out 2).trans rfl
               have hcz45_3 : w44.cell? ⟨gb174, 3, none⟩ = some (.int .u32 a2_3) := (blk_cell BK174.out 3).trans rfl
               have hcz45_4 : w44.cell? ⟨gb174, 4, none⟩ = some (.int .i64 a2_4) := (blk_cell BK174.out 4).trans rfl
               have hcz45_5 : w44.cell? ⟨gb174, 5, none⟩ = some (.int .i64 a2_5) := (blk_cell BK174.out 5).trans rfl
               have hcz45_6 : w44.cell? ⟨gb174, 6, none⟩ = some (.string a2_6) := (blk_cell BK174.out 6).trans rfl
               have hfz45_0 := blk_frozen BK174.out 0
               have hfz45_1 := blk_frozen BK174.out 1
               have hfz45_2 := blk_frozen BK174.out 2
               have hfz45_3 := blk_frozen BK174.out 3
               have hfz45_4 := blk_frozen BK174.out 4
               have hfz45_5 := blk_frozen BK174.out 5
               have hfz45_6 := blk_frozen BK174.out 6
               try go_wp2_with (first | ((with_reducible refine gate_callee (f := 55) rfl ?_); refine goesL_ (some 69) rfl rfl Try.func55 (by kernel_rfl) rfl #[.int .u32 a0, .int .u32 a1, .int .i64 6, .string ((((((((t176 ++ t177) ++ t178) ++ t179) ++ t180) ++ t181) ++ t182) ++ (⟨#[0, 0]⟩ : ByteArray)) ++ (((⟨#[0, 0]⟩ : ByteArray) ++ a2_6) ++ a3))] rfl (by (try simp only [List.map_toArray, List.map_cons, List.map_nil]); first | done | rfl | (simp only [List.length_drop, List.length_take]; rfl)) ?_; (with_reducible refine (rampartref04_Sum.calls k a0 a1 6 ((((((((t176 ++ t177) ++ t178) ++ t179) ++ t180) ++ t181) ++ t182) ++ (⟨#[0, 0]⟩ : ByteArray)) ++ (((⟨#[0, 0]⟩ : ByteArray) ++ a2_6) ++ a3)) t183 _ A29.out).mono ?_); rintro e w46 ⟨rfl, hb⟩; refine ⟨_, rfl, ?_⟩; have n0_ := Aside0.mk (blk_below (g := gb174) (o := .cells #[.int .i64 a2_0, .int .i64 a2_1, .int .u32 a2_2, .int .u32 a2_3, .int .i64 a2_4, .int .i64 a2_5, .string a2_6] 42 (0, 0)) (by (with_reducible repeat (first | refine blk_drewN ?_ _ | refine blk_drew ?_ | refine blk_alloc ?_ _)); exact BK174.out) hb); have n1_ := Aside0.mk (below_step (by repeat (first | (with_reducible first | exact HB.out | apply below_alloc | apply pw_below_drewN | apply below_drew1 | refine below_set ?_ GE174.out) | exact HB.out)) hb); clear BK174; clear HB; have BK174 := n0_; have HB := n1_; clear n0_ n1_; (try clear hb); (try clear hb2); (try clear hk); (try clear hi)) | ((with_reducible refine gate_callee (f := 45) rfl ?_); refine goesL_ (some 70) rfl rfl Try.func45 (by kernel_rfl) rfl #[.int .i64 t183, .int .i64 2] rfl (by (try simp only [List.map_toArray, List.map_cons, List.map_nil]); first | done | rfl | (simp only [List.length_drop, List.length_take]; rfl)) ?_; (with_reducible refine (rampartref01_Big.calls k t183 2 t184 _ A30.out).mono ?_); rintro e w47 ⟨rfl, hb⟩; refine ⟨_, rfl, ?_⟩; have n0_ := Aside0.mk (blk_below (g := gb174) (o := .cells #[.int .i64 a2_0, .int .i64 a2_1, .int .u32 a2_2, .int .u32 a2_3, .int .i64 a2_4, .int .i64 a2_5, .string a2_6] 42 (0, 0)) (by (with_reducible repeat (first | refine blk_drewN ?_ _ | refine blk_drew ?_ | refine blk_alloc ?_ _)); exact BK174.out) hb); have n1_ := Aside0.mk (below_step (by repeat (first | (with_reducible first | exact HB.out | apply below_alloc | apply pw_below_drewN | apply below_drew1 | refine below_set ?_ GE174.out) | exact HB.out)) hb); clear BK174; clear HB; have BK174 := n0_; have HB := n1_; clear n0_ n1_; (try clear hb); (try clear hb2); (try clear hk); (try clear hi)))
               go_ret2
               exact ⟨by first | rfl | (simp [errW_none, errW_some] <;> rfl) | (simp [*, errW_none, errW_some] <;> rfl), by repeat (first | (with_reducible first | exact HB.out | apply below_alloc | apply pw_below_drewN | apply below_drew1 | refine below_set ?_ GE174.out) | exact HB.out)⟩
              ·
               rw [if_neg c32] at H
               exact absurd H (by simp)
             ·
              rw [if_neg c31] at H
              exact absurd H (by simp)
            ·
             rw [if_neg c28] at H
             exact absurd H (by simp)
           ·
            rw [if_neg c27] at H
            exact absurd H (by simp)
          ·
           rw [if_neg c26] at H
           exact absurd H (by simp)
         ·
          rw [if_neg c25] at H
          exact absurd H (by simp)
        ·
         rw [if_neg c24] at H
         exact absurd H (by simp)
       ·
        rw [if_neg c22] at H
        exact absurd H (by simp)
      ·
       rw [if_neg c20] at H
       exact absurd H (by simp)
     ·
      rw [if_neg c18] at H
      exact absurd H (by simp)
    ·
     rw [if_neg c16] at H
     exact absurd H (by simp)
   ·
    rw [if_neg c14] at H
    exact absurd H (by simp)
 ·
  replace c6 := Bool.eq_false_iff.mpr c6
  subst c6
  have H1 : (some ((⟨#[]⟩ : ByteArray), 1)) = some (r1, r2) := by rw [if_neg (show ¬ (false = true) by decide)] at H; exact H
  clear H
  have H := H1
  clear H1
  simp only [Option.some.injEq, Prod.mk.injEq] at H
  obtain ⟨rfl, rfl⟩ := H
  (try have c7w_ : decide (1980 - (a2_6.size : Int) < (a3.size : Int)) = false := by (have e_ : wrap64 (1980 - (a2_6.size : Int)) = 1980 - (a2_6.size : Int) := by (unfold wrap64; omega)); rw [← e_]; exact c7b0)
  go_enter Try.func26, Try.ntmps26
  go_wp2_with (first | ((with_reducible refine gate_dst (N := 6) rfl ?_); refine box_event ?hg (N := 6) ?hd (cs := #[.int .i64 a2_0, .int .i64 a2_1, .int .u32 a2_2, .int .u32 a2_3, .int .i64 a2_4, .int .i64 a2_5, .string a2_6]) (t := 42) ?hr ?_; (case hd => rfl); (case hg => rfl); (case hr => first | (go_simp; done) | (go_simp; rfl)); intro gb174 hg w48 hbox hb; have n0_ := Aside0.mk (below_step (by repeat (first | (with_reducible first | exact HB.out | apply below_alloc | apply pw_below_drewN | apply below_drew1) | exact HB.out)) hb); have n1_ := Aside0.mk (hbox); have n2_ := Aside0.mk ((by rw [hg]; exact (below_size (by repeat (first | (with_reducible first | exact HB.out | apply below_alloc | apply pw_below_drewN | apply below_drew1) | exact HB.out))) : w.heap.size ≤ gb174)); have n3_ := Aside0.mk ((by rw [hg]; exact (below_size (by repeat (first | (with_reducible first | exact HB.out | apply below_alloc | apply pw_below_drewN | apply below_drew1) | exact HB.out))) : w.heap.size ≤ gb174)); clear HB; have HB := n0_; have BK174 := n1_; have GW174 := n2_; have GE174 := n3_; clear n0_ n1_ n2_ n3_; clear hb hbox hg; have hcz49_0 : w48.cell? ⟨gb174, 0, none⟩ = some (.int .i64 a2_0) := (blk_cell BK174.out 0).trans rfl; have hcz49_1 : w48.cell? ⟨gb174, 1, none⟩ = some (.int .i64 a2_1) := (blk_cell BK174.out 1).trans rfl; have hcz49_2 : w48.cell? ⟨gb174, 2, none⟩ = some (.int .u32 a2_2) := (blk_cell BK174.out 2).trans rfl; have hcz49_3 : w48.cell? ⟨gb174, 3, none⟩ = some (.int .u32 a2_3) := (blk_cell BK174.out 3).trans rfl; have hcz49_4 : w48.cell? ⟨gb174, 4, none⟩ = some (.int .i64 a2_4) := (blk_cell BK174.out 4).trans rfl; have hcz49_5 : w48.cell? ⟨gb174, 5, none⟩ = some (.int .i64 a2_5) := (blk_cell BK174.out 5).trans rfl; have hcz49_6 : w48.cell? ⟨gb174, 6, none⟩ = some (.string a2_6) := (blk_cell BK174.out 6).trans rfl; have hfz49_0 := blk_frozen BK174.out 0; have hfz49_1 := blk_frozen BK174.out 1; have hfz49_2 := blk_frozen BK174.out 2; have hfz49_3 := blk_frozen BK174.out 3; have hfz49_4 := blk_frozen BK174.out 4; have hfz49_5 := blk_frozen BK174.out 5; have hfz49_6 := blk_frozen BK174.out 6) | ((with_reducible refine gate_callee (f := 30) rfl ?_); refine goesL_ (some 14) rfl rfl Try.func30 (by kernel_rfl) rfl #[.agg #[.int .i64 a2_0, .int .i64 a2_1, .int .u32 a2_2, .int .u32 a2_3, .int .i64 a2_4, .int .i64 a2_5, .string a2_6]] rfl (by (try simp only [List.map_toArray, List.map_cons, List.map_nil]); first | done | rfl | (simp only [List.length_drop, List.length_take]; rfl)) ?_; (with_reducible refine (rampartref04_Check.calls a2_0 a2_1 a2_2 a2_3 a2_4 a2_5 a2_6 false _ A5.out).mono ?_); rintro e w50 ⟨rfl, hb⟩; refine ⟨_, rfl, ?_⟩; have n0_ := Aside0.mk (blk_below (g := gb174) (o := .cells #[.int .i64 a2_0, .int .i64 a2_1, .int .u32 a2_2, .int .u32 a2_3, .int .i64 a2_4, .int .i64 a2_5, .string a2_6] 42 (0, 0)) (by (with_reducible repeat (first | refine blk_drewN ?_ _ | refine blk_drew ?_ | refine blk_alloc ?_ _)); exact BK174.out) hb); have n1_ := Aside0.mk (below_step (by repeat (first | (with_reducible first | exact HB.out | apply below_alloc | apply pw_below_drewN | apply below_drew1 | refine below_set ?_ GE174.out) | exact HB.out)) hb); clear BK174; clear HB; have BK174 := n0_; have HB := n1_; clear n0_ n1_; (try clear hb); (try clear hb2); (try clear hk); (try clear hi)))
  go_ret2
  exact ⟨by first | rfl | (simp [errW_none, errW_some] <;> rfl) | (simp [*, errW_none, errW_some] <;> rfl), by repeat (first | (with_reducible first | exact HB.out | apply below_alloc | apply pw_below_drewN | apply below_drew1 | refine below_set ?_ GE174.out) | exact HB.out)⟩

end Go.Proofs.Ytgolimfljndnmaa.HT
