/- What is proved: each Go function of this text answers as the plain Lean function beside it (a law: its given row, out of the plain statement). Conditions: those that stand in each theorem. Written by my drive.py, which calls the printer of the kit for what that covers. -/
import Derived.Test.YtchjfgdcldaacaaHGx0
import Derived.Test.YtchjfgdcldaacaaHGx2
import Derived.Test.YtchjfgdcldaacaaHGx5
namespace Go.Proofs.Ytchjfgdcldaacaa.HG
open Go.RowKit Go.Proofs.YtchjfgdcldaacaaW.PrintWords Go.Proofs.YtchjfgdcldaacaaW.PrintLast Go.Proofs.YtchjfgdcldaacaaW.PrintMore
attribute [local go_sem] max2_int min2_int max_two min_two max_three min_three max_four min_four   -- for this text's walks alone
set_option linter.unusedVariables false
set_option linter.unusedSimpArgs false

/-! ### eth_Put: function 21 -/
theorem six_back (o : Nat) {w : World} {g : Nat} {x0 x1 x2 x3 x4 x5 : Int} (ok : okSix x0 x1 x2 x3 x4 x5) (h0 : w.cell? ⟨g, o, none⟩ = some (.int .u8 x0)) (h1 : w.cell? ⟨g, o + 1, none⟩ = some (.int .u8 x1)) (h2 : w.cell? ⟨g, o + 2, none⟩ = some (.int .u8 x2))
  (h3 : w.cell? ⟨g, o + 3, none⟩ = some (.int .u8 x3)) (h4 : w.cell? ⟨g, o + 4, none⟩ = some (.int .u8 x4)) (h5 : w.cell? ⟨g, o + 5, none⟩ = some (.int .u8 x5)) :
  (convert 23 9 (.slice (some ⟨g, o, none⟩) 6 6)).run Try.prog w = .ok (.string (strOfNums [x0, x1, x2, x3, x4, x5])) w := by
 obtain ⟨k0, k1, k2, k3, k4, k5⟩ := ok
 exact run_convert_bytes_back (P := Try.prog) w 23 9 5 ⟨g, o, none⟩ 6 [UInt8.ofNat x0.toNat, UInt8.ofNat x1.toNat, UInt8.ofNat x2.toNat, UInt8.ofNat x3.toNat, UInt8.ofNat x4.toNat, UInt8.ofNat x5.toNat] Try.underlying23 Try.underlying5 Try.underlying9 (fun j hj => by
  match j, hj with
  | 0, _ => exact h0.trans (by rw [show ((([UInt8.ofNat x0.toNat, UInt8.ofNat x1.toNat, UInt8.ofNat x2.toNat, UInt8.ofNat x3.toNat, UInt8.ofNat x4.toNat, UInt8.ofNat x5.toNat] : List UInt8)[0]).toNat : Int) = x0 from byte_of k0])
  | 1, _ => exact h1.trans (by rw [show ((([UInt8.ofNat x0.toNat, UInt8.ofNat x1.toNat, UInt8.ofNat x2.toNat, UInt8.ofNat x3.toNat, UInt8.ofNat x4.toNat, UInt8.ofNat x5.toNat] : List UInt8)[1]).toNat : Int) = x1 from byte_of k1])
  | 2, _ => exact h2.trans (by rw [show ((([UInt8.ofNat x0.toNat, UInt8.ofNat x1.toNat, UInt8.ofNat x2.toNat, UInt8.ofNat x3.toNat, UInt8.ofNat x4.toNat, UInt8.ofNat x5.toNat] : List UInt8)[2]).toNat : Int) = x2 from byte_of k2])
  | 3, _ => exact h3.trans (by rw [show ((([UInt8.ofNat x0.toNat, UInt8.ofNat x1.toNat, UInt8.ofNat x2.toNat, UInt8.ofNat x3.toNat, UInt8.ofNat x4.toNat, UInt8.ofNat x5.toNat] : List UInt8)[3]).toNat : Int) = x3 from byte_of k3])
  | 4, _ => exact h4.trans (by rw [show ((([UInt8.ofNat x0.toNat, UInt8.ofNat x1.toNat, UInt8.ofNat x2.toNat, UInt8.ofNat x3.toNat, UInt8.ofNat x4.toNat, UInt8.ofNat x5.toNat] : List UInt8)[4]).toNat : Int) = x4 from byte_of k4])
  | 5, _ => exact h5.trans (by rw [show ((([UInt8.ofNat x0.toNat, UInt8.ofNat x1.toNat, UInt8.ofNat x2.toNat, UInt8.ofNat x3.toNat, UInt8.ofNat x4.toNat, UInt8.ofNat x5.toNat] : List UInt8)[5]).toNat : Int) = x5 from byte_of k5]))
/-! ### eth_Put: function 21 -/
def eth_Put.f (k : Nat) (a0_0 : Int) (a0_1 : Int) (a0_2 : Int) (a0_3 : Int) (a0_4 : Int) (a0_5 : Int) (a0_6 : Int) (a0_7 : Int) (a0_8 : Int) (a0_9 : Int) (a0_10 : Int) (a0_11 : Int) (a0_12 : Int) (a1 : ByteArray) : Option (ByteArray) := if okSix a0_0 a0_1 a0_2 a0_3 a0_4 a0_5 ∧ okSix a0_6 a0_7 a0_8 a0_9 a0_10 a0_11 then (if (strOfNums [a0_0, a0_1, a0_2, a0_3, a0_4, a0_5]).size + (strOfNums [a0_6, a0_7, a0_8, a0_9, a0_10, a0_11]).size ≤ 9223372036854775807 then ((sum_Big.f k a0_12 2).bind fun t150 => (if ((strOfNums [a0_0, a0_1, a0_2, a0_3, a0_4, a0_5]) ++ (strOfNums [a0_6, a0_7, a0_8, a0_9, a0_10, a0_11])).size + t150.size ≤ 9223372036854775807 then (if (((strOfNums [a0_0, a0_1, a0_2, a0_3, a0_4, a0_5]) ++ (strOfNums [a0_6, a0_7, a0_8, a0_9, a0_10, a0_11])) ++ t150).size + a1.size ≤ 9223372036854775807 then (some ((((strOfNums [a0_0, a0_1, a0_2, a0_3, a0_4, a0_5]) ++ (strOfNums [a0_6, a0_7, a0_8, a0_9, a0_10, a0_11])) ++ t150) ++ a1)) else (none)) else (none))) else (none)) else none
theorem eth_Put.mono : ∀ a0 a1 a2 a3 a4 a5 a6 a7 a8 a9 a10 a11 a12 a13 k, LeO (eth_Put.f k a0 a1 a2 a3 a4 a5 a6 a7 a8 a9 a10 a11 a12 a13) (eth_Put.f (k + 1) a0 a1 a2 a3 a4 a5 a6 a7 a8 a9 a10 a11 a12 a13) := by
 intro a0 a1 a2 a3 a4 a5 a6 a7 a8 a9 a10 a11 a12 a13 k
 unfold eth_Put.f
 repeat' first
   | (with_reducible exact sum_Big.mono _ _ _)
   | (with_reducible exact LeO.refl _)
   | (with_reducible exact LeO.none _)
   | (with_reducible refine LeO.ite ?_ ?_)
   | (with_reducible refine LeO.bind ?_ (fun _ => ?_))
   | exact sum_Big.mono _ _ _
   | exact LeO.none _
   | refine LeO.ite ?_ ?_
   | refine LeO.bind ?_ (fun _ => ?_)
def eth_Put.T1 : Bool × List (List Nat × List Nat) := (true, [([], []), ([0], [0]), ([1], [1]), ([], []), ([3], [3]), ([4], [4]), ([2, 5], [2, 5]), ([], []), ([7], [7]), ([8], [8]), ([6, 9], [6, 9]), ([], []), ([10, 11], [10, 11]), ([12, 9, 0, 1, 2, 3, 4, 5, 6, 7, 8, 9, 10, 11, 12], [12])])
def eth_Put.B1 : List Nat := [0, 1, 3, 0, 8, 24, 63, 0, 128, 384, 1023, 0, 4095, 8191]
theorem eth_Put.tab1 : rtab .any (opsOf Try.f21 1) = eth_Put.T1 := by kernel_rfl
theorem eth_Put.bits1 : waitsOk eth_Put.T1.2 eth_Put.B1 = true := by kernel_rfl
set_option maxHeartbeats 8000000 in
set_option maxRecDepth 100000 in
theorem eth_Put.calls (k : Nat) (a0_0 : Int) (a0_1 : Int) (a0_2 : Int) (a0_3 : Int) (a0_4 : Int) (a0_5 : Int) (a0_6 : Int) (a0_7 : Int) (a0_8 : Int) (a0_9 : Int) (a0_10 : Int) (a0_11 : Int) (a0_12 : Int) (a1 : ByteArray) (r : ByteArray) (w : World) (h : eth_Put.f k a0_0 a0_1 a0_2 a0_3 a0_4 a0_5 a0_6 a0_7 a0_8 a0_9 a0_10 a0_11 a0_12 a1 = some r) :
  Calls Try.prog 21 #[.agg #[.int .u8 a0_0, .int .u8 a0_1, .int .u8 a0_2, .int .u8 a0_3, .int .u8 a0_4, .int .u8 a0_5, .int .u8 a0_6, .int .u8 a0_7, .int .u8 a0_8, .int .u8 a0_9, .int .u8 a0_10, .int .u8 a0_11, .int .i64 a0_12], .string a1] w fun e w' => e = .returned (.string r) ∧ Below w.heap.size w w' := by
 have hu26 := Try.underlying26
 have hu24 := Try.underlying24
 have HB := Aside0.mk (Below.refl w.heap.size w)
 by_cases hok_ : okSix a0_0 a0_1 a0_2 a0_3 a0_4 a0_5 ∧ okSix a0_6 a0_7 a0_8 a0_9 a0_10 a0_11
 case neg => unfold eth_Put.f at h; rw [if_neg hok_] at h; cases h
 obtain ⟨b0, hb0_⟩ : ∃ b, b = strOfNums [a0_0, a0_1, a0_2, a0_3, a0_4, a0_5] := ⟨_, rfl⟩
 obtain ⟨b1, hb1_⟩ : ∃ b, b = strOfNums [a0_6, a0_7, a0_8, a0_9, a0_10, a0_11] := ⟨_, rfl⟩
 have hu24 := Try.underlying24
 have H : (if b0.size + b1.size ≤ 9223372036854775807 then ((sum_Big.f k a0_12 2).bind fun t150 => (if (b0 ++ b1).size + t150.size ≤ 9223372036854775807 then (if ((b0 ++ b1) ++ t150).size + a1.size ≤ 9223372036854775807 then (some (((b0 ++ b1) ++ t150) ++ a1)) else (none)) else (none))) else (none)) = some r := by rw [hb0_, hb1_]; unfold eth_Put.f at h; rw [if_pos hok_] at h; exact h
 have HOK := Aside0.mk hok_
 have HB0 := Aside0.mk hb0_
 have HB1 := Aside0.mk hb1_
 clear hok_ hb0_ hb1_
 clear h
 by_cases c3 : b0.size + b1.size ≤ 9223372036854775807
 ·
  rw [if_pos c3] at H
  have c3b0 := eq_true c3
  have c3b1 : decide (b0.size + b1.size ≤ 9223372036854775807) = true := decide_eq_true c3
  try have c3b2 : (9223372036854775807 < b0.size + b1.size) = False := eq_false (Nat.not_lt.2 c3)
  replace H := Option.bind_eq_some_iff.mp H
  obtain ⟨t150, A40, H⟩ := H
  replace H : (if (b0 ++ b1).size + t150.size ≤ 9223372036854775807 then (if ((b0 ++ b1) ++ t150).size + a1.size ≤ 9223372036854775807 then (some (((b0 ++ b1) ++ t150) ++ a1)) else (none)) else (none)) = some r := H
  have A4 := Aside0.mk A40
  clear A40
  by_cases c5 : (b0 ++ b1).size + t150.size ≤ 9223372036854775807
  ·
   rw [if_pos c5] at H
   have c5b0 := eq_true c5
   have c5b1 : decide ((b0 ++ b1).size + t150.size ≤ 9223372036854775807) = true := decide_eq_true c5
   try have c5b2 : (9223372036854775807 < (b0 ++ b1).size + t150.size) = False := eq_false (Nat.not_lt.2 c5)
   have c5b3 : (9223372036854775807 < b0.size + b1.size + t150.size) = False := eq_false (Nat.not_lt.2 (by have z_ := c5; simp only [ByteArray.size_append] at z_; exact z_))
   by_cases c6 : ((b0 ++ b1) ++ t150).size + a1.size ≤ 9223372036854775807
   ·
    rw [if_pos c6] at H
    have c6b0 := eq_true c6
    have c6b1 : decide (((b0 ++ b1) ++ t150).size + a1.size ≤ 9223372036854775807) = true := decide_eq_true c6
    try have c6b2 : (9223372036854775807 < ((b0 ++ b1) ++ t150).size + a1.size) = False := eq_false (Nat.not_lt.2 c6)
    have c6b3 : (9223372036854775807 < b0.size + b1.size + t150.size + a1.size) = False := eq_false (Nat.not_lt.2 (by have z_ := c6; simp only [ByteArray.size_append] at z_; exact z_))
    obtain rfl := Option.some.inj H
    go_enter Try.func21, Try.ntmps21
    try go_wp2_with (first | ((with_reducible refine gate_dst (N := 2) rfl ?_); refine box_event ?hg (N := 2) ?hd (cs := #[.int .u8 a0_0, .int .u8 a0_1, .int .u8 a0_2, .int .u8 a0_3, .int .u8 a0_4, .int .u8 a0_5, .int .u8 a0_6, .int .u8 a0_7, .int .u8 a0_8, .int .u8 a0_9, .int .u8 a0_10, .int .u8 a0_11, .int .i64 a0_12]) (t := 26) ?hr ?_; (case hd => rfl); (case hg => rfl); (case hr => first | (go_simp; done) | (go_simp; rfl)); intro gb149 hg w7 hbox hb; have n0_ := Aside0.mk (below_step (by repeat (first | (with_reducible first | exact HB.out | apply below_alloc | apply pw_below_drewN | apply below_drew1) | exact HB.out)) hb); have n1_ := Aside0.mk (hbox); have n2_ := Aside0.mk ((by rw [hg]; exact (below_size (by repeat (first | (with_reducible first | exact HB.out | apply below_alloc | apply pw_below_drewN | apply below_drew1) | exact HB.out))) : w.heap.size ≤ gb149)); have n3_ := Aside0.mk ((by rw [hg]; exact (below_size (by repeat (first | (with_reducible first | exact HB.out | apply below_alloc | apply pw_below_drewN | apply below_drew1) | exact HB.out))) : w.heap.size ≤ gb149)); clear HB; have HB := n0_; have BK149 := n1_; have GW149 := n2_; have GE149 := n3_; clear n0_ n1_ n2_ n3_; clear hb hbox hg))
    have n0_ := Aside0.mk (blk_drew BK149.out)
    have n1_ := Aside0.mk (below_drew1 HB.out)
    clear BK149
    clear HB
    have BK149 := n0_
    have HB := n1_
    clear n0_ n1_
    have hconv0 : ∀ w', (w'.cell? ⟨gb149, 0, none⟩ = some (.int .u8 a0_0) ∧ w'.cell? ⟨gb149, 1, none⟩ = some (.int .u8 a0_1) ∧ w'.cell? ⟨gb149, 2, none⟩ = some (.int .u8 a0_2) ∧ w'.cell? ⟨gb149, 3, none⟩ = some (.int .u8 a0_3) ∧ w'.cell? ⟨gb149, 4, none⟩ = some (.int .u8 a0_4) ∧ w'.cell? ⟨gb149, 5, none⟩ = some (.int .u8 a0_5) ∧ w'.cell? ⟨gb149, 6, none⟩ = some (.int .u8 a0_6) ∧ w'.cell? ⟨gb149, 7, none⟩ = some (.int .u8 a0_7) ∧ w'.cell? ⟨gb149, 8, none⟩ = some (.int .u8 a0_8) ∧ w'.cell? ⟨gb149, 9, none⟩ = some (.int .u8 a0_9) ∧ w'.cell? ⟨gb149, 10, none⟩ = some (.int .u8 a0_10) ∧ w'.cell? ⟨gb149, 11, none⟩ = some (.int .u8 a0_11) ∧ w'.cell? ⟨gb149, 12, none⟩ = some (.int .i64 a0_12)) → (convert 23 9 (.slice (some ⟨gb149, 0, none⟩) 6 6)).run Try.prog w' = .ok (.string b0) w' := fun w' hs_ => by rw [HB0.out]; exact six_back 0 HOK.out.1 hs_.1 hs_.2.1 hs_.2.2.1 hs_.2.2.2.1 hs_.2.2.2.2.1 hs_.2.2.2.2.2.1
    have hconv1 : ∀ w', (w'.cell? ⟨gb149, 0, none⟩ = some (.int .u8 a0_0) ∧ w'.cell? ⟨gb149, 1, none⟩ = some (.int .u8 a0_1) ∧ w'.cell? ⟨gb149, 2, none⟩ = some (.int .u8 a0_2) ∧ w'.cell? ⟨gb149, 3, none⟩ = some (.int .u8 a0_3) ∧ w'.cell? ⟨gb149, 4, none⟩ = some (.int .u8 a0_4) ∧ w'.cell? ⟨gb149, 5, none⟩ = some (.int .u8 a0_5) ∧ w'.cell? ⟨gb149, 6, none⟩ = some (.int .u8 a0_6) ∧ w'.cell? ⟨gb149, 7, none⟩ = some (.int .u8 a0_7) ∧ w'.cell? ⟨gb149, 8, none⟩ = some (.int .u8 a0_8) ∧ w'.cell? ⟨gb149, 9, none⟩ = some (.int .u8 a0_9) ∧ w'.cell? ⟨gb149, 10, none⟩ = some (.int .u8 a0_10) ∧ w'.cell? ⟨gb149, 11, none⟩ = some (.int .u8 a0_11) ∧ w'.cell? ⟨gb149, 12, none⟩ = some (.int .i64 a0_12)) → (convert 23 9 (.slice (some ⟨gb149, 6, none⟩) 6 6)).run Try.prog w' = .ok (.string b1) w' := fun w' hs_ => by rw [HB1.out]; exact six_back 6 HOK.out.2 hs_.2.2.2.2.2.2.1 hs_.2.2.2.2.2.2.2.1 hs_.2.2.2.2.2.2.2.2.1 hs_.2.2.2.2.2.2.2.2.2.1 hs_.2.2.2.2.2.2.2.2.2.2.1 hs_.2.2.2.2.2.2.2.2.2.2.2.1
    refine start_ (n := 14) (S := fun w' => w'.cell? ⟨gb149, 0, none⟩ = some (.int .u8 a0_0) ∧ w'.cell? ⟨gb149, 1, none⟩ = some (.int .u8 a0_1) ∧ w'.cell? ⟨gb149, 2, none⟩ = some (.int .u8 a0_2) ∧ w'.cell? ⟨gb149, 3, none⟩ = some (.int .u8 a0_3) ∧ w'.cell? ⟨gb149, 4, none⟩ = some (.int .u8 a0_4) ∧ w'.cell? ⟨gb149, 5, none⟩ = some (.int .u8 a0_5) ∧ w'.cell? ⟨gb149, 6, none⟩ = some (.int .u8 a0_6) ∧ w'.cell? ⟨gb149, 7, none⟩ = some (.int .u8 a0_7) ∧ w'.cell? ⟨gb149, 8, none⟩ = some (.int .u8 a0_8) ∧ w'.cell? ⟨gb149, 9, none⟩ = some (.int .u8 a0_9) ∧ w'.cell? ⟨gb149, 10, none⟩ = some (.int .u8 a0_10) ∧ w'.cell? ⟨gb149, 11, none⟩ = some (.int .u8 a0_11) ∧ w'.cell? ⟨gb149, 12, none⟩ = some (.int .i64 a0_12)) (ds := []) #[false, false, false, false, false, false, false, false, false, false, false, false, false, false] (by kernel_rfl) rfl rfl ⟨(blk_cell BK149.out 0).trans rfl, (blk_cell BK149.out 1).trans rfl, (blk_cell BK149.out 2).trans rfl, (blk_cell BK149.out 3).trans rfl, (blk_cell BK149.out 4).trans rfl, (blk_cell BK149.out 5).trans rfl, (blk_cell BK149.out 6).trans rfl, (blk_cell BK149.out 7).trans rfl, (blk_cell BK149.out 8).trans rfl, (blk_cell BK149.out 9).trans rfl, (blk_cell BK149.out 10).trans rfl, (blk_cell BK149.out 11).trans rfl, (blk_cell BK149.out 12).trans rfl⟩ (fun hHeld => ?_); refine with_tabW eth_Put.tab1 eth_Put.bits1 (fun HT_ HW_ => ?_)
    generalize w7.drew = w8 at BK149 HB hHeld ⊢
    refine pure_ (i := 0) (N := some 5) (v := ?_) (a' := ?_) #[true, false, false, false, false, false, false, false, false, false, false, false, false, false] rfl rfl (any_of HT_.out (by kernel_rfl)) (fun _ _ _ h => h) (Or.inl ⟨by rfl, ?_⟩) ?_ ?_
    rotate_left
    ·
     intro w'
     go_simp
     with_reducible rfl
    rotate_left
    ·
     simp only [Act.put, List.setIfInBounds_toArray, List.set_cons_zero, List.set_cons_succ, i64_w, i32_w]
     rfl
    refine pure_ (i := 1) (N := some 6) (v := ?_) (a' := ?_) #[true, true, false, false, false, false, false, false, false, false, false, false, false, false] rfl rfl (any_of HT_.out (by kernel_rfl)) (fun _ _ _ h => h) (Or.inl ⟨by rfl, ?_⟩) ?_ ?_
    rotate_left
    ·
     intro w'
     go_simp
     with_reducible rfl
    rotate_left
    ·
     simp only [Act.put, List.setIfInBounds_toArray, List.set_cons_zero, List.set_cons_succ, i64_w, i32_w]
     rfl
    refine take_ (i := 2) (N := some 7) (v := ?_) (a' := ?_) #[true, true, true, false, false, false, false, false, false, false, false, false, false, false] rfl rfl (take_ofW HT_.out HW_.out (by kernel_rfl)) (fun _ _ _ h => h) (Or.inl ⟨by rfl, ?_⟩) hHeld ?_ ?_
    rotate_left
    ·
     intro w' hs_
     have hk_ := hconv0 w' hs_
     go_simp
     with_reducible rfl
    rotate_left
    ·
     simp only [Act.put, List.setIfInBounds_toArray, List.set_cons_zero, List.set_cons_succ, i64_w, i32_w]
     rfl
    refine pure_ (i := 3) (N := some 8) (v := ?_) (a' := ?_) #[true, true, true, true, false, false, false, false, false, false, false, false, false, false] rfl rfl (any_of HT_.out (by kernel_rfl)) (fun _ _ _ h => h) (Or.inl ⟨by rfl, ?_⟩) ?_ ?_
    rotate_left
    ·
     intro w'
     go_simp
     with_reducible rfl
    rotate_left
    ·
     simp only [Act.put, List.setIfInBounds_toArray, List.set_cons_zero, List.set_cons_succ, i64_w, i32_w]
     rfl
    refine pure_ (i := 4) (N := some 9) (v := ?_) (a' := ?_) #[true, true, true, true, true, false, false, false, false, false, false, false, false, false] rfl rfl (any_of HT_.out (by kernel_rfl)) (fun _ _ _ h => h) (Or.inl ⟨by rfl, ?_⟩) ?_ ?_
    rotate_left
    ·
     intro w'
     go_simp
     with_reducible rfl
    rotate_left
    ·
     simp only [Act.put, List.setIfInBounds_toArray, List.set_cons_zero, List.set_cons_succ, i64_w, i32_w]
     rfl
    refine take_ (i := 5) (N := some 10) (v := ?_) (a' := ?_) #[true, true, true, true, true, true, false, false, false, false, false, false, false, false] rfl rfl (take_ofW HT_.out HW_.out (by kernel_rfl)) (fun _ _ _ h => h) (Or.inl ⟨by rfl, ?_⟩) hHeld ?_ ?_
    rotate_left
    ·
     intro w' hs_
     have hk_ := hconv1 w' hs_
     go_simp
     with_reducible rfl
    rotate_left
    ·
     simp only [Act.put, List.setIfInBounds_toArray, List.set_cons_zero, List.set_cons_succ, i64_w, i32_w]
     rfl
    refine pure_ (i := 6) (N := some 11) (v := ?_) (a' := ?_) #[true, true, true, true, true, true, true, false, false, false, false, false, false, false] rfl rfl (any_of HT_.out (by kernel_rfl)) (fun _ _ _ h => h) (Or.inl ⟨by rfl, ?_⟩) ?_ ?_
    rotate_left
    ·
     intro w'
     go_simp
     with_reducible rfl
    rotate_left
    ·
     simp only [Act.put, List.setIfInBounds_toArray, List.set_cons_zero, List.set_cons_succ, i64_w, i32_w]
     rfl
    refine pure_ (i := 7) (N := some 12) (v := ?_) (a' := ?_) #[true, true, true, true, true, true, true, true, false, false, false, false, false, false] rfl rfl (any_of HT_.out (by kernel_rfl)) (fun _ _ _ h => h) (Or.inl ⟨by rfl, ?_⟩) ?_ ?_
    rotate_left
    ·
     intro w'
     go_simp
     with_reducible rfl
    rotate_left
    ·
     simp only [Act.put, List.setIfInBounds_toArray, List.set_cons_zero, List.set_cons_succ, i64_w, i32_w]
     rfl
    refine pure_ (i := 11) (N := some 16) (v := ?_) (a' := ?_) #[true, true, true, true, true, true, true, true, false, false, false, true, false, false] rfl rfl (any_of HT_.out (by kernel_rfl)) (fun _ _ _ h => h) (Or.inl ⟨by rfl, ?_⟩) ?_ ?_
    rotate_left
    ·
     intro w'
     go_simp
     with_reducible rfl
    rotate_left
    ·
     simp only [Act.put, List.setIfInBounds_toArray, List.set_cons_zero, List.set_cons_succ, i64_w, i32_w]
     rfl
    refine take_ (i := 8) (N := some 13) (v := ?_) (a' := ?_) #[true, true, true, true, true, true, true, true, true, false, false, true, false, false] rfl rfl (take_ofW HT_.out HW_.out (by kernel_rfl)) (fun _ _ _ h => h) (Or.inl ⟨by rfl, ?_⟩) hHeld ?_ ?_
    rotate_left
    ·
     rintro w' ⟨s0, s1, s2, s3, s4, s5, s6, s7, s8, s9, s10, s11, s12⟩
     go_simp
     with_reducible rfl
    rotate_left
    ·
     simp only [Act.put, List.setIfInBounds_toArray, List.set_cons_zero, List.set_cons_succ, i64_w, i32_w]
     rfl
    refine one_ (i := 9) (N := some 14) #[true, true, true, true, true, true, true, true, true, true, false, true, false, false] rfl rfl (one_of HT_.out (by kernel_rfl)) (by decide) (fun K hK => ?_)
    refine goes_ Try.func17 (by kernel_rfl) rfl #[.int .i64 a0_12, .int .i64 2] (by rfl) rfl rfl (by (try simp only [List.map_toArray, List.map_cons, List.map_nil]); first | done | rfl | (simp only [List.length_drop, List.length_take]; rfl)) ?_
    with_reducible refine (sum_Big.calls k a0_12 2 t150 _ A4.out).mono ?_
    rintro e w9 ⟨rfl, hb⟩
    refine ⟨_, rfl, ?_⟩
    have n0_ := Aside0.mk (blk_below (g := gb149) (o := .cells #[.int .u8 a0_0, .int .u8 a0_1, .int .u8 a0_2, .int .u8 a0_3, .int .u8 a0_4, .int .u8 a0_5, .int .u8 a0_6, .int .u8 a0_7, .int .u8 a0_8, .int .u8 a0_9, .int .u8 a0_10, .int .u8 a0_11, .int .i64 a0_12] 26 (0, 0)) (by (with_reducible repeat (first | refine blk_drewN ?_ _ | refine blk_drew ?_ | refine blk_alloc ?_ _)); exact BK149.out) hb)
    have n1_ := Aside0.mk (below_step (by repeat (first | (with_reducible first | exact HB.out | apply below_alloc | apply pw_below_drewN | apply below_drew1 | refine below_set ?_ GE149.out) | exact HB.out)) hb)
    clear BK149
    clear HB
    have BK149 := n0_
    have HB := n1_
    clear n0_ n1_
    (try clear hb)
    (try clear hb2)
    (try clear hk)
    (try clear hi)
    refine hK.out _ _ ⟨(blk_cell BK149.out 0).trans rfl, (blk_cell BK149.out 1).trans rfl, (blk_cell BK149.out 2).trans rfl, (blk_cell BK149.out 3).trans rfl, (blk_cell BK149.out 4).trans rfl, (blk_cell BK149.out 5).trans rfl, (blk_cell BK149.out 6).trans rfl, (blk_cell BK149.out 7).trans rfl, (blk_cell BK149.out 8).trans rfl, (blk_cell BK149.out 9).trans rfl, (blk_cell BK149.out 10).trans rfl, (blk_cell BK149.out 11).trans rfl, (blk_cell BK149.out 12).trans rfl⟩ (fun hHeld => ?_)
    clear hK K
    refine norm_ (a' := ?_) ?_ ?_
    rotate_left
    ·
     show Act.put _ (some 14) _ = _
     simp only [Act.put, List.setIfInBounds_toArray, List.set_cons_zero, List.set_cons_succ, i64_w, i32_w]
     rfl
    refine pure_ (i := 10) (N := some 15) (v := ?_) (a' := ?_) #[true, true, true, true, true, true, true, true, true, true, true, true, false, false] rfl rfl (any_of HT_.out (by kernel_rfl)) (fun _ _ _ h => h) (Or.inl ⟨by rfl, ?_⟩) ?_ ?_
    rotate_left
    ·
     intro w'
     go_simp
     with_reducible rfl
    rotate_left
    ·
     simp only [Act.put, List.setIfInBounds_toArray, List.set_cons_zero, List.set_cons_succ, i64_w, i32_w]
     rfl
    refine pure_ (i := 12) (N := some 17) (v := ?_) (a' := ?_) #[true, true, true, true, true, true, true, true, true, true, true, true, true, false] rfl rfl (any_of HT_.out (by kernel_rfl)) (fun _ _ _ h => h) (Or.inl ⟨by rfl, ?_⟩) ?_ ?_
    rotate_left
    ·
     intro w'
     go_simp
     with_reducible rfl
    rotate_left
    ·
     simp only [Act.put, List.setIfInBounds_toArray, List.set_cons_zero, List.set_cons_succ, i64_w, i32_w]
     rfl
    refine pure_ (i := 13) (N := some 4) (v := ?_) (a' := ?_) #[true, true, true, true, true, true, true, true, true, true, true, true, true, true] rfl rfl (any_of HT_.out (by kernel_rfl)) (fun _ _ _ h => h) (Or.inl ⟨by rfl, ?_⟩) ?_ ?_
    rotate_left
    ·
     intro w'
     go_simp
     with_reducible rfl
    rotate_left
    ·
     simp only [Act.put, List.setIfInBounds_toArray, List.set_cons_zero, List.set_cons_succ, i64_w, i32_w]
     rfl
    refine done_ (done_of HT_.out (by kernel_rfl)) ?_
    try go_wp2
    go_ret
    exact ⟨by first | rfl | (simp [errW_none, errW_some] <;> rfl) | (simp [*, errW_none, errW_some] <;> rfl), by repeat (first | (with_reducible first | exact HB.out | apply below_alloc | apply pw_below_drewN | apply below_drew1 | refine below_set ?_ GE149.out) | exact HB.out)⟩
   ·
    rw [if_neg c6] at H
    exact absurd H (by simp)
  ·
   rw [if_neg c5] at H
   exact absurd H (by simp)
 ·
  rw [if_neg c3] at H
  exact absurd H (by simp)


end Go.Proofs.Ytchjfgdcldaacaa.HG
