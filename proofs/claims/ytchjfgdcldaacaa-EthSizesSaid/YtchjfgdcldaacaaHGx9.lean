/- What is proved: each Go function of this text answers as the plain Lean function beside it (a law: its given row, out of the plain statement). Conditions: those that stand in each theorem. Written by my drive.py, which calls the printer of the kit for what that covers. -/
import Derived.Test.YtchjfgdcldaacaaHGx0
import Derived.Test.YtchjfgdcldaacaaHGx2
import Derived.Test.YtchjfgdcldaacaaHGx3
import Derived.Test.YtchjfgdcldaacaaHGx8
namespace Go.Proofs.Ytchjfgdcldaacaa.HG
open Go.RowKit Go.Proofs.YtchjfgdcldaacaaW.PrintWords Go.Proofs.YtchjfgdcldaacaaW.PrintLast Go.Proofs.YtchjfgdcldaacaaW.PrintMore
attribute [local go_sem] max2_int min2_int max_two min_two max_three min_three max_four min_four   -- for this text's walks alone
set_option linter.unusedVariables false
set_option linter.unusedSimpArgs false

/-! ### rampartlaw02_EthSizes: function 3 -/
/-! ### rampartlaw02_EthSizes: function 3 -/
def rampartlaw02_EthSizes.j0 : Nat → Int → Int → List Int → ByteArray → Int → Bool → Int → Int → Int → Int → Int → Int → Int → Int → Int → Int → Int → Int → Int → Option (Bool)
 | 0, _, _, _, _, _, _, _, _, _, _, _, _, _, _, _, _, _, _, _ => none
 | k + 1, x1, x5, x7, x12, x13, x65, x231000, x231001, x231002, x231003, x231004, x231005, x231006, x231007, x231008, x231009, x231010, x231011, x231012 => if x65 = true then (some false) else (if x5 = 3 then (if x13 = 5 then (if x12.toList = ([] : List UInt8) then (if x231012 = 0 then ((rampartlaw02_awake.f).bind fun t231 => (some t231)) else (some false)) else (some false)) else (some false)) else (if x13 = 0 then (if x231005 = x1 then (if x231012 = (wrap64 (256 * (wrap64 (x1)))) then (if (x12.size : Int) = (wrap64 ((x7.length : Int) - 14)) then ((rampartlaw02_awake.f).bind fun t232 => (some t232)) else (some false)) else (some false)) else (some false)) else (some false)))
def rampartlaw02_EthSizes.f (k : Nat) (a0 : Int) (a1 : Int) : Option (Bool) := (rampartlaw00_Place.f a0 4).bind fun t190 => (if 0 ≤ (wrap64 (12 + t190)) then (if (wrap64 (12 + t190) : Int).toNat ≤ 281474976710656 then (if 0 ≤ (wrap64 (2998 + t190)) then (if (wrap64 (2998 + t190) : Int).toNat ≤ 281474976710656 then ((some (List.replicate (wrap64 (2998 + t190) : Int).toNat 0 : List Int)).bind fun y194 => (if 5 < (y194.length : Int) then (if 12 < (y194.length : Int) then ((some ((y194.set (5 : Int).toNat a1).set (12 : Int).toNat a1 : List Int)).bind fun y198 => ((eth_Get.f (strOfNums (List.replicate (wrap64 (12 + t190) : Int).toNat 0))).bind fun bt199 => ((eth_Get.f (strOfNums y198)).bind fun bt215 => (if ((bt199.2.2.2.2.2.2.2.2.2.2.2.2.2.2 == 0) != (decide (t190 ≥ 2))) = true then (rampartlaw02_EthSizes.j0 k a1 t190 y198 bt215.2.2.2.2.2.2.2.2.2.2.2.2.2.1 bt215.2.2.2.2.2.2.2.2.2.2.2.2.2.2 true bt215.1 bt215.2.1 bt215.2.2.1 bt215.2.2.2.1 bt215.2.2.2.2.1 bt215.2.2.2.2.2.1 bt215.2.2.2.2.2.2.1 bt215.2.2.2.2.2.2.2.1 bt215.2.2.2.2.2.2.2.2.1 bt215.2.2.2.2.2.2.2.2.2.1 bt215.2.2.2.2.2.2.2.2.2.2.1 bt215.2.2.2.2.2.2.2.2.2.2.2.1 bt215.2.2.2.2.2.2.2.2.2.2.2.2.1) else (if bt199.2.2.2.2.2.2.2.2.2.2.2.2.2.2 = 0 then (rampartlaw02_EthSizes.j0 k a1 t190 y198 bt215.2.2.2.2.2.2.2.2.2.2.2.2.2.1 bt215.2.2.2.2.2.2.2.2.2.2.2.2.2.2 ((bt199.2.2.2.2.2.2.2.2.2.2.2.2.2.1.size : Int) != (wrap64 (t190 - 2))) bt215.1 bt215.2.1 bt215.2.2.1 bt215.2.2.2.1 bt215.2.2.2.2.1 bt215.2.2.2.2.2.1 bt215.2.2.2.2.2.2.1 bt215.2.2.2.2.2.2.2.1 bt215.2.2.2.2.2.2.2.2.1 bt215.2.2.2.2.2.2.2.2.2.1 bt215.2.2.2.2.2.2.2.2.2.2.1 bt215.2.2.2.2.2.2.2.2.2.2.2.1 bt215.2.2.2.2.2.2.2.2.2.2.2.2.1) else (if bt199.2.2.2.2.2.2.2.2.2.2.2.2.2.2 = 2 then (rampartlaw02_EthSizes.j0 k a1 t190 y198 bt215.2.2.2.2.2.2.2.2.2.2.2.2.2.1 bt215.2.2.2.2.2.2.2.2.2.2.2.2.2.2 false bt215.1 bt215.2.1 bt215.2.2.1 bt215.2.2.2.1 bt215.2.2.2.2.1 bt215.2.2.2.2.2.1 bt215.2.2.2.2.2.2.1 bt215.2.2.2.2.2.2.2.1 bt215.2.2.2.2.2.2.2.2.1 bt215.2.2.2.2.2.2.2.2.2.1 bt215.2.2.2.2.2.2.2.2.2.2.1 bt215.2.2.2.2.2.2.2.2.2.2.2.1 bt215.2.2.2.2.2.2.2.2.2.2.2.2.1) else (rampartlaw02_EthSizes.j0 k a1 t190 y198 bt215.2.2.2.2.2.2.2.2.2.2.2.2.2.1 bt215.2.2.2.2.2.2.2.2.2.2.2.2.2.2 true bt215.1 bt215.2.1 bt215.2.2.1 bt215.2.2.2.1 bt215.2.2.2.2.1 bt215.2.2.2.2.2.1 bt215.2.2.2.2.2.2.1 bt215.2.2.2.2.2.2.2.1 bt215.2.2.2.2.2.2.2.2.1 bt215.2.2.2.2.2.2.2.2.2.1 bt215.2.2.2.2.2.2.2.2.2.2.1 bt215.2.2.2.2.2.2.2.2.2.2.2.1 bt215.2.2.2.2.2.2.2.2.2.2.2.2.1))))))) else (none)) else (none))) else (none)) else (none)) else (none)) else (none))
theorem rampartlaw02_EthSizes.mono_l : ∀ k, (∀ y0 y1 y2 y3 y4 y5 y6 y7 y8 y9 y10 y11 y12 y13 y14 y15 y16 y17 y18, LeO (rampartlaw02_EthSizes.j0 k y0 y1 y2 y3 y4 y5 y6 y7 y8 y9 y10 y11 y12 y13 y14 y15 y16 y17 y18) (rampartlaw02_EthSizes.j0 (k + 1) y0 y1 y2 y3 y4 y5 y6 y7 y8 y9 y10 y11 y12 y13 y14 y15 y16 y17 y18))
 | 0 => fun _ _ _ _ _ _ _ _ _ _ _ _ _ _ _ _ _ _ _ r h => by simp [rampartlaw02_EthSizes.j0] at h
 | k + 1 => by
  have ih0 := rampartlaw02_EthSizes.mono_l k
  ·
   intro y0 y1 y2 y3 y4 y5 y6 y7 y8 y9 y10 y11 y12 y13 y14 y15 y16 y17 y18
   unfold rampartlaw02_EthSizes.j0
   repeat' first
   | (with_reducible exact ih0 _ _ _ _ _ _ _ _ _ _ _ _ _ _ _ _ _ _ _)
   | (with_reducible exact LeO.refl _)
   | (with_reducible exact LeO.none _)
   | (with_reducible refine LeO.ite ?_ ?_)
   | (with_reducible refine LeO.bind ?_ (fun _ => ?_))
   | exact ih0 _ _ _ _ _ _ _ _ _ _ _ _ _ _ _ _ _ _ _
   | exact LeO.none _
   | refine LeO.ite ?_ ?_
   | refine LeO.bind ?_ (fun _ => ?_)
theorem rampartlaw02_EthSizes.mono : ∀ a0 a1 k, LeO (rampartlaw02_EthSizes.f k a0 a1) (rampartlaw02_EthSizes.f (k + 1) a0 a1) := by
 intro a0 a1 k
 have ih0 := rampartlaw02_EthSizes.mono_l k
 unfold rampartlaw02_EthSizes.f
 repeat' first
   | (with_reducible exact ih0 _ _ _ _ _ _ _ _ _ _ _ _ _ _ _ _ _ _ _)
   | (with_reducible exact LeO.refl _)
   | (with_reducible exact LeO.none _)
   | (with_reducible refine LeO.ite ?_ ?_)
   | (with_reducible refine LeO.bind ?_ (fun _ => ?_))
   | exact ih0 _ _ _ _ _ _ _ _ _ _ _ _ _ _ _ _ _ _ _
   | exact LeO.none _
   | refine LeO.ite ?_ ?_
   | refine LeO.bind ?_ (fun _ => ?_)
def rampartlaw02_EthSizes.T2 : Bool × List (List Nat × List Nat) := (true, [([], []), ([0], [0]), ([1, 1], [1]), ([], []), ([3], [3]), ([4, 4], [4]), ([2, 0, 1, 2], [2]), ([5, 6, 0, 1, 2, 3, 4, 5, 6], [5])])
def rampartlaw02_EthSizes.B2 : List Nat := [0, 1, 3, 0, 8, 24, 7, 127]
theorem rampartlaw02_EthSizes.tab2 : rtab .any (opsOf Try.f3 2) = rampartlaw02_EthSizes.T2 := by kernel_rfl
theorem rampartlaw02_EthSizes.bits2 : waitsOk rampartlaw02_EthSizes.T2.2 rampartlaw02_EthSizes.B2 = true := by kernel_rfl
theorem rampartlaw02_EthSizes.j0_no {k : Nat} {y0 : Int} {y1 : Int} {y2 : List Int} {y3 : ByteArray} {y4 : Int} {y6 : Int} {y7 : Int} {y8 : Int} {y9 : Int} {y10 : Int} {y11 : Int} {y12 : Int} {y13 : Int} {y14 : Int} {y15 : Int} {y16 : Int} {y17 : Int} {y18 : Int} {r : Bool} (hr : r = true) : ¬ (rampartlaw02_EthSizes.j0 k y0 y1 y2 y3 y4 true y6 y7 y8 y9 y10 y11 y12 y13 y14 y15 y16 y17 y18 = some r) := by
 subst hr
 cases k with
 | zero => intro h; simp only [rampartlaw02_EthSizes.j0] at h; cases h
 | succ k => intro h; simp only [rampartlaw02_EthSizes.j0, if_true] at h; cases h
set_option maxHeartbeats 8000000 in
set_option maxRecDepth 100000 in
theorem rampartlaw02_EthSizes.calls (k : Nat) (a0 : Int) (a1 : Int) (r : Bool) (w : World) (h : rampartlaw02_EthSizes.f k a0 a1 = some r) (HR0 : r = true) :
  Calls Try.prog 3 #[.int .i64 a0, .int .u8 a1] w fun e w' => e = .returned (.bool r) ∧ Below w.heap.size w w' := by
 have HR := Aside0.mk HR0
 clear HR0
 have hu26 := Try.underlying26
 have hu24 := Try.underlying24
 have HB := Aside0.mk (Below.refl w.heap.size w)
 have H : ((rampartlaw00_Place.f a0 4).bind fun t190 => (if 0 ≤ (wrap64 (12 + t190)) then (if (wrap64 (12 + t190) : Int).toNat ≤ 281474976710656 then (if 0 ≤ (wrap64 (2998 + t190)) then (if (wrap64 (2998 + t190) : Int).toNat ≤ 281474976710656 then ((some (List.replicate (wrap64 (2998 + t190) : Int).toNat 0 : List Int)).bind fun y194 => (if 5 < (y194.length : Int) then (if 12 < (y194.length : Int) then ((some ((y194.set (5 : Int).toNat a1).set (12 : Int).toNat a1 : List Int)).bind fun y198 => ((eth_Get.f (strOfNums (List.replicate (wrap64 (12 + t190) : Int).toNat 0))).bind fun bt199 => ((eth_Get.f (strOfNums y198)).bind fun bt215 => (if ((bt199.2.2.2.2.2.2.2.2.2.2.2.2.2.2 == 0) != (decide (t190 ≥ 2))) = true then (rampartlaw02_EthSizes.j0 k a1 t190 y198 bt215.2.2.2.2.2.2.2.2.2.2.2.2.2.1 bt215.2.2.2.2.2.2.2.2.2.2.2.2.2.2 true bt215.1 bt215.2.1 bt215.2.2.1 bt215.2.2.2.1 bt215.2.2.2.2.1 bt215.2.2.2.2.2.1 bt215.2.2.2.2.2.2.1 bt215.2.2.2.2.2.2.2.1 bt215.2.2.2.2.2.2.2.2.1 bt215.2.2.2.2.2.2.2.2.2.1 bt215.2.2.2.2.2.2.2.2.2.2.1 bt215.2.2.2.2.2.2.2.2.2.2.2.1 bt215.2.2.2.2.2.2.2.2.2.2.2.2.1) else (if bt199.2.2.2.2.2.2.2.2.2.2.2.2.2.2 = 0 then (rampartlaw02_EthSizes.j0 k a1 t190 y198 bt215.2.2.2.2.2.2.2.2.2.2.2.2.2.1 bt215.2.2.2.2.2.2.2.2.2.2.2.2.2.2 ((bt199.2.2.2.2.2.2.2.2.2.2.2.2.2.1.size : Int) != (wrap64 (t190 - 2))) bt215.1 bt215.2.1 bt215.2.2.1 bt215.2.2.2.1 bt215.2.2.2.2.1 bt215.2.2.2.2.2.1 bt215.2.2.2.2.2.2.1 bt215.2.2.2.2.2.2.2.1 bt215.2.2.2.2.2.2.2.2.1 bt215.2.2.2.2.2.2.2.2.2.1 bt215.2.2.2.2.2.2.2.2.2.2.1 bt215.2.2.2.2.2.2.2.2.2.2.2.1 bt215.2.2.2.2.2.2.2.2.2.2.2.2.1) else (if bt199.2.2.2.2.2.2.2.2.2.2.2.2.2.2 = 2 then (rampartlaw02_EthSizes.j0 k a1 t190 y198 bt215.2.2.2.2.2.2.2.2.2.2.2.2.2.1 bt215.2.2.2.2.2.2.2.2.2.2.2.2.2.2 false bt215.1 bt215.2.1 bt215.2.2.1 bt215.2.2.2.1 bt215.2.2.2.2.1 bt215.2.2.2.2.2.1 bt215.2.2.2.2.2.2.1 bt215.2.2.2.2.2.2.2.1 bt215.2.2.2.2.2.2.2.2.1 bt215.2.2.2.2.2.2.2.2.2.1 bt215.2.2.2.2.2.2.2.2.2.2.1 bt215.2.2.2.2.2.2.2.2.2.2.2.1 bt215.2.2.2.2.2.2.2.2.2.2.2.2.1) else (rampartlaw02_EthSizes.j0 k a1 t190 y198 bt215.2.2.2.2.2.2.2.2.2.2.2.2.2.1 bt215.2.2.2.2.2.2.2.2.2.2.2.2.2.2 true bt215.1 bt215.2.1 bt215.2.2.1 bt215.2.2.2.1 bt215.2.2.2.2.1 bt215.2.2.2.2.2.1 bt215.2.2.2.2.2.2.1 bt215.2.2.2.2.2.2.2.1 bt215.2.2.2.2.2.2.2.2.1 bt215.2.2.2.2.2.2.2.2.2.1 bt215.2.2.2.2.2.2.2.2.2.2.1 bt215.2.2.2.2.2.2.2.2.2.2.2.1 bt215.2.2.2.2.2.2.2.2.2.2.2.2.1))))))) else (none)) else (none))) else (none)) else (none)) else (none)) else (none))) = some r := h
 clear h
 replace H := Option.bind_eq_some_iff.mp H
 obtain ⟨t190, A30, H⟩ := H
 replace H : (if 0 ≤ (wrap64 (12 + t190)) then (if (wrap64 (12 + t190) : Int).toNat ≤ 281474976710656 then (if 0 ≤ (wrap64 (2998 + t190)) then (if (wrap64 (2998 + t190) : Int).toNat ≤ 281474976710656 then ((some (List.replicate (wrap64 (2998 + t190) : Int).toNat 0 : List Int)).bind fun y194 => (if 5 < (y194.length : Int) then (if 12 < (y194.length : Int) then ((some ((y194.set (5 : Int).toNat a1).set (12 : Int).toNat a1 : List Int)).bind fun y198 => ((eth_Get.f (strOfNums (List.replicate (wrap64 (12 + t190) : Int).toNat 0))).bind fun bt199 => ((eth_Get.f (strOfNums y198)).bind fun bt215 => (if ((bt199.2.2.2.2.2.2.2.2.2.2.2.2.2.2 == 0) != (decide (t190 ≥ 2))) = true then (rampartlaw02_EthSizes.j0 k a1 t190 y198 bt215.2.2.2.2.2.2.2.2.2.2.2.2.2.1 bt215.2.2.2.2.2.2.2.2.2.2.2.2.2.2 true bt215.1 bt215.2.1 bt215.2.2.1 bt215.2.2.2.1 bt215.2.2.2.2.1 bt215.2.2.2.2.2.1 bt215.2.2.2.2.2.2.1 bt215.2.2.2.2.2.2.2.1 bt215.2.2.2.2.2.2.2.2.1 bt215.2.2.2.2.2.2.2.2.2.1 bt215.2.2.2.2.2.2.2.2.2.2.1 bt215.2.2.2.2.2.2.2.2.2.2.2.1 bt215.2.2.2.2.2.2.2.2.2.2.2.2.1) else (if bt199.2.2.2.2.2.2.2.2.2.2.2.2.2.2 = 0 then (rampartlaw02_EthSizes.j0 k a1 t190 y198 bt215.2.2.2.2.2.2.2.2.2.2.2.2.2.1 bt215.2.2.2.2.2.2.2.2.2.2.2.2.2.2 ((bt199.2.2.2.2.2.2.2.2.2.2.2.2.2.1.size : Int) != (wrap64 (t190 - 2))) bt215.1 bt215.2.1 bt215.2.2.1 bt215.2.2.2.1 bt215.2.2.2.2.1 bt215.2.2.2.2.2.1 bt215.2.2.2.2.2.2.1 bt215.2.2.2.2.2.2.2.1 bt215.2.2.2.2.2.2.2.2.1 bt215.2.2.2.2.2.2.2.2.2.1 bt215.2.2.2.2.2.2.2.2.2.2.1 bt215.2.2.2.2.2.2.2.2.2.2.2.1 bt215.2.2.2.2.2.2.2.2.2.2.2.2.1) else (if bt199.2.2.2.2.2.2.2.2.2.2.2.2.2.2 = 2 then (rampartlaw02_EthSizes.j0 k a1 t190 y198 bt215.2.2.2.2.2.2.2.2.2.2.2.2.2.1 bt215.2.2.2.2.2.2.2.2.2.2.2.2.2.2 false bt215.1 bt215.2.1 bt215.2.2.1 bt215.2.2.2.1 bt215.2.2.2.2.1 bt215.2.2.2.2.2.1 bt215.2.2.2.2.2.2.1 bt215.2.2.2.2.2.2.2.1 bt215.2.2.2.2.2.2.2.2.1 bt215.2.2.2.2.2.2.2.2.2.1 bt215.2.2.2.2.2.2.2.2.2.2.1 bt215.2.2.2.2.2.2.2.2.2.2.2.1 bt215.2.2.2.2.2.2.2.2.2.2.2.2.1) else (rampartlaw02_EthSizes.j0 k a1 t190 y198 bt215.2.2.2.2.2.2.2.2.2.2.2.2.2.1 bt215.2.2.2.2.2.2.2.2.2.2.2.2.2.2 true bt215.1 bt215.2.1 bt215.2.2.1 bt215.2.2.2.1 bt215.2.2.2.2.1 bt215.2.2.2.2.2.1 bt215.2.2.2.2.2.2.1 bt215.2.2.2.2.2.2.2.1 bt215.2.2.2.2.2.2.2.2.1 bt215.2.2.2.2.2.2.2.2.2.1 bt215.2.2.2.2.2.2.2.2.2.2.1 bt215.2.2.2.2.2.2.2.2.2.2.2.1 bt215.2.2.2.2.2.2.2.2.2.2.2.2.1))))))) else (none)) else (none))) else (none)) else (none)) else (none)) else (none)) = some r := H
 have A3 := Aside0.mk A30
 clear A30
 obtain ⟨ji4, hji4⟩ : ∃ j_ : Int, (wrap64 (12 + t190)) = j_ := ⟨_, rfl⟩
 replace H : (if 0 ≤ (ji4) then (if (ji4 : Int).toNat ≤ 281474976710656 then (if 0 ≤ (wrap64 (2998 + t190)) then (if (wrap64 (2998 + t190) : Int).toNat ≤ 281474976710656 then ((some (List.replicate (wrap64 (2998 + t190) : Int).toNat 0 : List Int)).bind fun y194 => (if 5 < (y194.length : Int) then (if 12 < (y194.length : Int) then ((some ((y194.set (5 : Int).toNat a1).set (12 : Int).toNat a1 : List Int)).bind fun y198 => ((eth_Get.f (strOfNums (List.replicate (ji4 : Int).toNat 0))).bind fun bt199 => ((eth_Get.f (strOfNums y198)).bind fun bt215 => (if ((bt199.2.2.2.2.2.2.2.2.2.2.2.2.2.2 == 0) != (decide (t190 ≥ 2))) = true then (rampartlaw02_EthSizes.j0 k a1 t190 y198 bt215.2.2.2.2.2.2.2.2.2.2.2.2.2.1 bt215.2.2.2.2.2.2.2.2.2.2.2.2.2.2 true bt215.1 bt215.2.1 bt215.2.2.1 bt215.2.2.2.1 bt215.2.2.2.2.1 bt215.2.2.2.2.2.1 bt215.2.2.2.2.2.2.1 bt215.2.2.2.2.2.2.2.1 bt215.2.2.2.2.2.2.2.2.1 bt215.2.2.2.2.2.2.2.2.2.1 bt215.2.2.2.2.2.2.2.2.2.2.1 bt215.2.2.2.2.2.2.2.2.2.2.2.1 bt215.2.2.2.2.2.2.2.2.2.2.2.2.1) else (if bt199.2.2.2.2.2.2.2.2.2.2.2.2.2.2 = 0 then (rampartlaw02_EthSizes.j0 k a1 t190 y198 bt215.2.2.2.2.2.2.2.2.2.2.2.2.2.1 bt215.2.2.2.2.2.2.2.2.2.2.2.2.2.2 ((bt199.2.2.2.2.2.2.2.2.2.2.2.2.2.1.size : Int) != (wrap64 (t190 - 2))) bt215.1 bt215.2.1 bt215.2.2.1 bt215.2.2.2.1 bt215.2.2.2.2.1 bt215.2.2.2.2.2.1 bt215.2.2.2.2.2.2.1 bt215.2.2.2.2.2.2.2.1 bt215.2.2.2.2.2.2.2.2.1 bt215.2.2.2.2.2.2.2.2.2.1 bt215.2.2.2.2.2.2.2.2.2.2.1 bt215.2.2.2.2.2.2.2.2.2.2.2.1 bt215.2.2.2.2.2.2.2.2.2.2.2.2.1) else (if bt199.2.2.2.2.2.2.2.2.2.2.2.2.2.2 = 2 then (rampartlaw02_EthSizes.j0 k a1 t190 y198 bt215.2.2.2.2.2.2.2.2.2.2.2.2.2.1 bt215.2.2.2.2.2.2.2.2.2.2.2.2.2.2 false bt215.1 bt215.2.1 bt215.2.2.1 bt215.2.2.2.1 bt215.2.2.2.2.1 bt215.2.2.2.2.2.1 bt215.2.2.2.2.2.2.1 bt215.2.2.2.2.2.2.2.1 bt215.2.2.2.2.2.2.2.2.1 bt215.2.2.2.2.2.2.2.2.2.1 bt215.2.2.2.2.2.2.2.2.2.2.1 bt215.2.2.2.2.2.2.2.2.2.2.2.1 bt215.2.2.2.2.2.2.2.2.2.2.2.2.1) else (rampartlaw02_EthSizes.j0 k a1 t190 y198 bt215.2.2.2.2.2.2.2.2.2.2.2.2.2.1 bt215.2.2.2.2.2.2.2.2.2.2.2.2.2.2 true bt215.1 bt215.2.1 bt215.2.2.1 bt215.2.2.2.1 bt215.2.2.2.2.1 bt215.2.2.2.2.2.1 bt215.2.2.2.2.2.2.1 bt215.2.2.2.2.2.2.2.1 bt215.2.2.2.2.2.2.2.2.1 bt215.2.2.2.2.2.2.2.2.2.1 bt215.2.2.2.2.2.2.2.2.2.2.1 bt215.2.2.2.2.2.2.2.2.2.2.2.1 bt215.2.2.2.2.2.2.2.2.2.2.2.2.1))))))) else (none)) else (none))) else (none)) else (none)) else (none)) else (none)) = some r := by first | (rw [hji4] at H; exact H) | (simp only [hji4] at H ⊢; exact H)
 (try rw [hji4] at A3)
 have hji4w : (IntKind.i64.wrap (12 + t190)) = ji4 := (i64_w _).trans hji4
 by_cases c5 : 0 ≤ (ji4)
 ·
  rw [if_pos c5] at H
  have c5b0 := eq_true c5
  have c5b1 : decide (0 ≤ (ji4)) = true := decide_eq_true c5
  clear c5
  by_cases c6 : (ji4 : Int).toNat ≤ 281474976710656
  ·
   rw [if_pos c6] at H
   have c6b0 := eq_true c6
   have c6b1 : decide ((ji4 : Int).toNat ≤ 281474976710656) = true := decide_eq_true c6
   clear c6
   obtain ⟨y191, hy191⟩ : ∃ y_ : List Int, y_ = (List.replicate (ji4 : Int).toNat 0) := ⟨_, rfl⟩
   replace H : (if 0 ≤ (wrap64 (2998 + t190)) then (if (wrap64 (2998 + t190) : Int).toNat ≤ 281474976710656 then ((some (List.replicate (wrap64 (2998 + t190) : Int).toNat 0 : List Int)).bind fun y194 => (if 5 < (y194.length : Int) then (if 12 < (y194.length : Int) then ((some ((y194.set (5 : Int).toNat a1).set (12 : Int).toNat a1 : List Int)).bind fun y198 => ((eth_Get.f (strOfNums y191)).bind fun bt199 => ((eth_Get.f (strOfNums y198)).bind fun bt215 => (if ((bt199.2.2.2.2.2.2.2.2.2.2.2.2.2.2 == 0) != (decide (t190 ≥ 2))) = true then (rampartlaw02_EthSizes.j0 k a1 t190 y198 bt215.2.2.2.2.2.2.2.2.2.2.2.2.2.1 bt215.2.2.2.2.2.2.2.2.2.2.2.2.2.2 true bt215.1 bt215.2.1 bt215.2.2.1 bt215.2.2.2.1 bt215.2.2.2.2.1 bt215.2.2.2.2.2.1 bt215.2.2.2.2.2.2.1 bt215.2.2.2.2.2.2.2.1 bt215.2.2.2.2.2.2.2.2.1 bt215.2.2.2.2.2.2.2.2.2.1 bt215.2.2.2.2.2.2.2.2.2.2.1 bt215.2.2.2.2.2.2.2.2.2.2.2.1 bt215.2.2.2.2.2.2.2.2.2.2.2.2.1) else (if bt199.2.2.2.2.2.2.2.2.2.2.2.2.2.2 = 0 then (rampartlaw02_EthSizes.j0 k a1 t190 y198 bt215.2.2.2.2.2.2.2.2.2.2.2.2.2.1 bt215.2.2.2.2.2.2.2.2.2.2.2.2.2.2 ((bt199.2.2.2.2.2.2.2.2.2.2.2.2.2.1.size : Int) != (wrap64 (t190 - 2))) bt215.1 bt215.2.1 bt215.2.2.1 bt215.2.2.2.1 bt215.2.2.2.2.1 bt215.2.2.2.2.2.1 bt215.2.2.2.2.2.2.1 bt215.2.2.2.2.2.2.2.1 bt215.2.2.2.2.2.2.2.2.1 bt215.2.2.2.2.2.2.2.2.2.1 bt215.2.2.2.2.2.2.2.2.2.2.1 bt215.2.2.2.2.2.2.2.2.2.2.2.1 bt215.2.2.2.2.2.2.2.2.2.2.2.2.1) else (if bt199.2.2.2.2.2.2.2.2.2.2.2.2.2.2 = 2 then (rampartlaw02_EthSizes.j0 k a1 t190 y198 bt215.2.2.2.2.2.2.2.2.2.2.2.2.2.1 bt215.2.2.2.2.2.2.2.2.2.2.2.2.2.2 false bt215.1 bt215.2.1 bt215.2.2.1 bt215.2.2.2.1 bt215.2.2.2.2.1 bt215.2.2.2.2.2.1 bt215.2.2.2.2.2.2.1 bt215.2.2.2.2.2.2.2.1 bt215.2.2.2.2.2.2.2.2.1 bt215.2.2.2.2.2.2.2.2.2.1 bt215.2.2.2.2.2.2.2.2.2.2.1 bt215.2.2.2.2.2.2.2.2.2.2.2.1 bt215.2.2.2.2.2.2.2.2.2.2.2.2.1) else (rampartlaw02_EthSizes.j0 k a1 t190 y198 bt215.2.2.2.2.2.2.2.2.2.2.2.2.2.1 bt215.2.2.2.2.2.2.2.2.2.2.2.2.2.2 true bt215.1 bt215.2.1 bt215.2.2.1 bt215.2.2.2.1 bt215.2.2.2.2.1 bt215.2.2.2.2.2.1 bt215.2.2.2.2.2.2.1 bt215.2.2.2.2.2.2.2.1 bt215.2.2.2.2.2.2.2.2.1 bt215.2.2.2.2.2.2.2.2.2.1 bt215.2.2.2.2.2.2.2.2.2.2.1 bt215.2.2.2.2.2.2.2.2.2.2.2.1 bt215.2.2.2.2.2.2.2.2.2.2.2.2.1))))))) else (none)) else (none))) else (none)) else (none)) = some r := by first | (rw [hy191]; with_reducible exact H) | (have H2_ := (Option.bind_some _ _).symm.trans H; rw [hy191]; with_reducible exact H2_) | (have H2_ := (Option.bind_some _ _).symm.trans H; with_reducible exact H2_) | with_reducible exact H | (rw [hy191]; exact H) | exact H
   have Ny191 := Aside0.mk hy191
   clear hy191
   obtain ⟨ji7, hji7⟩ : ∃ j_ : Int, (wrap64 (2998 + t190)) = j_ := ⟨_, rfl⟩
   replace H : (if 0 ≤ (ji7) then (if (ji7 : Int).toNat ≤ 281474976710656 then ((some (List.replicate (ji7 : Int).toNat 0 : List Int)).bind fun y194 => (if 5 < (y194.length : Int) then (if 12 < (y194.length : Int) then ((some ((y194.set (5 : Int).toNat a1).set (12 : Int).toNat a1 : List Int)).bind fun y198 => ((eth_Get.f (strOfNums y191)).bind fun bt199 => ((eth_Get.f (strOfNums y198)).bind fun bt215 => (if ((bt199.2.2.2.2.2.2.2.2.2.2.2.2.2.2 == 0) != (decide (t190 ≥ 2))) = true then (rampartlaw02_EthSizes.j0 k a1 t190 y198 bt215.2.2.2.2.2.2.2.2.2.2.2.2.2.1 bt215.2.2.2.2.2.2.2.2.2.2.2.2.2.2 true bt215.1 bt215.2.1 bt215.2.2.1 bt215.2.2.2.1 bt215.2.2.2.2.1 bt215.2.2.2.2.2.1 bt215.2.2.2.2.2.2.1 bt215.2.2.2.2.2.2.2.1 bt215.2.2.2.2.2.2.2.2.1 bt215.2.2.2.2.2.2.2.2.2.1 bt215.2.2.2.2.2.2.2.2.2.2.1 bt215.2.2.2.2.2.2.2.2.2.2.2.1 bt215.2.2.2.2.2.2.2.2.2.2.2.2.1) else (if bt199.2.2.2.2.2.2.2.2.2.2.2.2.2.2 = 0 then (rampartlaw02_EthSizes.j0 k a1 t190 y198 bt215.2.2.2.2.2.2.2.2.2.2.2.2.2.1 bt215.2.2.2.2.2.2.2.2.2.2.2.2.2.2 ((bt199.2.2.2.2.2.2.2.2.2.2.2.2.2.1.size : Int) != (wrap64 (t190 - 2))) bt215.1 bt215.2.1 bt215.2.2.1 bt215.2.2.2.1 bt215.2.2.2.2.1 bt215.2.2.2.2.2.1 bt215.2.2.2.2.2.2.1 bt215.2.2.2.2.2.2.2.1 bt215.2.2.2.2.2.2.2.2.1 bt215.2.2.2.2.2.2.2.2.2.1 bt215.2.2.2.2.2.2.2.2.2.2.1 bt215.2.2.2.2.2.2.2.2.2.2.2.1 bt215.2.2.2.2.2.2.2.2.2.2.2.2.1) else (if bt199.2.2.2.2.2.2.2.2.2.2.2.2.2.2 = 2 then (rampartlaw02_EthSizes.j0 k a1 t190 y198 bt215.2.2.2.2.2.2.2.2.2.2.2.2.2.1 bt215.2.2.2.2.2.2.2.2.2.2.2.2.2.2 false bt215.1 bt215.2.1 bt215.2.2.1 bt215.2.2.2.1 bt215.2.2.2.2.1 bt215.2.2.2.2.2.1 bt215.2.2.2.2.2.2.1 bt215.2.2.2.2.2.2.2.1 bt215.2.2.2.2.2.2.2.2.1 bt215.2.2.2.2.2.2.2.2.2.1 bt215.2.2.2.2.2.2.2.2.2.2.1 bt215.2.2.2.2.2.2.2.2.2.2.2.1 bt215.2.2.2.2.2.2.2.2.2.2.2.2.1) else (rampartlaw02_EthSizes.j0 k a1 t190 y198 bt215.2.2.2.2.2.2.2.2.2.2.2.2.2.1 bt215.2.2.2.2.2.2.2.2.2.2.2.2.2.2 true bt215.1 bt215.2.1 bt215.2.2.1 bt215.2.2.2.1 bt215.2.2.2.2.1 bt215.2.2.2.2.2.1 bt215.2.2.2.2.2.2.1 bt215.2.2.2.2.2.2.2.1 bt215.2.2.2.2.2.2.2.2.1 bt215.2.2.2.2.2.2.2.2.2.1 bt215.2.2.2.2.2.2.2.2.2.2.1 bt215.2.2.2.2.2.2.2.2.2.2.2.1 bt215.2.2.2.2.2.2.2.2.2.2.2.2.1))))))) else (none)) else (none))) else (none)) else (none)) = some r := by first | (rw [hji7] at H; exact H) | (simp only [hji7] at H ⊢; exact H)
   (try rw [hji7] at A3)
   have hji7w : (IntKind.i64.wrap (2998 + t190)) = ji7 := (i64_w _).trans hji7
   by_cases c8 : 0 ≤ (ji7)
   ·
    rw [if_pos c8] at H
    have c8b0 := eq_true c8
    have c8b1 : decide (0 ≤ (ji7)) = true := decide_eq_true c8
    clear c8
    by_cases c9 : (ji7 : Int).toNat ≤ 281474976710656
    ·
     rw [if_pos c9] at H
     have c9b0 := eq_true c9
     have c9b1 : decide ((ji7 : Int).toNat ≤ 281474976710656) = true := decide_eq_true c9
     clear c9
     obtain ⟨y194, hy194⟩ : ∃ y_ : List Int, y_ = (List.replicate (ji7 : Int).toNat 0) := ⟨_, rfl⟩
     replace H : (if 5 < (y194.length : Int) then (if 12 < (y194.length : Int) then ((some ((y194.set (5 : Int).toNat a1).set (12 : Int).toNat a1 : List Int)).bind fun y198 => ((eth_Get.f (strOfNums y191)).bind fun bt199 => ((eth_Get.f (strOfNums y198)).bind fun bt215 => (if ((bt199.2.2.2.2.2.2.2.2.2.2.2.2.2.2 == 0) != (decide (t190 ≥ 2))) = true then (rampartlaw02_EthSizes.j0 k a1 t190 y198 bt215.2.2.2.2.2.2.2.2.2.2.2.2.2.1 bt215.2.2.2.2.2.2.2.2.2.2.2.2.2.2 true bt215.1 bt215.2.1 bt215.2.2.1 bt215.2.2.2.1 bt215.2.2.2.2.1 bt215.2.2.2.2.2.1 bt215.2.2.2.2.2.2.1 bt215.2.2.2.2.2.2.2.1 bt215.2.2.2.2.2.2.2.2.1 bt215.2.2.2.2.2.2.2.2.2.1 bt215.2.2.2.2.2.2.2.2.2.2.1 bt215.2.2.2.2.2.2.2.2.2.2.2.1 bt215.2.2.2.2.2.2.2.2.2.2.2.2.1) else (if bt199.2.2.2.2.2.2.2.2.2.2.2.2.2.2 = 0 then (rampartlaw02_EthSizes.j0 k a1 t190 y198 bt215.2.2.2.2.2.2.2.2.2.2.2.2.2.1 bt215.2.2.2.2.2.2.2.2.2.2.2.2.2.2 ((bt199.2.2.2.2.2.2.2.2.2.2.2.2.2.1.size : Int) != (wrap64 (t190 - 2))) bt215.1 bt215.2.1 bt215.2.2.1 bt215.2.2.2.1 bt215.2.2.2.2.1 bt215.2.2.2.2.2.1 bt215.2.2.2.2.2.2.1 bt215.2.2.2.2.2.2.2.1 bt215.2.2.2.2.2.2.2.2.1 bt215.2.2.2.2.2.2.2.2.2.1 bt215.2.2.2.2.2.2.2.2.2.2.1 bt215.2.2.2.2.2.2.2.2.2.2.2.1 bt215.2.2.2.2.2.2.2.2.2.2.2.2.1) else (if bt199.2.2.2.2.2.2.2.2.2.2.2.2.2.2 = 2 then (rampartlaw02_EthSizes.j0 k a1 t190 y198 bt215.2.2.2.2.2.2.2.2.2.2.2.2.2.1 bt215.2.2.2.2.2.2.2.2.2.2.2.2.2.2 false bt215.1 bt215.2.1 bt215.2.2.1 bt215.2.2.2.1 bt215.2.2.2.2.1 bt215.2.2.2.2.2.1 bt215.2.2.2.2.2.2.1 bt215.2.2.2.2.2.2.2.1 bt215.2.2.2.2.2.2.2.2.1 bt215.2.2.2.2.2.2.2.2.2.1 bt215.2.2.2.2.2.2.2.2.2.2.1 bt215.2.2.2.2.2.2.2.2.2.2.2.1 bt215.2.2.2.2.2.2.2.2.2.2.2.2.1) else (rampartlaw02_EthSizes.j0 k a1 t190 y198 bt215.2.2.2.2.2.2.2.2.2.2.2.2.2.1 bt215.2.2.2.2.2.2.2.2.2.2.2.2.2.2 true bt215.1 bt215.2.1 bt215.2.2.1 bt215.2.2.2.1 bt215.2.2.2.2.1 bt215.2.2.2.2.2.1 bt215.2.2.2.2.2.2.1 bt215.2.2.2.2.2.2.2.1 bt215.2.2.2.2.2.2.2.2.1 bt215.2.2.2.2.2.2.2.2.2.1 bt215.2.2.2.2.2.2.2.2.2.2.1 bt215.2.2.2.2.2.2.2.2.2.2.2.1 bt215.2.2.2.2.2.2.2.2.2.2.2.2.1))))))) else (none)) else (none)) = some r := by first | (rw [hy194]; with_reducible exact H) | (have H2_ := (Option.bind_some _ _).symm.trans H; rw [hy194]; with_reducible exact H2_) | (have H2_ := (Option.bind_some _ _).symm.trans H; with_reducible exact H2_) | with_reducible exact H | (rw [hy194]; exact H) | exact H
     have Ny194 := Aside0.mk hy194
     clear hy194
     by_cases c10 : 5 < (y194.length : Int)
     ·
      rw [if_pos c10] at H
      have c10b0 : decide (5 < (y194.length : Int)) = true := decide_eq_true c10
      have c10b1 : decide (5 < y194.length) = true := decide_eq_true (by omega)
      clear c10
      obtain ⟨y197, hy197⟩ : ∃ y_ : List Int, y_ = (y194.set (5 : Int).toNat a1) := ⟨_, rfl⟩
      replace H : (if 12 < (y194.length : Int) then ((some (y197.set (12 : Int).toNat a1 : List Int)).bind fun y198 => ((eth_Get.f (strOfNums y191)).bind fun bt199 => ((eth_Get.f (strOfNums y198)).bind fun bt215 => (if ((bt199.2.2.2.2.2.2.2.2.2.2.2.2.2.2 == 0) != (decide (t190 ≥ 2))) = true then (rampartlaw02_EthSizes.j0 k a1 t190 y198 bt215.2.2.2.2.2.2.2.2.2.2.2.2.2.1 bt215.2.2.2.2.2.2.2.2.2.2.2.2.2.2 true bt215.1 bt215.2.1 bt215.2.2.1 bt215.2.2.2.1 bt215.2.2.2.2.1 bt215.2.2.2.2.2.1 bt215.2.2.2.2.2.2.1 bt215.2.2.2.2.2.2.2.1 bt215.2.2.2.2.2.2.2.2.1 bt215.2.2.2.2.2.2.2.2.2.1 bt215.2.2.2.2.2.2.2.2.2.2.1 bt215.2.2.2.2.2.2.2.2.2.2.2.1 bt215.2.2.2.2.2.2.2.2.2.2.2.2.1) else (if bt199.2.2.2.2.2.2.2.2.2.2.2.2.2.2 = 0 then (rampartlaw02_EthSizes.j0 k a1 t190 y198 bt215.2.2.2.2.2.2.2.2.2.2.2.2.2.1 bt215.2.2.2.2.2.2.2.2.2.2.2.2.2.2 ((bt199.2.2.2.2.2.2.2.2.2.2.2.2.2.1.size : Int) != (wrap64 (t190 - 2))) bt215.1 bt215.2.1 bt215.2.2.1 bt215.2.2.2.1 bt215.2.2.2.2.1 bt215.2.2.2.2.2.1 bt215.2.2.2.2.2.2.1 bt215.2.2.2.2.2.2.2.1 bt215.2.2.2.2.2.2.2.2.1 bt215.2.2.2.2.2.2.2.2.2.1 bt215.2.2.2.2.2.2.2.2.2.2.1 bt215.2.2.2.2.2.2.2.2.2.2.2.1 bt215.2.2.2.2.2.2.2.2.2.2.2.2.1) else (if bt199.2.2.2.2.2.2.2.2.2.2.2.2.2.2 = 2 then (rampartlaw02_EthSizes.j0 k a1 t190 y198 bt215.2.2.2.2.2.2.2.2.2.2.2.2.2.1 bt215.2.2.2.2.2.2.2.2.2.2.2.2.2.2 false bt215.1 bt215.2.1 bt215.2.2.1 bt215.2.2.2.1 bt215.2.2.2.2.1 bt215.2.2.2.2.2.1 bt215.2.2.2.2.2.2.1 bt215.2.2.2.2.2.2.2.1 bt215.2.2.2.2.2.2.2.2.1 bt215.2.2.2.2.2.2.2.2.2.1 bt215.2.2.2.2.2.2.2.2.2.2.1 bt215.2.2.2.2.2.2.2.2.2.2.2.1 bt215.2.2.2.2.2.2.2.2.2.2.2.2.1) else (rampartlaw02_EthSizes.j0 k a1 t190 y198 bt215.2.2.2.2.2.2.2.2.2.2.2.2.2.1 bt215.2.2.2.2.2.2.2.2.2.2.2.2.2.2 true bt215.1 bt215.2.1 bt215.2.2.1 bt215.2.2.2.1 bt215.2.2.2.2.1 bt215.2.2.2.2.2.1 bt215.2.2.2.2.2.2.1 bt215.2.2.2.2.2.2.2.1 bt215.2.2.2.2.2.2.2.2.1 bt215.2.2.2.2.2.2.2.2.2.1 bt215.2.2.2.2.2.2.2.2.2.2.1 bt215.2.2.2.2.2.2.2.2.2.2.2.1 bt215.2.2.2.2.2.2.2.2.2.2.2.2.1))))))) else (none)) = some r := by first | (rw [hy197]; with_reducible exact H) | (have H2_ := (Option.bind_some _ _).symm.trans H; rw [hy197]; with_reducible exact H2_) | (have H2_ := (Option.bind_some _ _).symm.trans H; with_reducible exact H2_) | with_reducible exact H | (rw [hy197]; exact H) | exact H
      have Ny197 := Aside0.mk hy197
      clear hy197
      by_cases c12 : 12 < (y194.length : Int)
      ·
       rw [if_pos c12] at H
       have c12b0 : decide (12 < (y194.length : Int)) = true := decide_eq_true c12
       have c12b1 : decide (12 < y194.length) = true := decide_eq_true (by omega)
       clear c12
       obtain ⟨y198, hy198⟩ : ∃ y_ : List Int, y_ = (y197.set (12 : Int).toNat a1) := ⟨_, rfl⟩
       replace H : ((eth_Get.f (strOfNums y191)).bind fun bt199 => ((eth_Get.f (strOfNums y198)).bind fun bt215 => (if ((bt199.2.2.2.2.2.2.2.2.2.2.2.2.2.2 == 0) != (decide (t190 ≥ 2))) = true then (rampartlaw02_EthSizes.j0 k a1 t190 y198 bt215.2.2.2.2.2.2.2.2.2.2.2.2.2.1 bt215.2.2.2.2.2.2.2.2.2.2.2.2.2.2 true bt215.1 bt215.2.1 bt215.2.2.1 bt215.2.2.2.1 bt215.2.2.2.2.1 bt215.2.2.2.2.2.1 bt215.2.2.2.2.2.2.1 bt215.2.2.2.2.2.2.2.1 bt215.2.2.2.2.2.2.2.2.1 bt215.2.2.2.2.2.2.2.2.2.1 bt215.2.2.2.2.2.2.2.2.2.2.1 bt215.2.2.2.2.2.2.2.2.2.2.2.1 bt215.2.2.2.2.2.2.2.2.2.2.2.2.1) else (if bt199.2.2.2.2.2.2.2.2.2.2.2.2.2.2 = 0 then (rampartlaw02_EthSizes.j0 k a1 t190 y198 bt215.2.2.2.2.2.2.2.2.2.2.2.2.2.1 bt215.2.2.2.2.2.2.2.2.2.2.2.2.2.2 ((bt199.2.2.2.2.2.2.2.2.2.2.2.2.2.1.size : Int) != (wrap64 (t190 - 2))) bt215.1 bt215.2.1 bt215.2.2.1 bt215.2.2.2.1 bt215.2.2.2.2.1 bt215.2.2.2.2.2.1 bt215.2.2.2.2.2.2.1 bt215.2.2.2.2.2.2.2.1 bt215.2.2.2.2.2.2.2.2.1 bt215.2.2.2.2.2.2.2.2.2.1 bt215.2.2.2.2.2.2.2.2.2.2.1 bt215.2.2.2.2.2.2.2.2.2.2.2.1 bt215.2.2.2.2.2.2.2.2.2.2.2.2.1) else (if bt199.2.2.2.2.2.2.2.2.2.2.2.2.2.2 = 2 then (rampartlaw02_EthSizes.j0 k a1 t190 y198 bt215.2.2.2.2.2.2.2.2.2.2.2.2.2.1 bt215.2.2.2.2.2.2.2.2.2.2.2.2.2.2 false bt215.1 bt215.2.1 bt215.2.2.1 bt215.2.2.2.1 bt215.2.2.2.2.1 bt215.2.2.2.2.2.1 bt215.2.2.2.2.2.2.1 bt215.2.2.2.2.2.2.2.1 bt215.2.2.2.2.2.2.2.2.1 bt215.2.2.2.2.2.2.2.2.2.1 bt215.2.2.2.2.2.2.2.2.2.2.1 bt215.2.2.2.2.2.2.2.2.2.2.2.1 bt215.2.2.2.2.2.2.2.2.2.2.2.2.1) else (rampartlaw02_EthSizes.j0 k a1 t190 y198 bt215.2.2.2.2.2.2.2.2.2.2.2.2.2.1 bt215.2.2.2.2.2.2.2.2.2.2.2.2.2.2 true bt215.1 bt215.2.1 bt215.2.2.1 bt215.2.2.2.1 bt215.2.2.2.2.1 bt215.2.2.2.2.2.1 bt215.2.2.2.2.2.2.1 bt215.2.2.2.2.2.2.2.1 bt215.2.2.2.2.2.2.2.2.1 bt215.2.2.2.2.2.2.2.2.2.1 bt215.2.2.2.2.2.2.2.2.2.2.1 bt215.2.2.2.2.2.2.2.2.2.2.2.1 bt215.2.2.2.2.2.2.2.2.2.2.2.2.1)))))) = some r := by first | (rw [hy198]; with_reducible exact H) | (have H2_ := (Option.bind_some _ _).symm.trans H; rw [hy198]; with_reducible exact H2_) | (have H2_ := (Option.bind_some _ _).symm.trans H; with_reducible exact H2_) | with_reducible exact H | (rw [hy198]; exact H) | exact H
       have Ny198 := Aside0.mk hy198
       clear hy198
       replace H := Option.bind_eq_some_iff.mp H
       obtain ⟨⟨t199, t200, t201, t202, t203, t204, t205, t206, t207, t208, t209, t210, t211, t212, t213⟩, A140, H⟩ := H
       replace H : ((eth_Get.f (strOfNums y198)).bind fun bt215 => (if ((t213 == 0) != (decide (t190 ≥ 2))) = true then (rampartlaw02_EthSizes.j0 k a1 t190 y198 bt215.2.2.2.2.2.2.2.2.2.2.2.2.2.1 bt215.2.2.2.2.2.2.2.2.2.2.2.2.2.2 true bt215.1 bt215.2.1 bt215.2.2.1 bt215.2.2.2.1 bt215.2.2.2.2.1 bt215.2.2.2.2.2.1 bt215.2.2.2.2.2.2.1 bt215.2.2.2.2.2.2.2.1 bt215.2.2.2.2.2.2.2.2.1 bt215.2.2.2.2.2.2.2.2.2.1 bt215.2.2.2.2.2.2.2.2.2.2.1 bt215.2.2.2.2.2.2.2.2.2.2.2.1 bt215.2.2.2.2.2.2.2.2.2.2.2.2.1) else (if t213 = 0 then (rampartlaw02_EthSizes.j0 k a1 t190 y198 bt215.2.2.2.2.2.2.2.2.2.2.2.2.2.1 bt215.2.2.2.2.2.2.2.2.2.2.2.2.2.2 ((t212.size : Int) != (wrap64 (t190 - 2))) bt215.1 bt215.2.1 bt215.2.2.1 bt215.2.2.2.1 bt215.2.2.2.2.1 bt215.2.2.2.2.2.1 bt215.2.2.2.2.2.2.1 bt215.2.2.2.2.2.2.2.1 bt215.2.2.2.2.2.2.2.2.1 bt215.2.2.2.2.2.2.2.2.2.1 bt215.2.2.2.2.2.2.2.2.2.2.1 bt215.2.2.2.2.2.2.2.2.2.2.2.1 bt215.2.2.2.2.2.2.2.2.2.2.2.2.1) else (if t213 = 2 then (rampartlaw02_EthSizes.j0 k a1 t190 y198 bt215.2.2.2.2.2.2.2.2.2.2.2.2.2.1 bt215.2.2.2.2.2.2.2.2.2.2.2.2.2.2 false bt215.1 bt215.2.1 bt215.2.2.1 bt215.2.2.2.1 bt215.2.2.2.2.1 bt215.2.2.2.2.2.1 bt215.2.2.2.2.2.2.1 bt215.2.2.2.2.2.2.2.1 bt215.2.2.2.2.2.2.2.2.1 bt215.2.2.2.2.2.2.2.2.2.1 bt215.2.2.2.2.2.2.2.2.2.2.1 bt215.2.2.2.2.2.2.2.2.2.2.2.1 bt215.2.2.2.2.2.2.2.2.2.2.2.2.1) else (rampartlaw02_EthSizes.j0 k a1 t190 y198 bt215.2.2.2.2.2.2.2.2.2.2.2.2.2.1 bt215.2.2.2.2.2.2.2.2.2.2.2.2.2.2 true bt215.1 bt215.2.1 bt215.2.2.1 bt215.2.2.2.1 bt215.2.2.2.2.1 bt215.2.2.2.2.2.1 bt215.2.2.2.2.2.2.1 bt215.2.2.2.2.2.2.2.1 bt215.2.2.2.2.2.2.2.2.1 bt215.2.2.2.2.2.2.2.2.2.1 bt215.2.2.2.2.2.2.2.2.2.2.1 bt215.2.2.2.2.2.2.2.2.2.2.2.1 bt215.2.2.2.2.2.2.2.2.2.2.2.2.1))))) = some r := H
       have A14 := Aside0.mk A140
       clear A140
       replace H := Option.bind_eq_some_iff.mp H
       obtain ⟨⟨t215, t216, t217, t218, t219, t220, t221, t222, t223, t224, t225, t226, t227, t228, t229⟩, A150, H⟩ := H
       replace H : (if ((t213 == 0) != (decide (t190 ≥ 2))) = true then (rampartlaw02_EthSizes.j0 k a1 t190 y198 t228 t229 true t215 t216 t217 t218 t219 t220 t221 t222 t223 t224 t225 t226 t227) else (if t213 = 0 then (rampartlaw02_EthSizes.j0 k a1 t190 y198 t228 t229 ((t212.size : Int) != (wrap64 (t190 - 2))) t215 t216 t217 t218 t219 t220 t221 t222 t223 t224 t225 t226 t227) else (if t213 = 2 then (rampartlaw02_EthSizes.j0 k a1 t190 y198 t228 t229 false t215 t216 t217 t218 t219 t220 t221 t222 t223 t224 t225 t226 t227) else (rampartlaw02_EthSizes.j0 k a1 t190 y198 t228 t229 true t215 t216 t217 t218 t219 t220 t221 t222 t223 t224 t225 t226 t227)))) = some r := H
       have A15 := Aside0.mk A150
       clear A150
       have HC16 := Aside0.mk H
       clear H
       go_enter Try.func3, Try.ntmps3
       try go_wp2_with (first | ((with_reducible refine gate_callee (f := 12) rfl ?_); refine goesL_ (some 15) rfl rfl Try.func12 (by kernel_rfl) rfl #[.int .i64 a0, .int .i64 4] rfl (by (try simp only [List.map_toArray, List.map_cons, List.map_nil]); first | done | rfl | (simp only [List.length_drop, List.length_take]; rfl)) ?_; (with_reducible refine (rampartlaw00_Place.calls a0 4 t190 _ A3.out).mono ?_); rintro e w' ⟨rfl, ⟨nd, rfl⟩⟩; refine ⟨_, rfl, ?_⟩; have n0_ : Aside0 (Below w.heap.size w (World.drewN w nd)) := ⟨pw_below_drewN HB.out _⟩; generalize World.drewN w nd = w70 at n0_ ⊢; clear HB; have HB := n0_; clear n0_))
       have n0_ := Aside0.mk (below_drew1 HB.out)
       clear HB
       have HB := n0_
       clear n0_
       refine start_ (n := 8) (S := fun w' => True) (ds := []) #[false, false, false, false, false, false, false, false] (by kernel_rfl) rfl rfl trivial (fun hHeld => ?_); refine with_tabW rampartlaw02_EthSizes.tab2 rampartlaw02_EthSizes.bits2 (fun HT_ HW_ => ?_)
       generalize w70.drew = w17 at HB hHeld ⊢
       refine pure_ (i := 0) (N := some 16) (v := ?_) (a' := ?_) #[true, false, false, false, false, false, false, false] rfl rfl (any_of HT_.out (by kernel_rfl)) (fun _ _ _ h => h) (Or.inl ⟨by rfl, ?_⟩) ?_ ?_
       rotate_left
       ·
        intro w'
        go_simp
        with_reducible rfl
       rotate_left
       ·
        simp only [Act.put, List.setIfInBounds_toArray, List.set_cons_zero, List.set_cons_succ, i64_w, i32_w]
        rfl
       refine pure_ (i := 1) (N := some 17) (v := ?_) (a' := ?_) #[true, true, false, false, false, false, false, false] rfl rfl (any_of HT_.out (by kernel_rfl)) (fun _ _ _ h => h) (Or.inl ⟨by rfl, ?_⟩) ?_ ?_
       rotate_left
       ·
        intro w'
        go_simp
        with_reducible rfl
       rotate_left
       ·
        simp only [Act.put, List.setIfInBounds_toArray, List.set_cons_zero, List.set_cons_succ, i64_w, i32_w]
        rfl
       refine pure_ (i := 3) (N := some 19) (v := ?_) (a' := ?_) #[true, true, false, true, false, false, false, false] rfl rfl (any_of HT_.out (by kernel_rfl)) (fun _ _ _ h => h) (Or.inl ⟨by rfl, ?_⟩) ?_ ?_
       rotate_left
       ·
        intro w'
        go_simp
        with_reducible rfl
       rotate_left
       ·
        simp only [Act.put, List.setIfInBounds_toArray, List.set_cons_zero, List.set_cons_succ, i64_w, i32_w]
        rfl
       refine pure_ (i := 4) (N := some 20) (v := ?_) (a' := ?_) #[true, true, false, true, true, false, false, false] rfl rfl (any_of HT_.out (by kernel_rfl)) (fun _ _ _ h => h) (Or.inl ⟨by rfl, ?_⟩) ?_ ?_
       rotate_left
       ·
        intro w'
        go_simp
        with_reducible rfl
       rotate_left
       ·
        simp only [Act.put, List.setIfInBounds_toArray, List.set_cons_zero, List.set_cons_succ, i64_w, i32_w]
        rfl
       refine join_ (σ := Value × Value) 1 #[true, true, true, true, true, true, true, false] (fun s_ => [(18, s_.1), (21, s_.2), (6, s_.1)]) (fun s_ w' => (Kd.R (Kd.int .u8) 5 w' w.heap.size (fun k_ => some k_ ≠ (s_.2 : Value).ownBlock) s_.1 y191) ∧ (Kd.R (Kd.int .u8) 5 w' w.heap.size (fun k_ => some k_ ≠ (s_.1 : Value).ownBlock) s_.2 y194) ∧ (Below w.heap.size w w')) ?_ ?_
       rotate_left
       ·
        intro hCont
        refine two_ (i := 2) (j := 5) (Ni := some 18) (Nj := some 21) #[true, true, true, true, true, false, false, false] #[true, true, false, true, true, true, false, false] rfl rfl rfl rfl (two_of HT_.out (by kernel_rfl)) (by decide) (by decide) (fun K hK => ?_) (fun K hK => ?_)
        ·
         skip
         refine Kd.R_make_step (Kd.int .u8) _ 5 (by rfl) (N := 18) rfl 23 _ _ rfl ji4 rfl rfl Try.underlying23 (.int .u8 0) 1 info5 rfl (by decide) (by omega) 0 (ok := fun _ => True) (okp := fun _ => True) rfl (fun _ hk => hk) trivial (of_decide_eq_true (by first | (with_reducible assumption) | assumption)) (Nat.le_trans (Nat.mul_le_mul_right _ (of_decide_eq_true (by first | (with_reducible assumption) | assumption) : ji4.toNat ≤ 281474976710656)) (by omega)) (Below.refl _ _) (Nat.le_refl _) ?_
         intro v192 w18 ho19 hb hg_ hnew_
         clear hg_ hnew_
         (first | rw [← Ny191.out] at ho19 | (simp only [Int.reduceToNat] at ho19; rw [← Ny191.out] at ho19))
         have n0_ := Aside0.mk (Kd.R_lower ho19 (below_size (by repeat (first | (with_reducible first | exact HB.out | apply below_alloc | apply pw_below_drewN | apply below_drew1) | exact HB.out))))
         have n1_ := Aside0.mk (below_step (by repeat (first | (with_reducible first | exact HB.out | apply below_alloc | apply pw_below_drewN | apply below_drew1) | exact HB.out)) hb)
         clear HB
         have HO193 := n0_
         have HB := n1_
         clear n0_ n1_
         clear hb ho19
         refine hK.out _ _ trivial (fun hHeld => ?_)
         clear hK K
         refine norm_ (a' := ?_) ?_ ?_
         rotate_left
         ·
          show Act.put _ (some 18) _ = _
          simp only [Act.put, List.setIfInBounds_toArray, List.set_cons_zero, List.set_cons_succ, i64_w, i32_w]
          rfl
         refine pure_ (i := 6) (N := some 6) (v := ?_) (a' := ?_) #[true, true, true, true, true, false, true, false] rfl rfl (any_of HT_.out (by kernel_rfl)) (fun _ _ _ h => h) (Or.inl ⟨by rfl, ?_⟩) ?_ ?_
         rotate_left
         ·
          intro w'
          go_simp
          with_reducible rfl
         rotate_left
         ·
          simp only [Act.put, List.setIfInBounds_toArray, List.set_cons_zero, List.set_cons_succ, i64_w, i32_w]
          rfl
         refine one_ (i := 5) (N := some 21) #[true, true, true, true, true, true, true, false] rfl rfl (one_of HT_.out (by kernel_rfl)) (by decide) (fun K hK => ?_)
         refine Kd.R_make_step (Kd.int .u8) _ 5 (by rfl) (N := 21) rfl 23 _ _ rfl ji7 rfl rfl Try.underlying23 (.int .u8 0) 1 info5 rfl (by decide) (by omega) 0 (ok := fun _ => True) (okp := fun _ => True) rfl (fun _ hk => hk) trivial (of_decide_eq_true (by first | (with_reducible assumption) | assumption)) (Nat.le_trans (Nat.mul_le_mul_right _ (of_decide_eq_true (by first | (with_reducible assumption) | assumption) : ji7.toNat ≤ 281474976710656)) (by omega)) (Below.refl _ _) (Nat.le_refl _) ?_
         intro v195 w20 ho21 hb hg_ hnew_
         clear hg_ hnew_
         (first | rw [← Ny194.out] at ho21 | (simp only [Int.reduceToNat] at ho21; rw [← Ny194.out] at ho21))
         have n0_ := Aside0.mk (Kd.R_elder' (by (with_reducible repeat (first | apply Kd.R_alloc | apply Kd.R_drewN | apply Kd.R_drew)); exact HO193.out) (Kd.R_base ho21) hb)
         have n1_ := Aside0.mk (Kd.R_lower (Kd.R_new' ho21 (Kd.R_lt (by (with_reducible repeat (first | apply Kd.R_alloc | apply Kd.R_drewN | apply Kd.R_drew)); exact HO193.out))) (below_size (by repeat (first | (with_reducible first | exact HB.out | apply below_alloc | apply pw_below_drewN | apply below_drew1) | exact HB.out))))
         have n2_ := Aside0.mk (below_step (by repeat (first | (with_reducible first | exact HB.out | apply below_alloc | apply pw_below_drewN | apply below_drew1) | exact HB.out)) hb)
         clear HO193
         clear HB
         have HO193 := n0_
         have HO196 := n1_
         have HB := n2_
         clear n0_ n1_ n2_
         clear hb ho21
         refine hK.out _ _ trivial (fun hHeld => ?_)
         clear hK K
         refine norm_ (a' := ?_) ?_ ?_
         rotate_left
         ·
          show Act.put _ (some 21) _ = _
          simp only [Act.put, List.setIfInBounds_toArray, List.set_cons_zero, List.set_cons_succ, i64_w, i32_w]
          rfl
         exact norm_ (by simp only [putAll, Act.put, List.setIfInBounds_toArray, List.set_cons_zero, List.set_cons_succ]) (hCont (v192, v195) _ ⟨(by (with_reducible repeat (first | apply Kd.R_alloc | apply Kd.R_drewN | apply Kd.R_drew)); exact Kd.R_mono HO193.out (fun _ hk => hk.2)), (by (with_reducible repeat (first | apply Kd.R_alloc | apply Kd.R_drewN | apply Kd.R_drew)); exact Kd.R_mono HO196.out (fun _ hk => hk.2)), (by repeat (first | (with_reducible first | exact HB.out | apply below_alloc | apply pw_below_drewN | apply below_drew1) | exact HB.out))⟩)
        ·
         skip
         refine Kd.R_make_step (Kd.int .u8) _ 5 (by rfl) (N := 21) rfl 23 _ _ rfl ji7 rfl rfl Try.underlying23 (.int .u8 0) 1 info5 rfl (by decide) (by omega) 0 (ok := fun _ => True) (okp := fun _ => True) rfl (fun _ hk => hk) trivial (of_decide_eq_true (by first | (with_reducible assumption) | assumption)) (Nat.le_trans (Nat.mul_le_mul_right _ (of_decide_eq_true (by first | (with_reducible assumption) | assumption) : ji7.toNat ≤ 281474976710656)) (by omega)) (Below.refl _ _) (Nat.le_refl _) ?_
         intro v195 w18 ho19 hb hg_ hnew_
         clear hg_ hnew_
         (first | rw [← Ny194.out] at ho19 | (simp only [Int.reduceToNat] at ho19; rw [← Ny194.out] at ho19))
         have n0_ := Aside0.mk (Kd.R_lower ho19 (below_size (by repeat (first | (with_reducible first | exact HB.out | apply below_alloc | apply pw_below_drewN | apply below_drew1) | exact HB.out))))
         have n1_ := Aside0.mk (below_step (by repeat (first | (with_reducible first | exact HB.out | apply below_alloc | apply pw_below_drewN | apply below_drew1) | exact HB.out)) hb)
         clear HB
         have HO196 := n0_
         have HB := n1_
         clear n0_ n1_
         clear hb ho19
         refine hK.out _ _ trivial (fun hHeld => ?_)
         clear hK K
         refine norm_ (a' := ?_) ?_ ?_
         rotate_left
         ·
          show Act.put _ (some 21) _ = _
          simp only [Act.put, List.setIfInBounds_toArray, List.set_cons_zero, List.set_cons_succ, i64_w, i32_w]
          rfl
         refine one_ (i := 2) (N := some 18) #[true, true, true, true, true, true, false, false] rfl rfl (one_of HT_.out (by kernel_rfl)) (by decide) (fun K hK => ?_)
         refine Kd.R_make_step (Kd.int .u8) _ 5 (by rfl) (N := 18) rfl 23 _ _ rfl ji4 rfl rfl Try.underlying23 (.int .u8 0) 1 info5 rfl (by decide) (by omega) 0 (ok := fun _ => True) (okp := fun _ => True) rfl (fun _ hk => hk) trivial (of_decide_eq_true (by first | (with_reducible assumption) | assumption)) (Nat.le_trans (Nat.mul_le_mul_right _ (of_decide_eq_true (by first | (with_reducible assumption) | assumption) : ji4.toNat ≤ 281474976710656)) (by omega)) (Below.refl _ _) (Nat.le_refl _) ?_
         intro v192 w20 ho21 hb hg_ hnew_
         clear hg_ hnew_
         (first | rw [← Ny191.out] at ho21 | (simp only [Int.reduceToNat] at ho21; rw [← Ny191.out] at ho21))
         have n0_ := Aside0.mk (Kd.R_elder' (by (with_reducible repeat (first | apply Kd.R_alloc | apply Kd.R_drewN | apply Kd.R_drew)); exact HO196.out) (Kd.R_base ho21) hb)
         have n1_ := Aside0.mk (Kd.R_lower (Kd.R_new' ho21 (Kd.R_lt (by (with_reducible repeat (first | apply Kd.R_alloc | apply Kd.R_drewN | apply Kd.R_drew)); exact HO196.out))) (below_size (by repeat (first | (with_reducible first | exact HB.out | apply below_alloc | apply pw_below_drewN | apply below_drew1) | exact HB.out))))
         have n2_ := Aside0.mk (below_step (by repeat (first | (with_reducible first | exact HB.out | apply below_alloc | apply pw_below_drewN | apply below_drew1) | exact HB.out)) hb)
         clear HO196
         clear HB
         have HO196 := n0_
         have HO193 := n1_
         have HB := n2_
         clear n0_ n1_ n2_
         clear hb ho21
         refine hK.out _ _ trivial (fun hHeld => ?_)
         clear hK K
         refine norm_ (a' := ?_) ?_ ?_
         rotate_left
         ·
          show Act.put _ (some 18) _ = _
          simp only [Act.put, List.setIfInBounds_toArray, List.set_cons_zero, List.set_cons_succ, i64_w, i32_w]
          rfl
         refine pure_ (i := 6) (N := some 6) (v := ?_) (a' := ?_) #[true, true, true, true, true, true, true, false] rfl rfl (any_of HT_.out (by kernel_rfl)) (fun _ _ _ h => h) (Or.inl ⟨by rfl, ?_⟩) ?_ ?_
         rotate_left
         ·
          intro w'
          go_simp
          with_reducible rfl
         rotate_left
         ·
          simp only [Act.put, List.setIfInBounds_toArray, List.set_cons_zero, List.set_cons_succ, i64_w, i32_w]
          rfl
         exact norm_ (by simp only [putAll, Act.put, List.setIfInBounds_toArray, List.set_cons_zero, List.set_cons_succ]) (hCont (v192, v195) _ ⟨(by (with_reducible repeat (first | apply Kd.R_alloc | apply Kd.R_drewN | apply Kd.R_drew)); exact Kd.R_mono HO193.out (fun _ hk => hk.2)), (by (with_reducible repeat (first | apply Kd.R_alloc | apply Kd.R_drewN | apply Kd.R_drew)); exact Kd.R_mono HO196.out (fun _ hk => hk.2)), (by repeat (first | (with_reducible first | exact HB.out | apply below_alloc | apply pw_below_drewN | apply below_drew1) | exact HB.out))⟩)
       rintro ⟨v192, v195⟩ w22 ⟨h0_, h1_, h2_⟩
       have n0_ : Aside0 (Kd.R (Kd.int .u8) 5 w22 w.heap.size (fun k_ => some k_ ≠ (v195 : Value).ownBlock) v192 y191) := ⟨h0_⟩
       have n1_ : Aside0 (Kd.R (Kd.int .u8) 5 w22 w.heap.size (fun k_ => some k_ ≠ (v192 : Value).ownBlock) v195 y194) := ⟨h1_⟩
       have n2_ : Aside0 (Below w.heap.size w w22) := ⟨h2_⟩
       clear HB
       clear h0_ h1_ h2_
       have HO193 := n0_
       have HO196 := n1_
       have HB := n2_
       clear n0_ n1_ n2_
       have hHeld := trivial
       refine norm_ (a' := ?_) ?_ ?_
       rotate_left
       ·
        simp only [putAll, Act.put, List.setIfInBounds_toArray, List.set_cons_zero, List.set_cons_succ]
        rfl
       refine pure_ (i := 7) (N := some 7) (v := ?_) (a' := ?_) #[true, true, true, true, true, true, true, true] rfl rfl (any_of HT_.out (by kernel_rfl)) (fun _ _ _ h => h) (Or.inl ⟨by rfl, ?_⟩) ?_ ?_
       rotate_left
       ·
        intro w'
        go_simp
        with_reducible rfl
       rotate_left
       ·
        simp only [Act.put, List.setIfInBounds_toArray, List.set_cons_zero, List.set_cons_succ, i64_w, i32_w]
        rfl
       refine done_ (done_of HT_.out (by kernel_rfl)) ?_
       have p11 : 0 ≤ (5 : Int) := (by omega)
       have q11 : (5 : Int) < ((y194.length : Int) : Int) := of_decide_eq_true (by first | (with_reducible assumption) | assumption)
       have qi11 : (5 < y194.length) = True := eq_true (by omega)
       obtain ⟨go11, co11, eo11, gb11, gl11, cl11, HG11⟩ := Kd.R_form HO196.out (by omega)
       (first | cases eo11 | (injection eo11 with ea_ en_ ec_; (first | subst ea_ | (injection ea_ with ea_; subst ea_)); subst ec_; clear en_))
       have GB11 := Aside0.mk gb11
       have GG11 := Aside0.mk HG11
       clear gb11 gl11 HG11
       obtain ⟨hx11_0, hf11_0⟩ := Kd.R_celln 0 HO196.out (5 : Int) p11 q11
       (try rw [show ((5 : Int)).toNat = 5 from rfl] at hx11_0)
       (try simp only [Nat.reduceMul, Nat.zero_mul, Nat.zero_add, Nat.reduceAdd] at hx11_0)
       (try rw [show ((5 : Int)).toNat = 5 from rfl] at hf11_0)
       (try simp only [Nat.reduceMul, Nat.zero_mul, Nat.zero_add, Nat.reduceAdd] at hf11_0)
       replace p11 := eq_true p11
       replace q11 := eq_true q11
       obtain ⟨hy23_, hz23_⟩ := Kd.R_celln 0 HO196.out (5 : Int) (by omega) (of_decide_eq_true (by first | (with_reducible assumption) | assumption))
       (try simp only [Int.reduceToNat, Int.toNat_zero, Int.toNat_ofNat, Nat.reduceMul, Nat.zero_mul, Nat.zero_add] at hy23_ hz23_)
       (try rw [show ((5 : Int)).toNat = 5 from rfl] at hy23_)
       (try rw [show ((5 : Int)).toNat = 5 from rfl] at hz23_)
       have HP23 := Kd.R_putg HO196.out (5 : Int) a1
       go_upto_region 6 with (first | ((with_reducible refine gate_store (t := 5) (p := 26) rfl ?_); refine store_event (t := 5) (p := 26) (v := ?vo_w24) (w1 := (w22.setCell ⟨go11, (5 : Int).toNat, none⟩ (.int .u8 a1))) ?hg ?ho ?hn ?hr ?_; (case ho => rfl); (case hg => rfl); (case hn => rfl); (case hr => first | (go_simp; done) | (go_simp; rfl)); intro w24 hw; have hg : w22.grownBy w24 (some go11) := (by rw [hw]; exact HP23.2); have hp_ : Kd.R (Kd.int .u8) 5 w24 w.heap.size (fun k_ => some k_ ≠ (v192 : Value).ownBlock) (.slice (some ⟨go11, 0, none⟩) y194.length co11) y197 := (by rw [hw, Ny197.out]; exact HP23.1); clear HP23; have n0_ := Aside0.mk (Kd.R_after (v := (.slice (some ⟨go11, 0, none⟩) y194.length co11)) (v1 := (.slice (some ⟨go11, 0, none⟩) y194.length co11)) (ok := (fun _ => True)) (by (with_reducible repeat (first | apply Kd.R_alloc | apply Kd.R_drewN | apply Kd.R_drew)); exact Kd.R_mono HO193.out (fun _ hk => ⟨trivial, hk⟩)) hg (.inl rfl)); have n1_ := Aside0.mk (hp_); have n2_ := Aside0.mk ((by rw [hw]; exact below_set (HB.out) GB11.out : Below w.heap.size w w24)); clear HO193; clear HO196; clear HB; have HO193 := n0_; have HO196 := n1_; have HB := n2_; clear n0_ n1_ n2_; clear hg hw hp_; have p13 : 0 ≤ (12 : Int) := (by omega); have q13 : (12 : Int) < ((y194.length : Int) : Int) := of_decide_eq_true (by first | (with_reducible assumption) | assumption); have qi13 : (12 < y194.length) = True := eq_true (by omega); obtain ⟨hx13_0, hf13_0⟩ := Kd.R_celln 0 HO196.out (12 : Int) p13 q13; (try rw [show ((12 : Int)).toNat = 12 from rfl] at hx13_0); (try simp only [Nat.reduceMul, Nat.zero_mul, Nat.zero_add, Nat.reduceAdd] at hx13_0); (try rw [show ((12 : Int)).toNat = 12 from rfl] at hf13_0); (try simp only [Nat.reduceMul, Nat.zero_mul, Nat.zero_add, Nat.reduceAdd] at hf13_0); replace p13 := eq_true p13; replace q13 := eq_true q13; obtain ⟨hy25_, hz25_⟩ := Kd.R_celln 0 HO196.out (12 : Int) (by omega) (of_decide_eq_true (by first | (with_reducible assumption) | assumption)); (try simp only [Int.reduceToNat, Int.toNat_zero, Int.toNat_ofNat, Nat.reduceMul, Nat.zero_mul, Nat.zero_add] at hy25_ hz25_); (try rw [show ((12 : Int)).toNat = 12 from rfl] at hy25_); (try rw [show ((12 : Int)).toNat = 12 from rfl] at hz25_); have HP25 := Kd.R_putg HO196.out (12 : Int) a1) | ((with_reducible refine gate_store (t := 5) (p := 27) rfl ?_); refine store_event (t := 5) (p := 27) (v := ?vo_w26) (w1 := (w24.setCell ⟨go11, (12 : Int).toNat, none⟩ (.int .u8 a1))) ?hg ?ho ?hn ?hr ?_; (case ho => rfl); (case hg => rfl); (case hn => rfl); (case hr => first | (go_simp; done) | (go_simp; rfl)); intro w26 hw; have hg : w24.grownBy w26 (some go11) := (by rw [hw]; exact HP25.2); have hp_ : Kd.R (Kd.int .u8) 5 w26 w.heap.size (fun k_ => some k_ ≠ (v192 : Value).ownBlock) (.slice (some ⟨go11, 0, none⟩) y194.length co11) y198 := (by rw [hw, Ny198.out]; exact HP25.1); clear HP25; have n0_ := Aside0.mk (Kd.R_after (v := (.slice (some ⟨go11, 0, none⟩) y194.length co11)) (v1 := (.slice (some ⟨go11, 0, none⟩) y194.length co11)) (ok := (fun _ => True)) (by (with_reducible repeat (first | apply Kd.R_alloc | apply Kd.R_drewN | apply Kd.R_drew)); exact HO193.out) hg (.inl rfl)); have n1_ := Aside0.mk (hp_); have n2_ := Aside0.mk ((by rw [hw]; exact below_set (HB.out) GB11.out : Below w.heap.size w w26)); clear HO193; clear HO196; clear HB; have HO193 := n0_; have HO196 := n1_; have HB := n2_; clear n0_ n1_ n2_; clear hg hw hp_; have hcv27 := own_string (P := Try.prog) Try.underlying23 Try.underlying5 Try.underlying9 (Kd.own_of_R HO193.out)) | ((with_reducible refine gate_callee (f := 13) rfl ?_); refine goesL_ (some 31) rfl rfl Try.func13 (by kernel_rfl) rfl #[.string (strOfNums y191)] rfl (by (try simp only [List.map_toArray, List.map_cons, List.map_nil]); first | done | rfl | (simp only [List.length_drop, List.length_take]; rfl)) ?_; (with_reducible refine (eth_Get.calls (strOfNums y191) t199 t200 t201 t202 t203 t204 t205 t206 t207 t208 t209 t210 t211 t212 t213 _ A14.out).mono ?_); rintro e w28 ⟨rfl, hb⟩; refine ⟨_, rfl, ?_⟩; have n0_ := Aside0.mk (Kd.R_below (by (with_reducible repeat (first | apply Kd.R_alloc | apply Kd.R_drewN | apply Kd.R_drew)); exact HO193.out) hb); have n1_ := Aside0.mk (Kd.R_below (by (with_reducible repeat (first | apply Kd.R_alloc | apply Kd.R_drewN | apply Kd.R_drew)); exact HO196.out) hb); have n2_ := Aside0.mk (below_step (by repeat (first | (with_reducible first | exact HB.out | apply below_alloc | apply pw_below_drewN | apply below_drew1) | exact HB.out)) hb); clear HO193; clear HO196; clear HB; have HO193 := n0_; have HO196 := n1_; have HB := n2_; clear n0_ n1_ n2_; (try clear hb); (try clear hb2); (try clear hk); (try clear hi)) | ((with_reducible refine gate_dst (N := 8) rfl ?_); (try (refine gate_guard (by rfl) ?_; dsimp only)); refine box_event ?hg (N := 8) ?hd (cs := #[.int .u8 0, .int .u8 0, .int .u8 0, .int .u8 0, .int .u8 0, .int .u8 0, .int .u8 0, .int .u8 0, .int .u8 0, .int .u8 0, .int .u8 0, .int .u8 0, .int .i64 0]) (t := 26) ?hr ?_; (case hd => rfl); (case hg => rfl); (case hr => first | (go_simp; done) | (go_simp; rfl)); intro gb214 hg w29 hbox hb; have n0_ := Aside0.mk (Kd.R_below (by (with_reducible repeat (first | apply Kd.R_alloc | apply Kd.R_drewN | apply Kd.R_drew)); exact HO193.out) hb); have n1_ := Aside0.mk (Kd.R_below (by (with_reducible repeat (first | apply Kd.R_alloc | apply Kd.R_drewN | apply Kd.R_drew)); exact HO196.out) hb); have n2_ := Aside0.mk (below_step (by repeat (first | (with_reducible first | exact HB.out | apply below_alloc | apply pw_below_drewN | apply below_drew1) | exact HB.out)) hb); have n3_ := Aside0.mk (hbox); have n4_ := Aside0.mk ((by rw [hg]; exact (below_size (by repeat (first | (with_reducible first | exact HB.out | apply below_alloc | apply pw_below_drewN | apply below_drew1) | exact HB.out))) : w.heap.size ≤ gb214)); have n5_ := Aside0.mk ((by rw [hg]; exact (below_size (by repeat (first | (with_reducible first | exact HB.out | apply below_alloc | apply pw_below_drewN | apply below_drew1) | exact HB.out))) : w.heap.size ≤ gb214)); clear HO193; clear HO196; clear HB; have HO193 := n0_; have HO196 := n1_; have HB := n2_; have BK214 := n3_; have GW214 := n4_; have GE214 := n5_; clear n0_ n1_ n2_ n3_ n4_ n5_; clear hb hbox hg; have hcz30_0 : w29.cell? ⟨gb214, 0, none⟩ = some (.int .u8 0) := (blk_cell BK214.out 0).trans rfl; have hcz30_1 : w29.cell? ⟨gb214, 1, none⟩ = some (.int .u8 0) := (blk_cell BK214.out 1).trans rfl; have hcz30_2 : w29.cell? ⟨gb214, 2, none⟩ = some (.int .u8 0) := (blk_cell BK214.out 2).trans rfl; have hcz30_3 : w29.cell? ⟨gb214, 3, none⟩ = some (.int .u8 0) := (blk_cell BK214.out 3).trans rfl; have hcz30_4 : w29.cell? ⟨gb214, 4, none⟩ = some (.int .u8 0) := (blk_cell BK214.out 4).trans rfl; have hcz30_5 : w29.cell? ⟨gb214, 5, none⟩ = some (.int .u8 0) := (blk_cell BK214.out 5).trans rfl; have hcz30_6 : w29.cell? ⟨gb214, 6, none⟩ = some (.int .u8 0) := (blk_cell BK214.out 6).trans rfl; have hcz30_7 : w29.cell? ⟨gb214, 7, none⟩ = some (.int .u8 0) := (blk_cell BK214.out 7).trans rfl; have hcz30_8 : w29.cell? ⟨gb214, 8, none⟩ = some (.int .u8 0) := (blk_cell BK214.out 8).trans rfl; have hcz30_9 : w29.cell? ⟨gb214, 9, none⟩ = some (.int .u8 0) := (blk_cell BK214.out 9).trans rfl; have hcz30_10 : w29.cell? ⟨gb214, 10, none⟩ = some (.int .u8 0) := (blk_cell BK214.out 10).trans rfl; have hcz30_11 : w29.cell? ⟨gb214, 11, none⟩ = some (.int .u8 0) := (blk_cell BK214.out 11).trans rfl; have hcz30_12 : w29.cell? ⟨gb214, 12, none⟩ = some (.int .i64 0) := (blk_cell BK214.out 12).trans rfl; have hfz30_0 := blk_frozen BK214.out 0; have hfz30_1 := blk_frozen BK214.out 1; have hfz30_2 := blk_frozen BK214.out 2; have hfz30_3 := blk_frozen BK214.out 3; have hfz30_4 := blk_frozen BK214.out 4; have hfz30_5 := blk_frozen BK214.out 5; have hfz30_6 := blk_frozen BK214.out 6; have hfz30_7 := blk_frozen BK214.out 7; have hfz30_8 := blk_frozen BK214.out 8; have hfz30_9 := blk_frozen BK214.out 9; have hfz30_10 := blk_frozen BK214.out 10; have hfz30_11 := blk_frozen BK214.out 11; have hfz30_12 := blk_frozen BK214.out 12; have hcv31 := own_string (P := Try.prog) Try.underlying23 Try.underlying5 Try.underlying9 (Kd.own_of_R (Kd.R_mono (Kd.R_far (p := ⟨gb214, 12, none⟩) (Kd.R_far (p := ⟨gb214, 11, none⟩) (Kd.R_far (p := ⟨gb214, 10, none⟩) (Kd.R_far (p := ⟨gb214, 9, none⟩) (Kd.R_far (p := ⟨gb214, 8, none⟩) (Kd.R_far (p := ⟨gb214, 7, none⟩) (Kd.R_far (p := ⟨gb214, 6, none⟩) (Kd.R_far (p := ⟨gb214, 5, none⟩) (Kd.R_far (p := ⟨gb214, 4, none⟩) (Kd.R_far (p := ⟨gb214, 3, none⟩) (Kd.R_far (p := ⟨gb214, 2, none⟩) (Kd.R_far (p := ⟨gb214, 1, none⟩) (Kd.R_far (p := ⟨gb214, 0, none⟩) (Kd.R_types HO196.out BK214.out (by decide)) (fun _ hk => hk.2) (.int .u8 t199)) (fun _ hk => hk.2) (.int .u8 t200)) (fun _ hk => hk.2) (.int .u8 t201)) (fun _ hk => hk.2) (.int .u8 t202)) (fun _ hk => hk.2) (.int .u8 t203)) (fun _ hk => hk.2) (.int .u8 t204)) (fun _ hk => hk.2) (.int .u8 t205)) (fun _ hk => hk.2) (.int .u8 t206)) (fun _ hk => hk.2) (.int .u8 t207)) (fun _ hk => hk.2) (.int .u8 t208)) (fun _ hk => hk.2) (.int .u8 t209)) (fun _ hk => hk.2) (.int .u8 t210)) (fun _ hk => hk.2) (.int .i64 t211)) (fun _ h_ => h_.1)))) | ((with_reducible refine gate_callee (f := 13) rfl ?_); refine goesL_ (some 38) rfl rfl Try.func13 (by kernel_rfl) rfl #[.string (strOfNums y198)] rfl (by (try simp only [List.map_toArray, List.map_cons, List.map_nil]); first | done | rfl | (simp only [List.length_drop, List.length_take]; rfl)) ?_; (with_reducible refine (eth_Get.calls (strOfNums y198) t215 t216 t217 t218 t219 t220 t221 t222 t223 t224 t225 t226 t227 t228 t229 _ A15.out).mono ?_); rintro e w32 ⟨rfl, hb⟩; refine ⟨_, rfl, ?_⟩; have n0_ := Aside0.mk (Kd.R_below (by (with_reducible repeat (first | apply Kd.R_alloc | apply Kd.R_drewN | apply Kd.R_drew)); exact (Kd.R_mono (Kd.R_far (p := ⟨gb214, 12, none⟩) (Kd.R_far (p := ⟨gb214, 11, none⟩) (Kd.R_far (p := ⟨gb214, 10, none⟩) (Kd.R_far (p := ⟨gb214, 9, none⟩) (Kd.R_far (p := ⟨gb214, 8, none⟩) (Kd.R_far (p := ⟨gb214, 7, none⟩) (Kd.R_far (p := ⟨gb214, 6, none⟩) (Kd.R_far (p := ⟨gb214, 5, none⟩) (Kd.R_far (p := ⟨gb214, 4, none⟩) (Kd.R_far (p := ⟨gb214, 3, none⟩) (Kd.R_far (p := ⟨gb214, 2, none⟩) (Kd.R_far (p := ⟨gb214, 1, none⟩) (Kd.R_far (p := ⟨gb214, 0, none⟩) (Kd.R_types HO193.out BK214.out (by decide)) (fun _ hk => hk.2) (.int .u8 t199)) (fun _ hk => hk.2) (.int .u8 t200)) (fun _ hk => hk.2) (.int .u8 t201)) (fun _ hk => hk.2) (.int .u8 t202)) (fun _ hk => hk.2) (.int .u8 t203)) (fun _ hk => hk.2) (.int .u8 t204)) (fun _ hk => hk.2) (.int .u8 t205)) (fun _ hk => hk.2) (.int .u8 t206)) (fun _ hk => hk.2) (.int .u8 t207)) (fun _ hk => hk.2) (.int .u8 t208)) (fun _ hk => hk.2) (.int .u8 t209)) (fun _ hk => hk.2) (.int .u8 t210)) (fun _ hk => hk.2) (.int .i64 t211)) (fun _ h_ => h_.1))) hb); have n1_ := Aside0.mk (Kd.R_below (by (with_reducible repeat (first | apply Kd.R_alloc | apply Kd.R_drewN | apply Kd.R_drew)); exact (Kd.R_mono (Kd.R_far (p := ⟨gb214, 12, none⟩) (Kd.R_far (p := ⟨gb214, 11, none⟩) (Kd.R_far (p := ⟨gb214, 10, none⟩) (Kd.R_far (p := ⟨gb214, 9, none⟩) (Kd.R_far (p := ⟨gb214, 8, none⟩) (Kd.R_far (p := ⟨gb214, 7, none⟩) (Kd.R_far (p := ⟨gb214, 6, none⟩) (Kd.R_far (p := ⟨gb214, 5, none⟩) (Kd.R_far (p := ⟨gb214, 4, none⟩) (Kd.R_far (p := ⟨gb214, 3, none⟩) (Kd.R_far (p := ⟨gb214, 2, none⟩) (Kd.R_far (p := ⟨gb214, 1, none⟩) (Kd.R_far (p := ⟨gb214, 0, none⟩) (Kd.R_types HO196.out BK214.out (by decide)) (fun _ hk => hk.2) (.int .u8 t199)) (fun _ hk => hk.2) (.int .u8 t200)) (fun _ hk => hk.2) (.int .u8 t201)) (fun _ hk => hk.2) (.int .u8 t202)) (fun _ hk => hk.2) (.int .u8 t203)) (fun _ hk => hk.2) (.int .u8 t204)) (fun _ hk => hk.2) (.int .u8 t205)) (fun _ hk => hk.2) (.int .u8 t206)) (fun _ hk => hk.2) (.int .u8 t207)) (fun _ hk => hk.2) (.int .u8 t208)) (fun _ hk => hk.2) (.int .u8 t209)) (fun _ hk => hk.2) (.int .u8 t210)) (fun _ hk => hk.2) (.int .i64 t211)) (fun _ h_ => h_.1))) hb); have n2_ := Aside0.mk (blk_below (g := gb214) (o := .cells #[.int .u8 t199, .int .u8 t200, .int .u8 t201, .int .u8 t202, .int .u8 t203, .int .u8 t204, .int .u8 t205, .int .u8 t206, .int .u8 t207, .int .u8 t208, .int .u8 t209, .int .u8 t210, .int .i64 t211] 26 (0, 0)) (by (with_reducible repeat (first | refine blk_drewN ?_ _ | refine blk_drew ?_ | refine blk_alloc ?_ _)); refine blk_put (cs := #[.int .u8 t199, .int .u8 t200, .int .u8 t201, .int .u8 t202, .int .u8 t203, .int .u8 t204, .int .u8 t205, .int .u8 t206, .int .u8 t207, .int .u8 t208, .int .u8 t209, .int .u8 t210, .int .i64 0]) ?_ 12 _ rfl; (with_reducible repeat (first | refine blk_drewN ?_ _ | refine blk_drew ?_ | refine blk_alloc ?_ _)); refine blk_put (cs := #[.int .u8 t199, .int .u8 t200, .int .u8 t201, .int .u8 t202, .int .u8 t203, .int .u8 t204, .int .u8 t205, .int .u8 t206, .int .u8 t207, .int .u8 t208, .int .u8 t209, .int .u8 0, .int .i64 0]) ?_ 11 _ rfl; (with_reducible repeat (first | refine blk_drewN ?_ _ | refine blk_drew ?_ | refine blk_alloc ?_ _)); refine blk_put (cs := #[.int .u8 t199, .int .u8 t200, .int .u8 t201, .int .u8 t202, .int .u8 t203, .int .u8 t204, .int .u8 t205, .int .u8 t206, .int .u8 t207, .int .u8 t208, .int .u8 0, .int .u8 0, .int .i64 0]) ?_ 10 _ rfl; (with_reducible repeat (first | refine blk_drewN ?_ _ | refine blk_drew ?_ | refine blk_alloc ?_ _)); refine blk_put (cs := #[.int .u8 t199, .int .u8 t200, .int .u8 t201, .int .u8 t202, .int .u8 t203, .int .u8 t204, .int .u8 t205, .int .u8 t206, .int .u8 t207, .int .u8 0, .int .u8 0, .int .u8 0, .int .i64 0]) ?_ 9 _ rfl; (with_reducible repeat (first | refine blk_drewN ?_ _ | refine blk_drew ?_ | refine blk_alloc ?_ _)); refine blk_put (cs := #[.int .u8 t199, .int .u8 t200, .int .u8 t201, .int .u8 t202, .int .u8 t203, .int .u8 t204, .int .u8 t205, .int .u8 t206, .int .u8 0, .int .u8 0, .int .u8 0, .int .u8 0, .int .i64 0]) ?_ 8 _ rfl; (with_reducible repeat (first | refine blk_drewN ?_ _ | refine blk_drew ?_ | refine blk_alloc ?_ _)); refine blk_put (cs := #[.int .u8 t199, .int .u8 t200, .int .u8 t201, .int .u8 t202, .int .u8 t203, .int .u8 t204, .int .u8 t205, .int .u8 0, .int .u8 0, .int .u8 0, .int .u8 0, .int .u8 0, .int .i64 0]) ?_ 7 _ rfl; (with_reducible repeat (first | refine blk_drewN ?_ _ | refine blk_drew ?_ | refine blk_alloc ?_ _)); refine blk_put (cs := #[.int .u8 t199, .int .u8 t200, .int .u8 t201, .int .u8 t202, .int .u8 t203, .int .u8 t204, .int .u8 0, .int .u8 0, .int .u8 0, .int .u8 0, .int .u8 0, .int .u8 0, .int .i64 0]) ?_ 6 _ rfl; (with_reducible repeat (first | refine blk_drewN ?_ _ | refine blk_drew ?_ | refine blk_alloc ?_ _)); refine blk_put (cs := #[.int .u8 t199, .int .u8 t200, .int .u8 t201, .int .u8 t202, .int .u8 t203, .int .u8 0, .int .u8 0, .int .u8 0, .int .u8 0, .int .u8 0, .int .u8 0, .int .u8 0, .int .i64 0]) ?_ 5 _ rfl; (with_reducible repeat (first | refine blk_drewN ?_ _ | refine blk_drew ?_ | refine blk_alloc ?_ _)); refine blk_put (cs := #[.int .u8 t199, .int .u8 t200, .int .u8 t201, .int .u8 t202, .int .u8 0, .int .u8 0, .int .u8 0, .int .u8 0, .int .u8 0, .int .u8 0, .int .u8 0, .int .u8 0, .int .i64 0]) ?_ 4 _ rfl; (with_reducible repeat (first | refine blk_drewN ?_ _ | refine blk_drew ?_ | refine blk_alloc ?_ _)); refine blk_put (cs := #[.int .u8 t199, .int .u8 t200, .int .u8 t201, .int .u8 0, .int .u8 0, .int .u8 0, .int .u8 0, .int .u8 0, .int .u8 0, .int .u8 0, .int .u8 0, .int .u8 0, .int .i64 0]) ?_ 3 _ rfl; (with_reducible repeat (first | refine blk_drewN ?_ _ | refine blk_drew ?_ | refine blk_alloc ?_ _)); refine blk_put (cs := #[.int .u8 t199, .int .u8 t200, .int .u8 0, .int .u8 0, .int .u8 0, .int .u8 0, .int .u8 0, .int .u8 0, .int .u8 0, .int .u8 0, .int .u8 0, .int .u8 0, .int .i64 0]) ?_ 2 _ rfl; (with_reducible repeat (first | refine blk_drewN ?_ _ | refine blk_drew ?_ | refine blk_alloc ?_ _)); refine blk_put (cs := #[.int .u8 t199, .int .u8 0, .int .u8 0, .int .u8 0, .int .u8 0, .int .u8 0, .int .u8 0, .int .u8 0, .int .u8 0, .int .u8 0, .int .u8 0, .int .u8 0, .int .i64 0]) ?_ 1 _ rfl; (with_reducible repeat (first | refine blk_drewN ?_ _ | refine blk_drew ?_ | refine blk_alloc ?_ _)); refine blk_put (cs := #[.int .u8 0, .int .u8 0, .int .u8 0, .int .u8 0, .int .u8 0, .int .u8 0, .int .u8 0, .int .u8 0, .int .u8 0, .int .u8 0, .int .u8 0, .int .u8 0, .int .i64 0]) ?_ 0 _ rfl; (with_reducible repeat (first | refine blk_drewN ?_ _ | refine blk_drew ?_ | refine blk_alloc ?_ _)); exact BK214.out) hb); have n3_ := Aside0.mk (below_step (by repeat (first | (with_reducible first | exact HB.out | apply below_alloc | apply pw_below_drewN | apply below_drew1 | refine below_set ?_ GE214.out) | exact HB.out)) hb); clear HO193; clear HO196; clear BK214; clear HB; have HO193 := n0_; have HO196 := n1_; have BK214 := n2_; have HB := n3_; clear n0_ n1_ n2_ n3_; (try clear hb); (try clear hb2); (try clear hk); (try clear hi)) | ((with_reducible refine gate_dst (N := 11) rfl ?_); (try (refine gate_guard (by rfl) ?_; dsimp only)); refine box_event ?hg (N := 11) ?hd (cs := #[.int .u8 0, .int .u8 0, .int .u8 0, .int .u8 0, .int .u8 0, .int .u8 0, .int .u8 0, .int .u8 0, .int .u8 0, .int .u8 0, .int .u8 0, .int .u8 0, .int .i64 0]) (t := 26) ?hr ?_; (case hd => rfl); (case hg => rfl); (case hr => first | (go_simp; done) | (go_simp; rfl)); intro gb230 hg w33 hbox hb; have n0_ := Aside0.mk (Kd.R_below (by (with_reducible repeat (first | apply Kd.R_alloc | apply Kd.R_drewN | apply Kd.R_drew)); exact HO193.out) hb); have n1_ := Aside0.mk (Kd.R_below (by (with_reducible repeat (first | apply Kd.R_alloc | apply Kd.R_drewN | apply Kd.R_drew)); exact HO196.out) hb); have n2_ := Aside0.mk (blk_below (g := gb214) (o := .cells #[.int .u8 t199, .int .u8 t200, .int .u8 t201, .int .u8 t202, .int .u8 t203, .int .u8 t204, .int .u8 t205, .int .u8 t206, .int .u8 t207, .int .u8 t208, .int .u8 t209, .int .u8 t210, .int .i64 t211] 26 (0, 0)) (by (with_reducible repeat (first | refine blk_drewN ?_ _ | refine blk_drew ?_ | refine blk_alloc ?_ _)); exact BK214.out) hb); have n3_ := Aside0.mk (below_step (by repeat (first | (with_reducible first | exact HB.out | apply below_alloc | apply pw_below_drewN | apply below_drew1 | refine below_set ?_ GE214.out) | exact HB.out)) hb); have n4_ := Aside0.mk (hbox); have n5_ := Aside0.mk ((by rw [hg]; exact (below_size (by repeat (first | (with_reducible first | exact HB.out | apply below_alloc | apply pw_below_drewN | apply below_drew1 | refine below_set ?_ GE214.out) | exact HB.out))) : w.heap.size ≤ gb230)); have n6_ := Aside0.mk ((by rw [hg]; exact (below_size (by repeat (first | (with_reducible first | exact HB.out | apply below_alloc | apply pw_below_drewN | apply below_drew1 | refine below_set ?_ GE214.out) | exact HB.out))) : w.heap.size ≤ gb230)); have n7_ := Aside0.mk ((by rw [hg]; exact Nat.ne_of_lt (blk_lt (g := gb214) (o := .cells #[.int .u8 t199, .int .u8 t200, .int .u8 t201, .int .u8 t202, .int .u8 t203, .int .u8 t204, .int .u8 t205, .int .u8 t206, .int .u8 t207, .int .u8 t208, .int .u8 t209, .int .u8 t210, .int .i64 t211] 26 (0, 0)) (by (with_reducible repeat (first | refine blk_drewN ?_ _ | refine blk_drew ?_ | refine blk_alloc ?_ _)); exact BK214.out)) : gb214 ≠ gb230)); have n8_ := Aside0.mk ((by rw [hg]; exact Nat.ne_of_gt (blk_lt (g := gb214) (o := .cells #[.int .u8 t199, .int .u8 t200, .int .u8 t201, .int .u8 t202, .int .u8 t203, .int .u8 t204, .int .u8 t205, .int .u8 t206, .int .u8 t207, .int .u8 t208, .int .u8 t209, .int .u8 t210, .int .i64 t211] 26 (0, 0)) (by (with_reducible repeat (first | refine blk_drewN ?_ _ | refine blk_drew ?_ | refine blk_alloc ?_ _)); exact BK214.out)) : gb230 ≠ gb214)); clear HO193; clear HO196; clear BK214; clear HB; have HO193 := n0_; have HO196 := n1_; have BK214 := n2_; have HB := n3_; have BK230 := n4_; have GW230 := n5_; have GE230 := n6_; have NB214_230 := n7_; have NB230_214 := n8_; clear n0_ n1_ n2_ n3_ n4_ n5_ n6_ n7_ n8_; clear hb hbox hg; have hnb34 := NB230_214.out; have hnc34 := NB214_230.out; have hcz35_0 : w33.cell? ⟨gb230, 0, none⟩ = some (.int .u8 0) := (blk_cell BK230.out 0).trans rfl; have hcz35_1 : w33.cell? ⟨gb230, 1, none⟩ = some (.int .u8 0) := (blk_cell BK230.out 1).trans rfl; have hcz35_2 : w33.cell? ⟨gb230, 2, none⟩ = some (.int .u8 0) := (blk_cell BK230.out 2).trans rfl; have hcz35_3 : w33.cell? ⟨gb230, 3, none⟩ = some (.int .u8 0) := (blk_cell BK230.out 3).trans rfl; have hcz35_4 : w33.cell? ⟨gb230, 4, none⟩ = some (.int .u8 0) := (blk_cell BK230.out 4).trans rfl; have hcz35_5 : w33.cell? ⟨gb230, 5, none⟩ = some (.int .u8 0) := (blk_cell BK230.out 5).trans rfl; have hcz35_6 : w33.cell? ⟨gb230, 6, none⟩ = some (.int .u8 0) := (blk_cell BK230.out 6).trans rfl; have hcz35_7 : w33.cell? ⟨gb230, 7, none⟩ = some (.int .u8 0) := (blk_cell BK230.out 7).trans rfl; have hcz35_8 : w33.cell? ⟨gb230, 8, none⟩ = some (.int .u8 0) := (blk_cell BK230.out 8).trans rfl; have hcz35_9 : w33.cell? ⟨gb230, 9, none⟩ = some (.int .u8 0) := (blk_cell BK230.out 9).trans rfl; have hcz35_10 : w33.cell? ⟨gb230, 10, none⟩ = some (.int .u8 0) := (blk_cell BK230.out 10).trans rfl; have hcz35_11 : w33.cell? ⟨gb230, 11, none⟩ = some (.int .u8 0) := (blk_cell BK230.out 11).trans rfl; have hcz35_12 : w33.cell? ⟨gb230, 12, none⟩ = some (.int .i64 0) := (blk_cell BK230.out 12).trans rfl; have hfz35_0 := blk_frozen BK230.out 0; have hfz35_1 := blk_frozen BK230.out 1; have hfz35_2 := blk_frozen BK230.out 2; have hfz35_3 := blk_frozen BK230.out 3; have hfz35_4 := blk_frozen BK230.out 4; have hfz35_5 := blk_frozen BK230.out 5; have hfz35_6 := blk_frozen BK230.out 6; have hfz35_7 := blk_frozen BK230.out 7; have hfz35_8 := blk_frozen BK230.out 8; have hfz35_9 := blk_frozen BK230.out 9; have hfz35_10 := blk_frozen BK230.out 10; have hfz35_11 := blk_frozen BK230.out 11; have hfz35_12 := blk_frozen BK230.out 12))
       (try simp only [Act.put, List.setIfInBounds_toArray, List.set_cons_zero, List.set_cons_succ])
       go_cut [65] (fun v65 wc => ∃ (kq : Nat) (x65_15 : Bool), v65 = .bool x65_15 ∧ Aside0 (rampartlaw02_EthSizes.j0 kq a1 t190 y198 t228 t229 x65_15 t215 t216 t217 t218 t219 t220 t221 t222 t223 t224 t225 t226 t227 = some r) ∧ Aside0 (kq ≤ k) ∧ Aside0 (Kd.R (Kd.int .u8) 5 wc w.heap.size (fun _ => True) (.slice (some ⟨go11, 0, none⟩) y194.length co11) y198) ∧ Aside0 (wc.heap[gb214]? = some (.cells #[.int .u8 t199, .int .u8 t200, .int .u8 t201, .int .u8 t202, .int .u8 t203, .int .u8 t204, .int .u8 t205, .int .u8 t206, .int .u8 t207, .int .u8 t208, .int .u8 t209, .int .u8 t210, .int .i64 t211] 26 (0, 0))) ∧ Aside0 (wc.heap[gb230]? = some (.cells #[.int .u8 t215, .int .u8 t216, .int .u8 t217, .int .u8 t218, .int .u8 t219, .int .u8 t220, .int .u8 t221, .int .u8 t222, .int .u8 t223, .int .u8 t224, .int .u8 t225, .int .u8 t226, .int .i64 t227] 26 (0, 0))) ∧ Aside0 (Below w.heap.size w wc))
       case first =>
        have H := HC16.out
        clear HC16
        by_cases c36 : ((t213 == 0) != (decide (t190 ≥ 2))) = true
        ·
         rw [if_pos c36] at H
         have c36b0 : ((t213 == 0) != (decide (t190 ≥ 2))) = true := c36
         (try (have c36b1 : decide ((t213 == 0) = (decide (t190 ≥ 2))) = false := by simpa using c36))
         (try (have c36b2 : ((t213 == 0) == (decide (t190 ≥ 2))) = false := by simpa using c36))
         (try (have c36b3 : ¬ ((t213 == 0) = (decide (t190 ≥ 2))) := by simpa using c36))
         clear c36
         (first | rw [c36b0] | (simp only [i64_w, i32_w]; rw [c36b0]) | skip)
         have H' := Aside0.mk H
         clear H
         go_wp2
         go_meet
         case rel => exact ⟨_, (true), (by first | rfl | (simp; done) | (simp [*]; done)), H', ⟨by first | omega | exact Nat.le_refl _⟩, ⟨by (with_reducible repeat (first | apply Kd.R_alloc | apply Kd.R_drewN | apply Kd.R_drew)); exact Kd.R_mono (Kd.R_far (p := ⟨gb230, 12, none⟩) (Kd.R_far (p := ⟨gb230, 11, none⟩) (Kd.R_far (p := ⟨gb230, 10, none⟩) (Kd.R_far (p := ⟨gb230, 9, none⟩) (Kd.R_far (p := ⟨gb230, 8, none⟩) (Kd.R_far (p := ⟨gb230, 7, none⟩) (Kd.R_far (p := ⟨gb230, 6, none⟩) (Kd.R_far (p := ⟨gb230, 5, none⟩) (Kd.R_far (p := ⟨gb230, 4, none⟩) (Kd.R_far (p := ⟨gb230, 3, none⟩) (Kd.R_far (p := ⟨gb230, 2, none⟩) (Kd.R_far (p := ⟨gb230, 1, none⟩) (Kd.R_far (p := ⟨gb230, 0, none⟩) (Kd.R_types HO196.out BK230.out (by decide)) (fun _ hk => hk.2) (.int .u8 t215)) (fun _ hk => hk.2) (.int .u8 t216)) (fun _ hk => hk.2) (.int .u8 t217)) (fun _ hk => hk.2) (.int .u8 t218)) (fun _ hk => hk.2) (.int .u8 t219)) (fun _ hk => hk.2) (.int .u8 t220)) (fun _ hk => hk.2) (.int .u8 t221)) (fun _ hk => hk.2) (.int .u8 t222)) (fun _ hk => hk.2) (.int .u8 t223)) (fun _ hk => hk.2) (.int .u8 t224)) (fun _ hk => hk.2) (.int .u8 t225)) (fun _ hk => hk.2) (.int .u8 t226)) (fun _ hk => hk.2) (.int .i64 t227)) (fun _ hk => trivial)⟩, ⟨by (with_reducible repeat (first | refine blk_drewN ?_ _ | refine blk_drew ?_ | refine blk_alloc ?_ _)); refine blk_far ?_ NB214_230.out _; (with_reducible repeat (first | refine blk_drewN ?_ _ | refine blk_drew ?_ | refine blk_alloc ?_ _)); refine blk_far ?_ NB214_230.out _; (with_reducible repeat (first | refine blk_drewN ?_ _ | refine blk_drew ?_ | refine blk_alloc ?_ _)); refine blk_far ?_ NB214_230.out _; (with_reducible repeat (first | refine blk_drewN ?_ _ | refine blk_drew ?_ | refine blk_alloc ?_ _)); refine blk_far ?_ NB214_230.out _; (with_reducible repeat (first | refine blk_drewN ?_ _ | refine blk_drew ?_ | refine blk_alloc ?_ _)); refine blk_far ?_ NB214_230.out _; (with_reducible repeat (first | refine blk_drewN ?_ _ | refine blk_drew ?_ | refine blk_alloc ?_ _)); refine blk_far ?_ NB214_230.out _; (with_reducible repeat (first | refine blk_drewN ?_ _ | refine blk_drew ?_ | refine blk_alloc ?_ _)); refine blk_far ?_ NB214_230.out _; (with_reducible repeat (first | refine blk_drewN ?_ _ | refine blk_drew ?_ | refine blk_alloc ?_ _)); refine blk_far ?_ NB214_230.out _; (with_reducible repeat (first | refine blk_drewN ?_ _ | refine blk_drew ?_ | refine blk_alloc ?_ _)); refine blk_far ?_ NB214_230.out _; (with_reducible repeat (first | refine blk_drewN ?_ _ | refine blk_drew ?_ | refine blk_alloc ?_ _)); refine blk_far ?_ NB214_230.out _; (with_reducible repeat (first | refine blk_drewN ?_ _ | refine blk_drew ?_ | refine blk_alloc ?_ _)); refine blk_far ?_ NB214_230.out _; (with_reducible repeat (first | refine blk_drewN ?_ _ | refine blk_drew ?_ | refine blk_alloc ?_ _)); refine blk_far ?_ NB214_230.out _; (with_reducible repeat (first | refine blk_drewN ?_ _ | refine blk_drew ?_ | refine blk_alloc ?_ _)); refine blk_far ?_ NB214_230.out _; (with_reducible repeat (first | refine blk_drewN ?_ _ | refine blk_drew ?_ | refine blk_alloc ?_ _)); exact BK214.out⟩, ⟨by (with_reducible repeat (first | refine blk_drewN ?_ _ | refine blk_drew ?_ | refine blk_alloc ?_ _)); refine blk_put (cs := #[.int .u8 t215, .int .u8 t216, .int .u8 t217, .int .u8 t218, .int .u8 t219, .int .u8 t220, .int .u8 t221, .int .u8 t222, .int .u8 t223, .int .u8 t224, .int .u8 t225, .int .u8 t226, .int .i64 0]) ?_ 12 _ rfl; (with_reducible repeat (first | refine blk_drewN ?_ _ | refine blk_drew ?_ | refine blk_alloc ?_ _)); refine blk_put (cs := #[.int .u8 t215, .int .u8 t216, .int .u8 t217, .int .u8 t218, .int .u8 t219, .int .u8 t220, .int .u8 t221, .int .u8 t222, .int .u8 t223, .int .u8 t224, .int .u8 t225, .int .u8 0, .int .i64 0]) ?_ 11 _ rfl; (with_reducible repeat (first | refine blk_drewN ?_ _ | refine blk_drew ?_ | refine blk_alloc ?_ _)); refine blk_put (cs := #[.int .u8 t215, .int .u8 t216, .int .u8 t217, .int .u8 t218, .int .u8 t219, .int .u8 t220, .int .u8 t221, .int .u8 t222, .int .u8 t223, .int .u8 t224, .int .u8 0, .int .u8 0, .int .i64 0]) ?_ 10 _ rfl; (with_reducible repeat (first | refine blk_drewN ?_ _ | refine blk_drew ?_ | refine blk_alloc ?_ _)); refine blk_put (cs := #[.int .u8 t215, .int .u8 t216, .int .u8 t217, .int .u8 t218, .int .u8 t219, .int .u8 t220, .int .u8 t221, .int .u8 t222, .int .u8 t223, .int .u8 0, .int .u8 0, .int .u8 0, .int .i64 0]) ?_ 9 _ rfl; (with_reducible repeat (first | refine blk_drewN ?_ _ | refine blk_drew ?_ | refine blk_alloc ?_ _)); refine blk_put (cs := #[.int .u8 t215, .int .u8 t216, .int .u8 t217, .int .u8 t218, .int .u8 t219, .int .u8 t220, .int .u8 t221, .int .u8 t222, .int .u8 0, .int .u8 0, .int .u8 0, .int .u8 0, .int .i64 0]) ?_ 8 _ rfl; (with_reducible repeat (first | refine blk_drewN ?_ _ | refine blk_drew ?_ | refine blk_alloc ?_ _)); refine blk_put (cs := #[.int .u8 t215, .int .u8 t216, .int .u8 t217, .int .u8 t218, .int .u8 t219, .int .u8 t220, .int .u8 t221, .int .u8 0, .int .u8 0, .int .u8 0, .int .u8 0, .int .u8 0, .int .i64 0]) ?_ 7 _ rfl; (with_reducible repeat (first | refine blk_drewN ?_ _ | refine blk_drew ?_ | refine blk_alloc ?_ _)); refine blk_put (cs := #[.int .u8 t215, .int .u8 t216, .int .u8 t217, .int .u8 t218, .int .u8 t219, .int .u8 t220, .int .u8 0, .int .u8 0, .int .u8 0, .int .u8 0, .int .u8 0, .int .u8 0, .int .i64 0]) ?_ 6 _ rfl; (with_reducible repeat (first | refine blk_drewN ?_ _ | refine blk_drew ?_ | refine blk_alloc ?_ _)); refine blk_put (cs := #[.int .u8 t215, .int .u8 t216, .int .u8 t217, .int .u8 t218, .int .u8 t219, .int .u8 0, .int .u8 0, .int .u8 0, .int .u8 0, .int .u8 0, .int .u8 0, .int .u8 0, .int .i64 0]) ?_ 5 _ rfl; (with_reducible repeat (first | refine blk_drewN ?_ _ | refine blk_drew ?_ | refine blk_alloc ?_ _)); refine blk_put (cs := #[.int .u8 t215, .int .u8 t216, .int .u8 t217, .int .u8 t218, .int .u8 0, .int .u8 0, .int .u8 0, .int .u8 0, .int .u8 0, .int .u8 0, .int .u8 0, .int .u8 0, .int .i64 0]) ?_ 4 _ rfl; (with_reducible repeat (first | refine blk_drewN ?_ _ | refine blk_drew ?_ | refine blk_alloc ?_ _)); refine blk_put (cs := #[.int .u8 t215, .int .u8 t216, .int .u8 t217, .int .u8 0, .int .u8 0, .int .u8 0, .int .u8 0, .int .u8 0, .int .u8 0, .int .u8 0, .int .u8 0, .int .u8 0, .int .i64 0]) ?_ 3 _ rfl; (with_reducible repeat (first | refine blk_drewN ?_ _ | refine blk_drew ?_ | refine blk_alloc ?_ _)); refine blk_put (cs := #[.int .u8 t215, .int .u8 t216, .int .u8 0, .int .u8 0, .int .u8 0, .int .u8 0, .int .u8 0, .int .u8 0, .int .u8 0, .int .u8 0, .int .u8 0, .int .u8 0, .int .i64 0]) ?_ 2 _ rfl; (with_reducible repeat (first | refine blk_drewN ?_ _ | refine blk_drew ?_ | refine blk_alloc ?_ _)); refine blk_put (cs := #[.int .u8 t215, .int .u8 0, .int .u8 0, .int .u8 0, .int .u8 0, .int .u8 0, .int .u8 0, .int .u8 0, .int .u8 0, .int .u8 0, .int .u8 0, .int .u8 0, .int .i64 0]) ?_ 1 _ rfl; (with_reducible repeat (first | refine blk_drewN ?_ _ | refine blk_drew ?_ | refine blk_alloc ?_ _)); refine blk_put (cs := #[.int .u8 0, .int .u8 0, .int .u8 0, .int .u8 0, .int .u8 0, .int .u8 0, .int .u8 0, .int .u8 0, .int .u8 0, .int .u8 0, .int .u8 0, .int .u8 0, .int .i64 0]) ?_ 0 _ rfl; (with_reducible repeat (first | refine blk_drewN ?_ _ | refine blk_drew ?_ | refine blk_alloc ?_ _)); exact BK230.out⟩, ⟨by repeat (first | (with_reducible first | exact HB.out | apply below_alloc | apply pw_below_drewN | apply below_drew1 | refine below_set ?_ GE214.out | refine below_set ?_ GE230.out) | exact HB.out)⟩⟩
        ·
         rw [if_neg c36] at H
         have c36b0 : ((t213 == 0) != (decide (t190 ≥ 2))) = false := by simpa using c36
         (try (have c36b1 : decide ((t213 == 0) = (decide (t190 ≥ 2))) = true := by simpa using c36))
         (try (have c36b2 : ((t213 == 0) == (decide (t190 ≥ 2))) = true := by simpa using c36))
         clear c36
         (first | rw [c36b0] | (simp only [i64_w, i32_w]; rw [c36b0]) | skip)
         by_cases c37 : t213 = 0
         ·
          rw [if_pos c37] at H
          have c37b0 : (t213 == 0) = true := beq_iff_eq.mpr c37
          have c37b1 : (t213 != 0) = false := bne_eq_false_iff_eq.mpr c37
          have c37p_ : (t190 ≥ 2) = True := eq_true (by have h_ := c36b0; rw [c37b0] at h_; simpa using h_)
          have c37q_ : (2 ≤ t190) = True := c37p_
          clear c37
          have H' := Aside0.mk H
          clear H
          go_wp2
          go_meet
          case rel => exact ⟨_, (((t212.size : Int) != (wrap64 (t190 - 2)))), (by first | rfl | (simp; done) | (simp [*]; done)), H', ⟨by first | omega | exact Nat.le_refl _⟩, ⟨by (with_reducible repeat (first | apply Kd.R_alloc | apply Kd.R_drewN | apply Kd.R_drew)); exact Kd.R_mono (Kd.R_far (p := ⟨gb230, 12, none⟩) (Kd.R_far (p := ⟨gb230, 11, none⟩) (Kd.R_far (p := ⟨gb230, 10, none⟩) (Kd.R_far (p := ⟨gb230, 9, none⟩) (Kd.R_far (p := ⟨gb230, 8, none⟩) (Kd.R_far (p := ⟨gb230, 7, none⟩) (Kd.R_far (p := ⟨gb230, 6, none⟩) (Kd.R_far (p := ⟨gb230, 5, none⟩) (Kd.R_far (p := ⟨gb230, 4, none⟩) (Kd.R_far (p := ⟨gb230, 3, none⟩) (Kd.R_far (p := ⟨gb230, 2, none⟩) (Kd.R_far (p := ⟨gb230, 1, none⟩) (Kd.R_far (p := ⟨gb230, 0, none⟩) (Kd.R_types HO196.out BK230.out (by decide)) (fun _ hk => hk.2) (.int .u8 t215)) (fun _ hk => hk.2) (.int .u8 t216)) (fun _ hk => hk.2) (.int .u8 t217)) (fun _ hk => hk.2) (.int .u8 t218)) (fun _ hk => hk.2) (.int .u8 t219)) (fun _ hk => hk.2) (.int .u8 t220)) (fun _ hk => hk.2) (.int .u8 t221)) (fun _ hk => hk.2) (.int .u8 t222)) (fun _ hk => hk.2) (.int .u8 t223)) (fun _ hk => hk.2) (.int .u8 t224)) (fun _ hk => hk.2) (.int .u8 t225)) (fun _ hk => hk.2) (.int .u8 t226)) (fun _ hk => hk.2) (.int .i64 t227)) (fun _ hk => trivial)⟩, ⟨by (with_reducible repeat (first | refine blk_drewN ?_ _ | refine blk_drew ?_ | refine blk_alloc ?_ _)); refine blk_far ?_ NB214_230.out _; (with_reducible repeat (first | refine blk_drewN ?_ _ | refine blk_drew ?_ | refine blk_alloc ?_ _)); refine blk_far ?_ NB214_230.out _; (with_reducible repeat (first | refine blk_drewN ?_ _ | refine blk_drew ?_ | refine blk_alloc ?_ _)); refine blk_far ?_ NB214_230.out _; (with_reducible repeat (first | refine blk_drewN ?_ _ | refine blk_drew ?_ | refine blk_alloc ?_ _)); refine blk_far ?_ NB214_230.out _; (with_reducible repeat (first | refine blk_drewN ?_ _ | refine blk_drew ?_ | refine blk_alloc ?_ _)); refine blk_far ?_ NB214_230.out _; (with_reducible repeat (first | refine blk_drewN ?_ _ | refine blk_drew ?_ | refine blk_alloc ?_ _)); refine blk_far ?_ NB214_230.out _; (with_reducible repeat (first | refine blk_drewN ?_ _ | refine blk_drew ?_ | refine blk_alloc ?_ _)); refine blk_far ?_ NB214_230.out _; (with_reducible repeat (first | refine blk_drewN ?_ _ | refine blk_drew ?_ | refine blk_alloc ?_ _)); refine blk_far ?_ NB214_230.out _; (with_reducible repeat (first | refine blk_drewN ?_ _ | refine blk_drew ?_ | refine blk_alloc ?_ _)); refine blk_far ?_ NB214_230.out _; (with_reducible repeat (first | refine blk_drewN ?_ _ | refine blk_drew ?_ | refine blk_alloc ?_ _)); refine blk_far ?_ NB214_230.out _; (with_reducible repeat (first | refine blk_drewN ?_ _ | refine blk_drew ?_ | refine blk_alloc ?_ _)); refine blk_far ?_ NB214_230.out _; (with_reducible repeat (first | refine blk_drewN ?_ _ | refine blk_drew ?_ | refine blk_alloc ?_ _)); refine blk_far ?_ NB214_230.out _; (with_reducible repeat (first | refine blk_drewN ?_ _ | refine blk_drew ?_ | refine blk_alloc ?_ _)); refine blk_far ?_ NB214_230.out _; (with_reducible repeat (first | refine blk_drewN ?_ _ | refine blk_drew ?_ | refine blk_alloc ?_ _)); exact BK214.out⟩, ⟨by (with_reducible repeat (first | refine blk_drewN ?_ _ | refine blk_drew ?_ | refine blk_alloc ?_ _)); refine blk_put (cs := #[.int .u8 t215, .int .u8 t216, .int .u8 t217, .int .u8 t218, .int .u8 t219, .int .u8 t220, .int .u8 t221, .int .u8 t222, .int .u8 t223, .int .u8 t224, .int .u8 t225, .int .u8 t226, .int .i64 0]) ?_ 12 _ rfl; (with_reducible repeat (first | refine blk_drewN ?_ _ | refine blk_drew ?_ | refine blk_alloc ?_ _)); refine blk_put (cs := #[.int .u8 t215, .int .u8 t216, .int .u8 t217, .int .u8 t218, .int .u8 t219, .int .u8 t220, .int .u8 t221, .int .u8 t222, .int .u8 t223, .int .u8 t224, .int .u8 t225, .int .u8 0, .int .i64 0]) ?_ 11 _ rfl; (with_reducible repeat (first | refine blk_drewN ?_ _ | refine blk_drew ?_ | refine blk_alloc ?_ _)); refine blk_put (cs := #[.int .u8 t215, .int .u8 t216, .int .u8 t217, .int .u8 t218, .int .u8 t219, .int .u8 t220, .int .u8 t221, .int .u8 t222, .int .u8 t223, .int .u8 t224, .int .u8 0, .int .u8 0, .int .i64 0]) ?_ 10 _ rfl; (with_reducible repeat (first | refine blk_drewN ?_ _ | refine blk_drew ?_ | refine blk_alloc ?_ _)); refine blk_put (cs := #[.int .u8 t215, .int .u8 t216, .int .u8 t217, .int .u8 t218, .int .u8 t219, .int .u8 t220, .int .u8 t221, .int .u8 t222, .int .u8 t223, .int .u8 0, .int .u8 0, .int .u8 0, .int .i64 0]) ?_ 9 _ rfl; (with_reducible repeat (first | refine blk_drewN ?_ _ | refine blk_drew ?_ | refine blk_alloc ?_ _)); refine blk_put (cs := #[.int .u8 t215, .int .u8 t216, .int .u8 t217, .int .u8 t218, .int .u8 t219, .int .u8 t220, .int .u8 t221, .int .u8 t222, .int .u8 0, .int .u8 0, .int .u8 0, .int .u8 0, .int .i64 0]) ?_ 8 _ rfl; (with_reducible repeat (first | refine blk_drewN ?_ _ | refine blk_drew ?_ | refine blk_alloc ?_ _)); refine blk_put (cs := #[.int .u8 t215, .int .u8 t216, .int .u8 t217, .int .u8 t218, .int .u8 t219, .int .u8 t220, .int .u8 t221, .int .u8 0, .int .u8 0, .int .u8 0, .int .u8 0, .int .u8 0, .int .i64 0]) ?_ 7 _ rfl; (with_reducible repeat (first | refine blk_drewN ?_ _ | refine blk_drew ?_ | refine blk_alloc ?_ _)); refine blk_put (cs := #[.int .u8 t215, .int .u8 t216, .int .u8 t217, .int .u8 t218, .int .u8 t219, .int .u8 t220, .int .u8 0, .int .u8 0, .int .u8 0, .int .u8 0, .int .u8 0, .int .u8 0, .int .i64 0]) ?_ 6 _ rfl; (with_reducible repeat (first | refine blk_drewN ?_ _ | refine blk_drew ?_ | refine blk_alloc ?_ _)); refine blk_put (cs := #[.int .u8 t215, .int .u8 t216, .int .u8 t217, .int .u8 t218, .int .u8 t219, .int .u8 0, .int .u8 0, .int .u8 0, .int .u8 0, .int .u8 0, .int .u8 0, .int .u8 0, .int .i64 0]) ?_ 5 _ rfl; (with_reducible repeat (first | refine blk_drewN ?_ _ | refine blk_drew ?_ | refine blk_alloc ?_ _)); refine blk_put (cs := #[.int .u8 t215, .int .u8 t216, .int .u8 t217, .int .u8 t218, .int .u8 0, .int .u8 0, .int .u8 0, .int .u8 0, .int .u8 0, .int .u8 0, .int .u8 0, .int .u8 0, .int .i64 0]) ?_ 4 _ rfl; (with_reducible repeat (first | refine blk_drewN ?_ _ | refine blk_drew ?_ | refine blk_alloc ?_ _)); refine blk_put (cs := #[.int .u8 t215, .int .u8 t216, .int .u8 t217, .int .u8 0, .int .u8 0, .int .u8 0, .int .u8 0, .int .u8 0, .int .u8 0, .int .u8 0, .int .u8 0, .int .u8 0, .int .i64 0]) ?_ 3 _ rfl; (with_reducible repeat (first | refine blk_drewN ?_ _ | refine blk_drew ?_ | refine blk_alloc ?_ _)); refine blk_put (cs := #[.int .u8 t215, .int .u8 t216, .int .u8 0, .int .u8 0, .int .u8 0, .int .u8 0, .int .u8 0, .int .u8 0, .int .u8 0, .int .u8 0, .int .u8 0, .int .u8 0, .int .i64 0]) ?_ 2 _ rfl; (with_reducible repeat (first | refine blk_drewN ?_ _ | refine blk_drew ?_ | refine blk_alloc ?_ _)); refine blk_put (cs := #[.int .u8 t215, .int .u8 0, .int .u8 0, .int .u8 0, .int .u8 0, .int .u8 0, .int .u8 0, .int .u8 0, .int .u8 0, .int .u8 0, .int .u8 0, .int .u8 0, .int .i64 0]) ?_ 1 _ rfl; (with_reducible repeat (first | refine blk_drewN ?_ _ | refine blk_drew ?_ | refine blk_alloc ?_ _)); refine blk_put (cs := #[.int .u8 0, .int .u8 0, .int .u8 0, .int .u8 0, .int .u8 0, .int .u8 0, .int .u8 0, .int .u8 0, .int .u8 0, .int .u8 0, .int .u8 0, .int .u8 0, .int .i64 0]) ?_ 0 _ rfl; (with_reducible repeat (first | refine blk_drewN ?_ _ | refine blk_drew ?_ | refine blk_alloc ?_ _)); exact BK230.out⟩, ⟨by repeat (first | (with_reducible first | exact HB.out | apply below_alloc | apply pw_below_drewN | apply below_drew1 | refine below_set ?_ GE214.out | refine below_set ?_ GE230.out) | exact HB.out)⟩⟩
         ·
          rw [if_neg c37] at H
          have c37b0 : (t213 == 0) = false := beq_eq_false_iff_ne.mpr c37
          have c37b1 : (t213 != 0) = true := bne_iff_ne.mpr c37
          have c37p_ : (t190 ≥ 2) = False := eq_false (by have h_ := c36b0; rw [c37b0] at h_; simpa using h_)
          have c37q_ : (2 ≤ t190) = False := c37p_
          by_cases c38 : t213 = 2
          ·
           rw [if_pos c38] at H
           have c38b0 : (t213 == 2) = true := beq_iff_eq.mpr c38
           have c38b1 : (t213 != 2) = false := bne_eq_false_iff_eq.mpr c38
           clear c38
           have H' := Aside0.mk H
           clear H
           go_wp2
           go_meet
           case rel => exact ⟨_, (false), (by first | rfl | (simp; done) | (simp [*]; done)), H', ⟨by first | omega | exact Nat.le_refl _⟩, ⟨by (with_reducible repeat (first | apply Kd.R_alloc | apply Kd.R_drewN | apply Kd.R_drew)); exact Kd.R_mono (Kd.R_far (p := ⟨gb230, 12, none⟩) (Kd.R_far (p := ⟨gb230, 11, none⟩) (Kd.R_far (p := ⟨gb230, 10, none⟩) (Kd.R_far (p := ⟨gb230, 9, none⟩) (Kd.R_far (p := ⟨gb230, 8, none⟩) (Kd.R_far (p := ⟨gb230, 7, none⟩) (Kd.R_far (p := ⟨gb230, 6, none⟩) (Kd.R_far (p := ⟨gb230, 5, none⟩) (Kd.R_far (p := ⟨gb230, 4, none⟩) (Kd.R_far (p := ⟨gb230, 3, none⟩) (Kd.R_far (p := ⟨gb230, 2, none⟩) (Kd.R_far (p := ⟨gb230, 1, none⟩) (Kd.R_far (p := ⟨gb230, 0, none⟩) (Kd.R_types HO196.out BK230.out (by decide)) (fun _ hk => hk.2) (.int .u8 t215)) (fun _ hk => hk.2) (.int .u8 t216)) (fun _ hk => hk.2) (.int .u8 t217)) (fun _ hk => hk.2) (.int .u8 t218)) (fun _ hk => hk.2) (.int .u8 t219)) (fun _ hk => hk.2) (.int .u8 t220)) (fun _ hk => hk.2) (.int .u8 t221)) (fun _ hk => hk.2) (.int .u8 t222)) (fun _ hk => hk.2) (.int .u8 t223)) (fun _ hk => hk.2) (.int .u8 t224)) (fun _ hk => hk.2) (.int .u8 t225)) (fun _ hk => hk.2) (.int .u8 t226)) (fun _ hk => hk.2) (.int .i64 t227)) (fun _ hk => trivial)⟩, ⟨by (with_reducible repeat (first | refine blk_drewN ?_ _ | refine blk_drew ?_ | refine blk_alloc ?_ _)); refine blk_far ?_ NB214_230.out _; (with_reducible repeat (first | refine blk_drewN ?_ _ | refine blk_drew ?_ | refine blk_alloc ?_ _)); refine blk_far ?_ NB214_230.out _; (with_reducible repeat (first | refine blk_drewN ?_ _ | refine blk_drew ?_ | refine blk_alloc ?_ _)); refine blk_far ?_ NB214_230.out _; (with_reducible repeat (first | refine blk_drewN ?_ _ | refine blk_drew ?_ | refine blk_alloc ?_ _)); refine blk_far ?_ NB214_230.out _; (with_reducible repeat (first | refine blk_drewN ?_ _ | refine blk_drew ?_ | refine blk_alloc ?_ _)); refine blk_far ?_ NB214_230.out _; (with_reducible repeat (first | refine blk_drewN ?_ _ | refine blk_drew ?_ | refine blk_alloc ?_ _)); refine blk_far ?_ NB214_230.out _; (with_reducible repeat (first | refine blk_drewN ?_ _ | refine blk_drew ?_ | refine blk_alloc ?_ _)); refine blk_far ?_ NB214_230.out _; (with_reducible repeat (first | refine blk_drewN ?_ _ | refine blk_drew ?_ | refine blk_alloc ?_ _)); refine blk_far ?_ NB214_230.out _; (with_reducible repeat (first | refine blk_drewN ?_ _ | refine blk_drew ?_ | refine blk_alloc ?_ _)); refine blk_far ?_ NB214_230.out _; (with_reducible repeat (first | refine blk_drewN ?_ _ | refine blk_drew ?_ | refine blk_alloc ?_ _)); refine blk_far ?_ NB214_230.out _; (with_reducible repeat (first | refine blk_drewN ?_ _ | refine blk_drew ?_ | refine blk_alloc ?_ _)); refine blk_far ?_ NB214_230.out _; (with_reducible repeat (first | refine blk_drewN ?_ _ | refine blk_drew ?_ | refine blk_alloc ?_ _)); refine blk_far ?_ NB214_230.out _; (with_reducible repeat (first | refine blk_drewN ?_ _ | refine blk_drew ?_ | refine blk_alloc ?_ _)); refine blk_far ?_ NB214_230.out _; (with_reducible repeat (first | refine blk_drewN ?_ _ | refine blk_drew ?_ | refine blk_alloc ?_ _)); exact BK214.out⟩, ⟨by (with_reducible repeat (first | refine blk_drewN ?_ _ | refine blk_drew ?_ | refine blk_alloc ?_ _)); refine blk_put (cs := #[.int .u8 t215, .int .u8 t216, .int .u8 t217, .int .u8 t218, .int .u8 t219, .int .u8 t220, .int .u8 t221, .int .u8 t222, .int .u8 t223, .int .u8 t224, .int .u8 t225, .int .u8 t226, .int .i64 0]) ?_ 12 _ rfl; (with_reducible repeat (first | refine blk_drewN ?_ _ | refine blk_drew ?_ | refine blk_alloc ?_ _)); refine blk_put (cs := #[.int .u8 t215, .int .u8 t216, .int .u8 t217, .int .u8 t218, .int .u8 t219, .int .u8 t220, .int .u8 t221, .int .u8 t222, .int .u8 t223, .int .u8 t224, .int .u8 t225, .int .u8 0, .int .i64 0]) ?_ 11 _ rfl; (with_reducible repeat (first | refine blk_drewN ?_ _ | refine blk_drew ?_ | refine blk_alloc ?_ _)); refine blk_put (cs := #[.int .u8 t215, .int .u8 t216, .int .u8 t217, .int .u8 t218, .int .u8 t219, .int .u8 t220, .int .u8 t221, .int .u8 t222, .int .u8 t223, .int .u8 t224, .int .u8 0, .int .u8 0, .int .i64 0]) ?_ 10 _ rfl; (with_reducible repeat (first | refine blk_drewN ?_ _ | refine blk_drew ?_ | refine blk_alloc ?_ _)); refine blk_put (cs := #[.int .u8 t215, .int .u8 t216, .int .u8 t217, .int .u8 t218, .int .u8 t219, .int .u8 t220, .int .u8 t221, .int .u8 t222, .int .u8 t223, .int .u8 0, .int .u8 0, .int .u8 0, .int .i64 0]) ?_ 9 _ rfl; (with_reducible repeat (first | refine blk_drewN ?_ _ | refine blk_drew ?_ | refine blk_alloc ?_ _)); refine blk_put (cs := #[.int .u8 t215, .int .u8 t216, .int .u8 t217, .int .u8 t218, .int .u8 t219, .int .u8 t220, .int .u8 t221, .int .u8 t222, .int .u8 0, .int .u8 0, .int .u8 0, .int .u8 0, .int .i64 0]) ?_ 8 _ rfl; (with_reducible repeat (first | refine blk_drewN ?_ _ | refine blk_drew ?_ | refine blk_alloc ?_ _)); refine blk_put (cs := #[.int .u8 t215, .int .u8 t216, .int .u8 t217, .int .u8 t218, .int .u8 t219, .int .u8 t220, .int .u8 t221, .int .u8 0, .int .u8 0, .int .u8 0, .int .u8 0, .int .u8 0, .int .i64 0]) ?_ 7 _ rfl; (with_reducible repeat (first | refine blk_drewN ?_ _ | refine blk_drew ?_ | refine blk_alloc ?_ _)); refine blk_put (cs := #[.int .u8 t215, .int .u8 t216, .int .u8 t217, .int .u8 t218, .int .u8 t219, .int .u8 t220, .int .u8 0, .int .u8 0, .int .u8 0, .int .u8 0, .int .u8 0, .int .u8 0, .int .i64 0]) ?_ 6 _ rfl; (with_reducible repeat (first | refine blk_drewN ?_ _ | refine blk_drew ?_ | refine blk_alloc ?_ _)); refine blk_put (cs := #[.int .u8 t215, .int .u8 t216, .int .u8 t217, .int .u8 t218, .int .u8 t219, .int .u8 0, .int .u8 0, .int .u8 0, .int .u8 0, .int .u8 0, .int .u8 0, .int .u8 0, .int .i64 0]) ?_ 5 _ rfl; (with_reducible repeat (first | refine blk_drewN ?_ _ | refine blk_drew ?_ | refine blk_alloc ?_ _)); refine blk_put (cs := #[.int .u8 t215, .int .u8 t216, .int .u8 t217, .int .u8 t218, .int .u8 0, .int .u8 0, .int .u8 0, .int .u8 0, .int .u8 0, .int .u8 0, .int .u8 0, .int .u8 0, .int .i64 0]) ?_ 4 _ rfl; (with_reducible repeat (first | refine blk_drewN ?_ _ | refine blk_drew ?_ | refine blk_alloc ?_ _)); refine blk_put (cs := #[.int .u8 t215, .int .u8 t216, .int .u8 t217, .int .u8 0, .int .u8 0, .int .u8 0, .int .u8 0, .int .u8 0, .int .u8 0, .int .u8 0, .int .u8 0, .int .u8 0, .int .i64 0]) ?_ 3 _ rfl; (with_reducible repeat (first | refine blk_drewN ?_ _ | refine blk_drew ?_ | refine blk_alloc ?_ _)); refine blk_put (cs := #[.int .u8 t215, .int .u8 t216, .int .u8 0, .int .u8 0, .int .u8 0, .int .u8 0, .int .u8 0, .int .u8 0, .int .u8 0, .int .u8 0, .int .u8 0, .int .u8 0, .int .i64 0]) ?_ 2 _ rfl; (with_reducible repeat (first | refine blk_drewN ?_ _ | refine blk_drew ?_ | refine blk_alloc ?_ _)); refine blk_put (cs := #[.int .u8 t215, .int .u8 0, .int .u8 0, .int .u8 0, .int .u8 0, .int .u8 0, .int .u8 0, .int .u8 0, .int .u8 0, .int .u8 0, .int .u8 0, .int .u8 0, .int .i64 0]) ?_ 1 _ rfl; (with_reducible repeat (first | refine blk_drewN ?_ _ | refine blk_drew ?_ | refine blk_alloc ?_ _)); refine blk_put (cs := #[.int .u8 0, .int .u8 0, .int .u8 0, .int .u8 0, .int .u8 0, .int .u8 0, .int .u8 0, .int .u8 0, .int .u8 0, .int .u8 0, .int .u8 0, .int .u8 0, .int .i64 0]) ?_ 0 _ rfl; (with_reducible repeat (first | refine blk_drewN ?_ _ | refine blk_drew ?_ | refine blk_alloc ?_ _)); exact BK230.out⟩, ⟨by repeat (first | (with_reducible first | exact HB.out | apply below_alloc | apply pw_below_drewN | apply below_drew1 | refine below_set ?_ GE214.out | refine below_set ?_ GE230.out) | exact HB.out)⟩⟩
          ·
           rw [if_neg c38] at H
           exact absurd H (rampartlaw02_EthSizes.j0_no HR.out)
       case rest =>
        clear HC16
        try clear c1
        try clear p1
        try clear q1
        try clear hx1
        try clear qi1
        try clear p2
        try clear hcv2
        try clear c3
        try clear hcv3
        try clear c5
        try clear c5b0
        try clear c5b1
        try clear c6
        try clear c6b0
        try clear c6b1
        try clear p6
        try clear c8
        try clear c8b0
        try clear c8b1
        try clear c9
        try clear c9b0
        try clear c9b1
        try clear c10
        try clear c10b0
        try clear c10b1
        try clear p11
        try clear q11
        try clear hx11
        try clear qi11
        try clear hf11
        try clear c12
        try clear c12b0
        try clear c12b1
        try clear c13
        try clear p13
        try clear q13
        try clear hx13
        try clear qi13
        try clear hf13
        try clear hcv27
        try clear hcv31
        try clear c34
        try clear c36
        try clear c36b0
        try clear c36b1
        try clear c36b2
        try clear c37
        try clear c37b0
        try clear c37b1
        try clear c38
        try clear c38b0
        try clear c38b1
        try clear hcz30_0
        try clear hcz30_1
        try clear hcz30_10
        try clear hcz30_11
        try clear hcz30_12
        try clear hcz30_2
        try clear hcz30_3
        try clear hcz30_4
        try clear hcz30_5
        try clear hcz30_6
        try clear hcz30_7
        try clear hcz30_8
        try clear hcz30_9
        try clear hcz35_0
        try clear hcz35_1
        try clear hcz35_10
        try clear hcz35_11
        try clear hcz35_12
        try clear hcz35_2
        try clear hcz35_3
        try clear hcz35_4
        try clear hcz35_5
        try clear hcz35_6
        try clear hcz35_7
        try clear hcz35_8
        try clear hcz35_9
        try clear hfz30_0
        try clear hfz30_1
        try clear hfz30_10
        try clear hfz30_11
        try clear hfz30_12
        try clear hfz30_2
        try clear hfz30_3
        try clear hfz30_4
        try clear hfz30_5
        try clear hfz30_6
        try clear hfz30_7
        try clear hfz30_8
        try clear hfz30_9
        try clear hfz35_0
        try clear hfz35_1
        try clear hfz35_10
        try clear hfz35_11
        try clear hfz35_12
        try clear hfz35_2
        try clear hfz35_3
        try clear hfz35_4
        try clear hfz35_5
        try clear hfz35_6
        try clear hfz35_7
        try clear hfz35_8
        try clear hfz35_9
        try clear hx11_0
        try clear hx13_0
        try clear p11
        try clear p13
        try clear q11
        try clear q13
        obtain ⟨kq, x65_15, rfl, HA, HJ15, HO_7, BK214, BK230, HB⟩ := hcut
        have hl7_15 := (Kd.R_reads' HO_7.out).1
        rw [hl7_15] at HO_7
        (try simp only [hl7_15])
        (try simp only [hl7_15] at BK214)
        (try simp only [hl7_15] at BK230)
        cases kq with
        | zero => exact absurd HA.out (by simp [rampartlaw02_EthSizes.j0])
        | succ kj15 =>
         have H := HA.out
         clear HA
         simp only [rampartlaw02_EthSizes.j0] at H
         by_cases c39 : x65_15 = true
         ·
          subst c39
          have H1 : (some false) = some r := by rw [if_pos rfl] at H; exact H
          clear H
          have H := H1
          clear H1
          exact absurd ((Option.some.inj H).trans HR.out) (by decide)
         ·
          replace c39 := Bool.eq_false_iff.mpr c39
          subst c39
          have H1 : (if t190 = 3 then (if t229 = 5 then (if t228.toList = ([] : List UInt8) then (if t227 = 0 then ((rampartlaw02_awake.f).bind fun t231 => (some t231)) else (some false)) else (some false)) else (some false)) else (if t229 = 0 then (if t220 = a1 then (if t227 = (wrap64 (256 * (wrap64 (a1)))) then (if (t228.size : Int) = (wrap64 ((y198.length : Int) - 14)) then ((rampartlaw02_awake.f).bind fun t232 => (some t232)) else (some false)) else (some false)) else (some false)) else (some false))) = some r := by rw [if_neg (show ¬ (false = true) by decide)] at H; exact H
          clear H
          have H := H1
          clear H1
          by_cases c40 : t190 = 3
          ·
           rw [if_pos c40] at H
           have c40b0 : (t190 == 3) = true := beq_iff_eq.mpr c40
           have c40b1 : (t190 != 3) = false := bne_eq_false_iff_eq.mpr c40
           clear c40
           by_cases c41 : t229 = 5
           ·
            rw [if_pos c41] at H
            have c41b0 : (t229 == 5) = true := beq_iff_eq.mpr c41
            have c41b1 : (t229 != 5) = false := bne_eq_false_iff_eq.mpr c41
            clear c41
            by_cases c42 : t228.toList = ([] : List UInt8)
            ·
             rw [if_pos c42] at H
             have c42b0 : (t228.toList == ([] : List UInt8)) = true := beq_iff_eq.mpr c42
             have c42b1 : (t228.toList != ([] : List UInt8)) = false := bne_eq_false_iff_eq.mpr c42
             clear c42
             by_cases c43 : t227 = 0
             ·
              rw [if_pos c43] at H
              have c43b0 : (t227 == 0) = true := beq_iff_eq.mpr c43
              have c43b1 : (t227 != 0) = false := bne_eq_false_iff_eq.mpr c43
              clear c43
              replace H := Option.bind_eq_some_iff.mp H
              obtain ⟨t231, A440, H⟩ := H
              replace H : (some t231) = some r := H
              have A44 := Aside0.mk A440
              clear A440
              obtain rfl := Option.some.inj H
              have hnb45 := NB230_214.out
              have hnc45 := NB214_230.out
              have hcz46_0 : wc.cell? ⟨gb230, 0, none⟩ = some (.int .u8 t215) := (blk_cell BK230.out 0).trans rfl
              have hcz46_1 : wc.cell? ⟨gb230, 1, none⟩ = some (.int .u8 t216) := (blk_cell BK230.out 1).trans rfl
              have hcz46_2 : wc.cell? ⟨gb230, 2, none⟩ = some (.int .u8 t217) := (blk_cell BK230.out 2).trans rfl
              have hcz46_3 : wc.cell? ⟨gb230, 3, none⟩ = some (.int .u8 t218) := (blk_cell BK230.out 3).trans rfl
              have hcz46_4 : wc.cell? ⟨gb230, 4, none⟩ = some (.int .u8 t219) := (blk_cell BK230.out 4).trans rfl
              have hcz46_5 : wc.cell? ⟨gb230, 5, none⟩ = some (.int .u8 t220) := (blk_cell BK230.out 5).trans rfl
              have hcz46_6 : wc.cell? ⟨gb230, 6, none⟩ = some (.int .u8 t221) := (blk_cell BK230.out 6).trans rfl
              have hcz46_7 : wc.cell? ⟨gb230, 7, none⟩ = some (.int .u8 t222) := (blk_cell BK230.out 7).trans rfl
              have hcz46_8 : wc.cell? ⟨gb230, 8, none⟩ = some (.int .u8 t223) := (blk_cell BK230.out 8).trans rfl
              have hcz46_9 : wc.cell? ⟨gb230, 9, none⟩ = some (.int .u8 t224) := (blk_cell BK230.out 9).trans rfl
              have hcz46_10 : wc.cell? ⟨gb230, 10, none⟩ = some (.int .u8 t225) := (blk_cell BK230.out 10).trans rfl
              have hcz46_11 : wc.cell? ⟨gb230, 11, none⟩ = some (.int .u8 t226) := (blk_cell BK230.out 11).trans rfl
              have hcz46_12 : wc.cell? ⟨gb230, 12, none⟩ = some (.int .i64 t227) := (blk_cell BK230.out 12).trans rfl
              have hfz46_0 := blk_frozen BK230.out 0
              have hfz46_1 := blk_frozen BK230.out 1
              have hfz46_2 := blk_frozen BK230.out 2
              have hfz46_3 := blk_frozen BK230.out 3
              have hfz46_4 := blk_frozen BK230.out 4
              have hfz46_5 := blk_frozen BK230.out 5
              have hfz46_6 := blk_frozen BK230.out 6
              have hfz46_7 := blk_frozen BK230.out 7
              have hfz46_8 := blk_frozen BK230.out 8
              have hfz46_9 := blk_frozen BK230.out 9
              have hfz46_10 := blk_frozen BK230.out 10
              have hfz46_11 := blk_frozen BK230.out 11
              have hfz46_12 := blk_frozen BK230.out 12
              go_wp2_with (first | (go_at_call 14; (with_reducible refine (rampartlaw02_awake.calls  t231 _ A44.out (by first | rfl | exact HR.out)).mono ?_); rintro e w47 ⟨rfl, hb⟩; have n0_ := Aside0.mk (Kd.R_below (by (with_reducible repeat (first | apply Kd.R_alloc | apply Kd.R_drewN | apply Kd.R_drew)); exact HO_7.out) hb); have n1_ := Aside0.mk (blk_below (g := gb214) (o := .cells #[.int .u8 t199, .int .u8 t200, .int .u8 t201, .int .u8 t202, .int .u8 t203, .int .u8 t204, .int .u8 t205, .int .u8 t206, .int .u8 t207, .int .u8 t208, .int .u8 t209, .int .u8 t210, .int .i64 t211] 26 (0, 0)) (by (with_reducible repeat (first | refine blk_drewN ?_ _ | refine blk_drew ?_ | refine blk_alloc ?_ _)); exact BK214.out) hb); have n2_ := Aside0.mk (blk_below (g := gb230) (o := .cells #[.int .u8 t215, .int .u8 t216, .int .u8 t217, .int .u8 t218, .int .u8 t219, .int .u8 t220, .int .u8 t221, .int .u8 t222, .int .u8 t223, .int .u8 t224, .int .u8 t225, .int .u8 t226, .int .i64 t227] 26 (0, 0)) (by (with_reducible repeat (first | refine blk_drewN ?_ _ | refine blk_drew ?_ | refine blk_alloc ?_ _)); exact BK230.out) hb); have n3_ := Aside0.mk (below_step (by repeat (first | (with_reducible first | exact HB.out | apply below_alloc | apply pw_below_drewN | apply below_drew1 | refine below_set ?_ GE214.out | refine below_set ?_ GE230.out) | exact HB.out)) hb); clear HO_7; clear BK214; clear BK230; clear HB; have HO_7 := n0_; have BK214 := n1_; have BK230 := n2_; have HB := n3_; clear n0_ n1_ n2_ n3_; (try clear hb); (try clear hb2); (try clear hk); (try clear hi)))
              go_ret
              exact ⟨by first | rfl | (simp [errW_none, errW_some] <;> rfl) | (simp only [← hji4, ← hji7]; first | rfl | (simp [errW_none, errW_some] <;> rfl)) | (simp [*, errW_none, errW_some] <;> rfl), by repeat (first | (with_reducible first | exact HB.out | apply below_alloc | apply pw_below_drewN | apply below_drew1 | refine below_set ?_ GE214.out | refine below_set ?_ GE230.out) | exact HB.out)⟩
             ·
              rw [if_neg c43] at H
              have c43b0 : (t227 == 0) = false := beq_eq_false_iff_ne.mpr c43
              have c43b1 : (t227 != 0) = true := bne_iff_ne.mpr c43
              exact absurd ((Option.some.inj H).trans HR.out) (by decide)
            ·
             rw [if_neg c42] at H
             have c42b0 : (t228.toList == ([] : List UInt8)) = false := beq_eq_false_iff_ne.mpr c42
             have c42b1 : (t228.toList != ([] : List UInt8)) = true := bne_iff_ne.mpr c42
             exact absurd ((Option.some.inj H).trans HR.out) (by decide)
           ·
            rw [if_neg c41] at H
            have c41b0 : (t229 == 5) = false := beq_eq_false_iff_ne.mpr c41
            have c41b1 : (t229 != 5) = true := bne_iff_ne.mpr c41
            exact absurd ((Option.some.inj H).trans HR.out) (by decide)
          ·
           rw [if_neg c40] at H
           have c40b0 : (t190 == 3) = false := beq_eq_false_iff_ne.mpr c40
           have c40b1 : (t190 != 3) = true := bne_iff_ne.mpr c40
           by_cases c48 : t229 = 0
           ·
            rw [if_pos c48] at H
            have c48b0 : (t229 == 0) = true := beq_iff_eq.mpr c48
            have c48b1 : (t229 != 0) = false := bne_eq_false_iff_eq.mpr c48
            clear c48
            by_cases c49 : t220 = a1
            ·
             rw [if_pos c49] at H
             have c49b0 : (t220 == a1) = true := beq_iff_eq.mpr c49
             have c49b1 : (t220 != a1) = false := bne_eq_false_iff_eq.mpr c49
             clear c49
             by_cases c50 : t227 = (wrap64 (256 * (wrap64 (a1))))
             ·
              rw [if_pos c50] at H
              have c50b0 : (t227 == (wrap64 (256 * (wrap64 (a1))))) = true := beq_iff_eq.mpr c50
              have c50b1 : (t227 != (wrap64 (256 * (wrap64 (a1))))) = false := bne_eq_false_iff_eq.mpr c50
              clear c50
              by_cases c51 : (t228.size : Int) = (wrap64 ((y198.length : Int) - 14))
              ·
               rw [if_pos c51] at H
               have c51b0 : ((t228.size : Int) == (wrap64 ((y198.length : Int) - 14))) = true := beq_iff_eq.mpr c51
               have c51b1 : ((t228.size : Int) != (wrap64 ((y198.length : Int) - 14))) = false := bne_eq_false_iff_eq.mpr c51
               clear c51
               replace H := Option.bind_eq_some_iff.mp H
               obtain ⟨t232, A520, H⟩ := H
               replace H : (some t232) = some r := H
               have A52 := Aside0.mk A520
               clear A520
               obtain rfl := Option.some.inj H
               have hnb53 := NB230_214.out
               have hnc53 := NB214_230.out
               have hcz54_0 : wc.cell? ⟨gb230, 0, none⟩ = some (.int .u8 t215) := (blk_cell BK230.out 0).trans rfl
               have hcz54_1 : wc.cell? ⟨gb230, 1, none⟩ = some (.int .u8 t216) := (blk_cell BK230.out 1).trans rfl
               have hcz54_2 : wc.cell? ⟨gb230, 2, none⟩ = some (.int .u8 t217) := (blk_cell BK230.out 2).trans rfl
               have hcz54_3 : wc.cell? ⟨gb230, 3, none⟩ = some (.int .u8 t218) := (blk_cell BK230.out 3).trans rfl
               have hcz54_4 : wc.cell? ⟨gb230, 4, none⟩ = some (.int .u8 t219) := (blk_cell BK230.out 4).trans rfl
               have hcz54_5 : wc.cell? ⟨gb230, 5, none⟩ = some (.int .u8 t220) := (blk_cell BK230.out 5).trans rfl
               have hcz54_6 : wc.cell? ⟨gb230, 6, none⟩ = some (.int .u8 t221) := (blk_cell BK230.out 6).trans rfl
               have hcz54_7 : wc.cell? ⟨gb230, 7, none⟩ = some (.int .u8 t222) := (blk_cell BK230.out 7).trans rfl
               have hcz54_8 : wc.cell? ⟨gb230, 8, none⟩ = some (.int .u8 t223) := (blk_cell BK230.out 8).trans rfl
               have hcz54_9 : wc.cell? ⟨gb230, 9, none⟩ = some (.int .u8 t224) := (blk_cell BK230.out 9).trans rfl
               have hcz54_10 : wc.cell? ⟨gb230, 10, none⟩ = some (.int .u8 t225) := (blk_cell BK230.out 10).trans rfl
               have hcz54_11 : wc.cell? ⟨gb230, 11, none⟩ = some (.int .u8 t226) := (blk_cell BK230.out 11).trans rfl
               have hcz54_12 : wc.cell? ⟨gb230, 12, none⟩ = some (.int .i64 t227) := (blk_cell BK230.out 12).trans rfl
               have hfz54_0 := blk_frozen BK230.out 0
               have hfz54_1 := blk_frozen BK230.out 1
               have hfz54_2 := blk_frozen BK230.out 2
               have hfz54_3 := blk_frozen BK230.out 3
               have hfz54_4 := blk_frozen BK230.out 4
               have hfz54_5 := blk_frozen BK230.out 5
               have hfz54_6 := blk_frozen BK230.out 6
               have hfz54_7 := blk_frozen BK230.out 7
               have hfz54_8 := blk_frozen BK230.out 8
               have hfz54_9 := blk_frozen BK230.out 9
               have hfz54_10 := blk_frozen BK230.out 10
               have hfz54_11 := blk_frozen BK230.out 11
               have hfz54_12 := blk_frozen BK230.out 12
               go_wp2_with (first | (go_at_call 14; (with_reducible refine (rampartlaw02_awake.calls  t232 _ A52.out (by first | rfl | exact HR.out)).mono ?_); rintro e w55 ⟨rfl, hb⟩; have n0_ := Aside0.mk (Kd.R_below (by (with_reducible repeat (first | apply Kd.R_alloc | apply Kd.R_drewN | apply Kd.R_drew)); exact HO_7.out) hb); have n1_ := Aside0.mk (blk_below (g := gb214) (o := .cells #[.int .u8 t199, .int .u8 t200, .int .u8 t201, .int .u8 t202, .int .u8 t203, .int .u8 t204, .int .u8 t205, .int .u8 t206, .int .u8 t207, .int .u8 t208, .int .u8 t209, .int .u8 t210, .int .i64 t211] 26 (0, 0)) (by (with_reducible repeat (first | refine blk_drewN ?_ _ | refine blk_drew ?_ | refine blk_alloc ?_ _)); exact BK214.out) hb); have n2_ := Aside0.mk (blk_below (g := gb230) (o := .cells #[.int .u8 t215, .int .u8 t216, .int .u8 t217, .int .u8 t218, .int .u8 t219, .int .u8 t220, .int .u8 t221, .int .u8 t222, .int .u8 t223, .int .u8 t224, .int .u8 t225, .int .u8 t226, .int .i64 t227] 26 (0, 0)) (by (with_reducible repeat (first | refine blk_drewN ?_ _ | refine blk_drew ?_ | refine blk_alloc ?_ _)); exact BK230.out) hb); have n3_ := Aside0.mk (below_step (by repeat (first | (with_reducible first | exact HB.out | apply below_alloc | apply pw_below_drewN | apply below_drew1 | refine below_set ?_ GE214.out | refine below_set ?_ GE230.out) | exact HB.out)) hb); clear HO_7; clear BK214; clear BK230; clear HB; have HO_7 := n0_; have BK214 := n1_; have BK230 := n2_; have HB := n3_; clear n0_ n1_ n2_ n3_; (try clear hb); (try clear hb2); (try clear hk); (try clear hi)))
               go_ret
               exact ⟨by first | rfl | (simp [errW_none, errW_some] <;> rfl) | (simp only [← hji4, ← hji7]; first | rfl | (simp [errW_none, errW_some] <;> rfl)) | (simp [*, errW_none, errW_some] <;> rfl), by repeat (first | (with_reducible first | exact HB.out | apply below_alloc | apply pw_below_drewN | apply below_drew1 | refine below_set ?_ GE214.out | refine below_set ?_ GE230.out) | exact HB.out)⟩
              ·
               rw [if_neg c51] at H
               have c51b0 : ((t228.size : Int) == (wrap64 ((y198.length : Int) - 14))) = false := beq_eq_false_iff_ne.mpr c51
               have c51b1 : ((t228.size : Int) != (wrap64 ((y198.length : Int) - 14))) = true := bne_iff_ne.mpr c51
               exact absurd ((Option.some.inj H).trans HR.out) (by decide)
             ·
              rw [if_neg c50] at H
              have c50b0 : (t227 == (wrap64 (256 * (wrap64 (a1))))) = false := beq_eq_false_iff_ne.mpr c50
              have c50b1 : (t227 != (wrap64 (256 * (wrap64 (a1))))) = true := bne_iff_ne.mpr c50
              exact absurd ((Option.some.inj H).trans HR.out) (by decide)
            ·
             rw [if_neg c49] at H
             have c49b0 : (t220 == a1) = false := beq_eq_false_iff_ne.mpr c49
             have c49b1 : (t220 != a1) = true := bne_iff_ne.mpr c49
             exact absurd ((Option.some.inj H).trans HR.out) (by decide)
           ·
            rw [if_neg c48] at H
            have c48b0 : (t229 == 0) = false := beq_eq_false_iff_ne.mpr c48
            have c48b1 : (t229 != 0) = true := bne_iff_ne.mpr c48
            exact absurd ((Option.some.inj H).trans HR.out) (by decide)
      ·
       rw [if_neg c12] at H
       exact absurd H (by simp)
     ·
      rw [if_neg c10] at H
      exact absurd H (by simp)
    ·
     rw [if_neg c9] at H
     exact absurd H (by simp)
   ·
    rw [if_neg c8] at H
    exact absurd H (by simp)
  ·
   rw [if_neg c6] at H
   exact absurd H (by simp)
 ·
  rw [if_neg c5] at H
  exact absurd H (by simp)

/-- THE ONE PURE STATEMENT of rampartlaw02_EthSizes: yours. -/
def rampartlaw02_EthSizes.Pure : Prop := ∀ (a0 : Int) (a1 : Int), (Lit.int .i64 a0).wf = true → (Lit.int .u8 a1).wf = true → ∃ k, rampartlaw02_EthSizes.f k a0 a1 = some true
theorem rampartlaw02_EthSizes.walk (P : rampartlaw02_EthSizes.Pure) (a0 : Int) (a1 : Int) (w : World) (w0 : (Lit.int .i64 a0).wf = true) (w1 : (Lit.int .u8 a1).wf = true) :
  Calls Try.prog 3 #[.int .i64 a0, .int .u8 a1] w fun e w' => e = .returned (.bool true) ∧ Below w.heap.size w w' := by
 obtain ⟨k, h⟩ := P a0 a1 w0 w1
 refine (rampartlaw02_EthSizes.calls k a0 a1 true w h rfl).mono ?_
 rintro e w' ⟨rfl, hd⟩
 exact ⟨rfl, hd⟩


end Go.Proofs.Ytchjfgdcldaacaa.HG
